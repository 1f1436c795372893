/- The walks of the functions on tapes: what each call returns; what was there is kept. -/
import Derived.Test.YtknepofclgjmiaaRows
import Derived.Test.YtknepofclgjmiaaPlain
import Derived.Test.YtknepofclgjmiaaMem
import Derived.Test.YtknepofclgjmiaaWords
import Derived.WalkKit
import Derived.WalkSpells
import Derived.WalkLawsBesides
import Derived.Handy
import Derived.RegionTactic
import Derived.StillTailTactics
import Derived.Deep.RegionHeld3
import Derived.Lib.Hide
namespace Go.Proofs.Ytknepofclgjmiaa
open Go.RowKit

def tapeOk (s t : Int) : Bool := isWord s && inB t 0 1000000
theorem tapeOk_iff {s t : Int} : tapeOk s t = true ↔ (0 ≤ s ∧ s ≤ 4294967295) ∧ 0 ≤ t ∧ t ≤ 1000000 := by simp [tapeOk, isWord_iff, inB_iff]
/-- may a word be read? -/
def tapeGo (s t : Int) : Bool := tapeOk s t && !(t == 1000000)
def tapeV (s t : Int) : Int := if tapeGo s t then keyed s 7 t else 0
def tapeNx (s t : Int) : Int := if tapeGo s t then t + 1 else t
theorem tapeGo_iff {s t : Int} : tapeGo s t = true ↔ (0 ≤ s ∧ s ≤ 4294967295) ∧ 0 ≤ t ∧ t ≤ 999999 := by
  simp only [tapeGo, Bool.and_eq_true, tapeOk_iff, Bool.not_eq_true', beq_eq_false_iff_ne]; omega
theorem tapeV_bounds (s t : Int) : 0 ≤ tapeV s t ∧ tapeV s t ≤ 4294967295 := by
  unfold tapeV; split
  · exact keyed_bounds _ _ _
  · omega
def tapeForkS (s t n : Int) : Int := if tapeOk s t && inB n 0 1000000 then keyed s 9 n else 0

set_option maxHeartbeats 400000 in
theorem c_impl_TapeOk (s t : Int) (w : World) :
    Calls Try.prog 18 #[.agg #[.int .i64 s, .int .i64 t]] w fun e w' => e = .returned (.bool (tapeOk s t)) ∧ Below w.heap.size w w' := by
  cases h1 : isWord s
  · go_enter Try.func18, Try.ntmps18
    go_wp2_with (first | (go_at_call 41; (with_reducible refine (c_impl_IsWord _ _).mono ?_); rintro e w' ⟨rfl, rfl⟩) | (go_at_call 36; (with_reducible refine (c_impl_within _ _ _ _).mono ?_); rintro e w' ⟨rfl, rfl⟩))
    go_ret
    exact ⟨ret_bool (by simp [tapeOk, h1]), (Below.refl _ _).alloc (Nat.le_refl _) _⟩
  · go_enter Try.func18, Try.ntmps18
    go_wp2_with (first | (go_at_call 41; (with_reducible refine (c_impl_IsWord _ _).mono ?_); rintro e w' ⟨rfl, rfl⟩) | (go_at_call 36; (with_reducible refine (c_impl_within _ _ _ _).mono ?_); rintro e w' ⟨rfl, rfl⟩))
    go_ret
    exact ⟨ret_bool (by simp [tapeOk, h1]), (Below.refl _ _).alloc (Nat.le_refl _) _⟩
set_option maxHeartbeats 400000 in
theorem c_impl_TapeWord (s t : Int) (w : World) :
    Calls Try.prog 40 #[.agg #[.int .i64 s, .int .i64 t]] w fun e w' => e = .returned (.tuple #[.int .i64 (tapeV s t), .agg #[.int .i64 s, .int .i64 (tapeNx s t)]]) ∧ Below w.heap.size w w' := by
  cases h1 : tapeOk s t
  · have h3 : tapeGo s t = false := by simp [tapeGo, h1]
    go_enter Try.func40, Try.ntmps40
    go_wp2_with (go_at_call 18; (with_reducible refine (c_impl_TapeOk _ _ _).mono ?_); rintro e w1 ⟨rfl, hb⟩; obtain ⟨bel, b1, b2⟩ := start2 hb; have c1 := b1.cell; have c2 := b2.cell; have f1 := b1.free; have f2 := b2.free; have hz := b2.lt; clear hb)
    go_region
    all_goals
      go_wp2
      refine bodyPost_ret (v := .tuple #[.int .i64 0, .agg #[.int .i64 s, .int .i64 t]]) (by simp [results, Try.results40, go_sem, c2]) rfl ⟨by simp [tapeV, tapeNx, h3], ?_⟩
      go_grown
  · cases h2 : (t == 1000000)
    · have h3 : tapeGo s t = true := by simp [tapeGo, h1, h2]
      have hb := tapeOk_iff.1 h1
      have ht0 := hb.2.1
      have ht1 := hb.2.2
      clear hb
      go_enter Try.func40, Try.ntmps40
      go_wp2_with (go_at_call 18; (with_reducible refine (c_impl_TapeOk _ _ _).mono ?_); rintro e w1 ⟨rfl, hb⟩; obtain ⟨bel, b1, b2⟩ := start2 hb; have c1 := b1.cell; have c2 := b2.cell; have f1 := b1.free; have f2 := b2.free; have hz := b2.lt; clear hb)
      go_region_held3 (fun W => W.cell? ⟨w.heap.size, 0, none⟩ = some (.int .i64 s) ∧ W.cell? ⟨w.heap.size, 1, none⟩ = some (.int .i64 t)) (first | exact ⟨c1 0, c1 1⟩ | go_keep) (first | (go_at_call 56; refine (c_impl_Keyed _ _ _ _).mono ?_; rintro e w' ⟨rfl, rfl⟩))
      have hw : IntKind.i64.wrap (t + 1) = t + 1 := IntWalk.i64_in _ ⟨by omega, by omega⟩
      go_wp2
      refine bodyPost_ret (v := .tuple #[.int .i64 (keyed s 7 t), .agg #[.int .i64 s, .int .i64 (t + 1)]]) (by simp [results, Try.results40, go_sem, c2, hw]) rfl ⟨by simp [tapeV, tapeNx, h3], ?_⟩
      go_grown
    · have h3 : tapeGo s t = false := by simp [tapeGo, h2]
      go_enter Try.func40, Try.ntmps40
      go_wp2_with (go_at_call 18; (with_reducible refine (c_impl_TapeOk _ _ _).mono ?_); rintro e w1 ⟨rfl, hb⟩; obtain ⟨bel, b1, b2⟩ := start2 hb; have c1 := b1.cell; have c2 := b2.cell; have f1 := b1.free; have f2 := b2.free; have hz := b2.lt; clear hb)
      go_region
      all_goals
        go_wp2
        refine bodyPost_ret (v := .tuple #[.int .i64 0, .agg #[.int .i64 s, .int .i64 t]]) (by simp [results, Try.results40, go_sem, c2]) rfl ⟨by simp [tapeV, tapeNx, h3], ?_⟩
        go_grown

def tapeBV (s t n : Int) : Int := if inB n 1 65536 then tapeV s t / 256 % n else 0
def tapeBN (s t n : Int) : Int := if inB n 1 65536 then tapeNx s t else t
theorem tapeNx_no {s t : Int} (h : tapeGo s t = false) : tapeNx s t = t := by simp [tapeNx, h]
theorem tapeV_no {s t : Int} (h : tapeGo s t = false) : tapeV s t = 0 := by simp [tapeV, h]

set_option maxHeartbeats 1000000 in
theorem c_impl_TapeBelow (s t n : Int) (w : World) :
    Calls Try.prog 17 #[.agg #[.int .i64 s, .int .i64 t], .int .i64 n] w fun e w' => e = .returned (.tuple #[.int .i64 (tapeBV s t n), .agg #[.int .i64 s, .int .i64 (tapeBN s t n)]]) ∧ Below w.heap.size w w' := by
  cases h0 : inB n 1 65536
  · go_enter Try.func17, Try.ntmps17
    go_wp2_with (go_at_call 36; (with_reducible refine (c_impl_within _ _ _ _).mono ?_); rintro e w' ⟨rfl, rfl⟩)
    go_region
    all_goals
      go_wp2
      refine bodyPost_ret (v := .tuple #[.int .i64 0, .agg #[.int .i64 s, .int .i64 t]]) (by simp [results, Try.results17, go_sem]) rfl ⟨by simp [tapeBV, tapeBN, h0], ?_⟩
      go_grown
  · cases h1 : tapeOk s t
    · have h3 : tapeGo s t = false := by simp [tapeGo, h1]
      go_enter Try.func17, Try.ntmps17
      go_wp2_with (first | (go_at_call 36; (with_reducible refine (c_impl_within _ _ _ _).mono ?_); rintro e w' ⟨rfl, rfl⟩) | (go_at_call 18; (with_reducible refine (c_impl_TapeOk _ _ _).mono ?_); rintro e w1 ⟨rfl, hb⟩; obtain ⟨bel, b1, b2⟩ := start2 hb; have c1 := b1.cell; have c2 := b2.cell; have f1 := b1.free; have f2 := b2.free; have hz := b2.lt; clear hb))
      go_region
      all_goals
        go_wp2
        refine bodyPost_ret (v := .tuple #[.int .i64 0, .agg #[.int .i64 s, .int .i64 t]]) (by simp [results, Try.results17, go_sem, c2]) rfl ⟨by simp [tapeBV, tapeBN, h0, tapeV_no h3, tapeNx_no h3], ?_⟩
        go_grown
    · cases h2 : (t == 1000000)
      · have hn := inB_iff.1 h0
        have hn1 := hn.1
        have hn2 := hn.2
        clear hn
        obtain ⟨hv0, hv1⟩ := tapeV_bounds s t
        go_enter Try.func17, Try.ntmps17
        go_wp2_with (first | (go_at_call 36; (with_reducible refine (c_impl_within _ _ _ _).mono ?_); rintro e w' ⟨rfl, rfl⟩) | (go_at_call 18; (with_reducible refine (c_impl_TapeOk _ _ _).mono ?_); rintro e w1 ⟨rfl, hb⟩; obtain ⟨bel, b1, b2⟩ := start2 hb; have c1 := b1.cell; have c2 := b2.cell; have f1 := b1.free; have f2 := b2.free; have hz := b2.lt; clear hb) | (go_at_call 40; (with_reducible refine (c_impl_TapeWord _ _ _).mono ?_); rintro e w2 ⟨rfl, hb⟩; have b1' := b1.below hb; have b2' := b2.below hb; have bel2 := below_next bel hb; clear c1 c2 f1 f2 hz; have c1 := b1'.cell; have c2 := b2'.cell; have f1 := b1'.free; have f2 := b2'.free; have hz := b2'.lt; clear hb))
        go_region
        go_wp2
        refine bodyPost_ret (v := .tuple #[.int .i64 (tapeV s t / 256 % n), .agg #[.int .i64 s, .int .i64 (tapeNx s t)]]) (by simp [results, Try.results17, go_sem, c2, hz]) rfl ⟨by simp [tapeBV, tapeBN, h0], ?_⟩
        go_grown
      · have h3 : tapeGo s t = false := by simp [tapeGo, h2]
        go_enter Try.func17, Try.ntmps17
        go_wp2_with (first | (go_at_call 36; (with_reducible refine (c_impl_within _ _ _ _).mono ?_); rintro e w' ⟨rfl, rfl⟩) | (go_at_call 18; (with_reducible refine (c_impl_TapeOk _ _ _).mono ?_); rintro e w1 ⟨rfl, hb⟩; obtain ⟨bel, b1, b2⟩ := start2 hb; have c1 := b1.cell; have c2 := b2.cell; have f1 := b1.free; have f2 := b2.free; have hz := b2.lt; clear hb))
        go_region
        all_goals
          go_wp2
          refine bodyPost_ret (v := .tuple #[.int .i64 0, .agg #[.int .i64 s, .int .i64 t]]) (by simp [results, Try.results17, go_sem, c2]) rfl ⟨by simp [tapeBV, tapeBN, h0, tapeV_no h3, tapeNx_no h3], ?_⟩
          go_grown

end Go.Proofs.Ytknepofclgjmiaa

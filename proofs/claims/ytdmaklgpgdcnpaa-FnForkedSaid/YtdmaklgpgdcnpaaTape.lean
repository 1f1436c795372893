/- The walks of the functions on tapes: what each call returns; what was there is kept. -/
import Derived.Test.YtdmaklgpgdcnpaaRows
import Derived.Test.YtdmaklgpgdcnpaaPlain
import Derived.Test.YtdmaklgpgdcnpaaMem
import Derived.Test.YtdmaklgpgdcnpaaWords
import Derived.WalkKit
import Derived.WalkSpells
import Derived.WalkLawsBesides
import Derived.Handy
import Derived.RegionTactic
import Derived.StillTailTactics
import Derived.Deep.RegionHeld3
import Derived.Lib.Hide
namespace Go.Proofs.Ytdmaklgpgdcnpaa
open Go.RowKit

def tapeOk (s t : Int) : Bool := isWord s && inB t 0 1000000
theorem tapeOk_iff {s t : Int} : tapeOk s t = true ↔ (0 ≤ s ∧ s ≤ 4294967295) ∧ 0 ≤ t ∧ t ≤ 1000000 := by simp [tapeOk, isWord_iff, inB_iff]
/-- may a word be read? -/
def tapeGo (s t : Int) : Bool := tapeOk s t && !(t == 1000000)
def tapeV (s t : Int) : Int := if tapeGo s t then keyed s 7 t else 0
def tapeNx (s t : Int) : Int := if tapeGo s t then t + 1 else t
theorem tapeGo_iff {s t : Int} : tapeGo s t = true ↔ (0 ≤ s ∧ s ≤ 4294967295) ∧ 0 ≤ t ∧ t ≤ 999999 := by
  simp only [tapeGo, Bool.and_eq_true, tapeOk_iff, Bool.not_eq_true', beq_eq_false_iff_ne]; omega
theorem tapeV_bounds (s t : Int) : 0 ≤ tapeV s t ∧ tapeV s t ≤ 4294967295 := by
  unfold tapeV; split
  · exact keyed_bounds _ _ _
  · omega
def tapeForkS (s t n : Int) : Int := if tapeOk s t && inB n 0 1000000 then keyed s 9 n else 0

set_option maxHeartbeats 400000 in
theorem c_impl_TapeOk (s t : Int) (w : World) :
    Calls Try.prog 68 #[.agg #[.int .i64 s, .int .i64 t]] w fun e w' => e = .returned (.bool (tapeOk s t)) ∧ Below w.heap.size w w' := by
  cases h1 : isWord s
  · go_enter Try.func68, Try.ntmps68
    go_wp2_with (first | (go_at_call 35; (with_reducible refine (c_impl_IsWord _ _).mono ?_); rintro e w' ⟨rfl, rfl⟩) | (go_at_call 56; (with_reducible refine (c_impl_within _ _ _ _).mono ?_); rintro e w' ⟨rfl, rfl⟩))
    go_ret
    exact ⟨ret_bool (by simp [tapeOk, h1]), (Below.refl _ _).alloc (Nat.le_refl _) _⟩
  · go_enter Try.func68, Try.ntmps68
    go_wp2_with (first | (go_at_call 35; (with_reducible refine (c_impl_IsWord _ _).mono ?_); rintro e w' ⟨rfl, rfl⟩) | (go_at_call 56; (with_reducible refine (c_impl_within _ _ _ _).mono ?_); rintro e w' ⟨rfl, rfl⟩))
    go_ret
    exact ⟨ret_bool (by simp [tapeOk, h1]), (Below.refl _ _).alloc (Nat.le_refl _) _⟩
set_option maxHeartbeats 400000 in
theorem c_impl_TapeFork (s t n : Int) (w : World) :
    Calls Try.prog 47 #[.agg #[.int .i64 s, .int .i64 t], .int .i64 n] w fun e w' => e = .returned (.agg #[.int .i64 (tapeForkS s t n), .int .i64 0]) ∧ Below w.heap.size w w' := by
  cases h1 : tapeOk s t
  · go_enter Try.func47, Try.ntmps47
    go_wp2_with (first | (go_at_call 68; (with_reducible refine (c_impl_TapeOk _ _ _).mono ?_); rintro e w1 ⟨rfl, hb⟩; obtain ⟨bel, b1, b2⟩ := start2 hb; have c1 := b1.cell; have c2 := b2.cell; have f1 := b1.free; have f2 := b2.free; have hz := b2.lt; clear hb))
    refine bodyPost_ret (v := .agg #[.int .i64 0, .int .i64 0]) (by simp [results, Try.results47, go_sem, c2]) rfl ⟨by simp [tapeForkS, h1], ?_⟩
    go_grown
  · cases h2 : inB n 0 1000000
    · go_enter Try.func47, Try.ntmps47
      go_wp2_with (first | (go_at_call 68; (with_reducible refine (c_impl_TapeOk _ _ _).mono ?_); rintro e w1 ⟨rfl, hb⟩; obtain ⟨bel, b1, b2⟩ := start2 hb; have c1 := b1.cell; have c2 := b2.cell; have f1 := b1.free; have f2 := b2.free; have hz := b2.lt; clear hb) | (go_at_call 56; (with_reducible refine (c_impl_within _ _ _ _).mono ?_); rintro e w' ⟨rfl, rfl⟩))
      refine bodyPost_ret (v := .agg #[.int .i64 0, .int .i64 0]) (by simp [results, Try.results47, go_sem, c2]) rfl ⟨by simp [tapeForkS, h1, h2], ?_⟩
      go_grown
    · go_enter Try.func47, Try.ntmps47
      go_wp2_with (first | (go_at_call 68; (with_reducible refine (c_impl_TapeOk _ _ _).mono ?_); rintro e w1 ⟨rfl, hb⟩; obtain ⟨bel, b1, b2⟩ := start2 hb; have c1 := b1.cell; have c2 := b2.cell; have f1 := b1.free; have f2 := b2.free; have hz := b2.lt; clear hb) | (go_at_call 56; (with_reducible refine (c_impl_within _ _ _ _).mono ?_); rintro e w' ⟨rfl, rfl⟩) | (go_at_call 34; (with_reducible refine (c_impl_Keyed _ _ _ _).mono ?_); rintro e w' ⟨rfl, rfl⟩))
      refine bodyPost_ret (v := .agg #[.int .i64 (keyed s 9 n), .int .i64 0]) (by simp [results, Try.results47, go_sem, c2]) rfl ⟨by simp [tapeForkS, h1, h2], ?_⟩
      go_grown
set_option maxHeartbeats 400000 in
theorem c_impl_TapeWord (s t : Int) (w : World) :
    Calls Try.prog 48 #[.agg #[.int .i64 s, .int .i64 t]] w fun e w' => e = .returned (.tuple #[.int .i64 (tapeV s t), .agg #[.int .i64 s, .int .i64 (tapeNx s t)]]) ∧ Below w.heap.size w w' := by
  cases h1 : tapeOk s t
  · have h3 : tapeGo s t = false := by simp [tapeGo, h1]
    go_enter Try.func48, Try.ntmps48
    go_wp2_with (go_at_call 68; (with_reducible refine (c_impl_TapeOk _ _ _).mono ?_); rintro e w1 ⟨rfl, hb⟩; obtain ⟨bel, b1, b2⟩ := start2 hb; have c1 := b1.cell; have c2 := b2.cell; have f1 := b1.free; have f2 := b2.free; have hz := b2.lt; clear hb)
    go_region
    all_goals
      go_wp2
      refine bodyPost_ret (v := .tuple #[.int .i64 0, .agg #[.int .i64 s, .int .i64 t]]) (by simp [results, Try.results48, go_sem, c2]) rfl ⟨by simp [tapeV, tapeNx, h3], ?_⟩
      go_grown
  · cases h2 : (t == 1000000)
    · have h3 : tapeGo s t = true := by simp [tapeGo, h1, h2]
      have hb := tapeOk_iff.1 h1
      have ht0 := hb.2.1
      have ht1 := hb.2.2
      clear hb
      go_enter Try.func48, Try.ntmps48
      go_wp2_with (go_at_call 68; (with_reducible refine (c_impl_TapeOk _ _ _).mono ?_); rintro e w1 ⟨rfl, hb⟩; obtain ⟨bel, b1, b2⟩ := start2 hb; have c1 := b1.cell; have c2 := b2.cell; have f1 := b1.free; have f2 := b2.free; have hz := b2.lt; clear hb)
      go_region_held3 (fun W => W.cell? ⟨w.heap.size, 0, none⟩ = some (.int .i64 s) ∧ W.cell? ⟨w.heap.size, 1, none⟩ = some (.int .i64 t)) (first | exact ⟨c1 0, c1 1⟩ | go_keep) (first | (go_at_call 34; refine (c_impl_Keyed _ _ _ _).mono ?_; rintro e w' ⟨rfl, rfl⟩))
      have hw : IntKind.i64.wrap (t + 1) = t + 1 := IntWalk.i64_in _ ⟨by omega, by omega⟩
      go_wp2
      refine bodyPost_ret (v := .tuple #[.int .i64 (keyed s 7 t), .agg #[.int .i64 s, .int .i64 (t + 1)]]) (by simp [results, Try.results48, go_sem, c2, hw]) rfl ⟨by simp [tapeV, tapeNx, h3], ?_⟩
      go_grown
    · have h3 : tapeGo s t = false := by simp [tapeGo, h2]
      go_enter Try.func48, Try.ntmps48
      go_wp2_with (go_at_call 68; (with_reducible refine (c_impl_TapeOk _ _ _).mono ?_); rintro e w1 ⟨rfl, hb⟩; obtain ⟨bel, b1, b2⟩ := start2 hb; have c1 := b1.cell; have c2 := b2.cell; have f1 := b1.free; have f2 := b2.free; have hz := b2.lt; clear hb)
      go_region
      all_goals
        go_wp2
        refine bodyPost_ret (v := .tuple #[.int .i64 0, .agg #[.int .i64 s, .int .i64 t]]) (by simp [results, Try.results48, go_sem, c2]) rfl ⟨by simp [tapeV, tapeNx, h3], ?_⟩
        go_grown

def tapeBV (s t n : Int) : Int := if inB n 1 65536 then tapeV s t / 256 % n else 0
def tapeBN (s t n : Int) : Int := if inB n 1 65536 then tapeNx s t else t
theorem tapeNx_no {s t : Int} (h : tapeGo s t = false) : tapeNx s t = t := by simp [tapeNx, h]
theorem tapeV_no {s t : Int} (h : tapeGo s t = false) : tapeV s t = 0 := by simp [tapeV, h]


end Go.Proofs.Ytdmaklgpgdcnpaa

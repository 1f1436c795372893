/- The walks of the reference's TapeList: a list in new memory, and the tape behind it. -/
import Derived.Test.YtagocjdodgolkaaRows
import Derived.Test.YtagocjdodgolkaaPlain
import Derived.Test.YtagocjdodgolkaaMem
import Derived.Test.YtagocjdodgolkaaWords
import Derived.Test.YtagocjdodgolkaaList
import Derived.Test.YtagocjdodgolkaaTape
import Derived.WalkKit
import Derived.WalkSpells
import Derived.WalkLawsBesides
import Derived.OwnWalk
import Derived.Handy
import Derived.RegionTactic
import Derived.Deep.RegionLaw
import Derived.Deep.AppendLies
import Derived.Maps.AppendAt
import Derived.Deep.Onto
import Derived.Lib.Hide
import Derived.Test.YtagocjdodgolkaaTapeList
namespace Go.Proofs.Ytagocjdodgolkaa
open Go.RowKit
set_option maxHeartbeats 4000000 in
theorem c_spec_TapeList (s t n k : Int) (w : World) :
    Calls Try.prog 64 #[.agg #[.int .i64 s, .int .i64 t], .int .i64 n, .int .i64 k] w (GivesLT w (tapeLF s t n k) s (tapeLN s t n k)) := by
  obtain ⟨i0, hi, hz0, hz1, hz2⟩ := info_parts int_info
  have HZ := Lib.hid (And.intro hz1 hz2)
  clear hz1 hz2
  cases h1 : inB k 0 1000
  · skip
    have hno : tapeLok s t n k = false := by simp [tapeLok, h1]
    have e1 := Lib.hid (show tapeLF s t n k = [] by simp [tapeLF, hno])
    have e2 := Lib.hid (show tapeLN s t n k = t by simp [tapeLN, hno])
    clear hno
    go_enter Try.func64, Try.ntmps64
    go_wp2_with (first | (go_at_call 50; (with_reducible refine (c_spec_l01In _ _ _ _).mono ?_); rintro e w' ⟨rfl, rfl⟩) | (go_at_call 73; (with_reducible refine (c_spec_TapeOk _ _ _).mono ?_); rintro e w1 ⟨rfl, hb⟩; obtain ⟨bel, b1, b2, b3⟩ := start3 hb; have c1 := b1.cell; have c2 := b2.cell; have f1 := b1.free; have f2 := b2.free; have hz := b3.lt; clear hb))
    have b3 : Box (((w.alloc (.cells #[.int .i64 s, .int .i64 t] 40)).alloc (.cells #[.int .i64 s, .int .i64 t] 40)).alloc (.cells #[] 3)) (w.heap.size + 2) 3 #[] := by simpa using Box.new ((w.alloc (.cells #[.int .i64 s, .int .i64 t] 40)).alloc (.cells #[.int .i64 s, .int .i64 t] 40)) 3 #[]
    go_region
    all_goals
      go_wp2
      refine bodyPost_ret (v := .tuple #[.slice (some ⟨w.heap.size + 2, 0, none⟩) 0 0, .agg #[.int .i64 s, .int .i64 t]]) (by simp [results, Try.results64, go_sem, *]) rfl ?_
      rw [e1.out, e2.out]
      refine GivesLT.lit0 (g := w.heap.size + 2) ?_ (by omega) (by go_grown)
      repeat (first | exact b3 | refine Box.far ?_ (by simp) _ | refine Box.drew ?_ | refine Box.drewN ?_ _)
  have hk := inB_iff.1 h1
  have hk0 := hk.1
  have hk1 := hk.2
  clear hk
  cases h2 : inB n 1 65536
  · skip
    have hno : tapeLok s t n k = false := by simp [tapeLok, h2]
    have e1 := Lib.hid (show tapeLF s t n k = [] by simp [tapeLF, hno])
    have e2 := Lib.hid (show tapeLN s t n k = t by simp [tapeLN, hno])
    clear hno
    go_enter Try.func64, Try.ntmps64
    go_wp2_with (first | (go_at_call 50; (with_reducible refine (c_spec_l01In _ _ _ _).mono ?_); rintro e w' ⟨rfl, rfl⟩) | (go_at_call 73; (with_reducible refine (c_spec_TapeOk _ _ _).mono ?_); rintro e w1 ⟨rfl, hb⟩; obtain ⟨bel, b1, b2, b3⟩ := start3 hb; have c1 := b1.cell; have c2 := b2.cell; have f1 := b1.free; have f2 := b2.free; have hz := b3.lt; clear hb))
    have b3 : Box (((w.alloc (.cells #[.int .i64 s, .int .i64 t] 40)).alloc (.cells #[.int .i64 s, .int .i64 t] 40)).alloc (.cells #[] 3)) (w.heap.size + 2) 3 #[] := by simpa using Box.new ((w.alloc (.cells #[.int .i64 s, .int .i64 t] 40)).alloc (.cells #[.int .i64 s, .int .i64 t] 40)) 3 #[]
    go_region
    all_goals
      go_wp2
      refine bodyPost_ret (v := .tuple #[.slice (some ⟨w.heap.size + 2, 0, none⟩) 0 0, .agg #[.int .i64 s, .int .i64 t]]) (by simp [results, Try.results64, go_sem, *]) rfl ?_
      rw [e1.out, e2.out]
      refine GivesLT.lit0 (g := w.heap.size + 2) ?_ (by omega) (by go_grown)
      repeat (first | exact b3 | refine Box.far ?_ (by simp) _ | refine Box.drew ?_ | refine Box.drewN ?_ _)
  have hn := inB_iff.1 h2
  have hn0 := hn.1
  have hn1 := hn.2
  clear hn
  cases h3 : tapeOk s t
  · skip
    have hno : tapeLok s t n k = false := by simp [tapeLok, h3]
    have e1 := Lib.hid (show tapeLF s t n k = [] by simp [tapeLF, hno])
    have e2 := Lib.hid (show tapeLN s t n k = t by simp [tapeLN, hno])
    clear hno
    go_enter Try.func64, Try.ntmps64
    go_wp2_with (first | (go_at_call 50; (with_reducible refine (c_spec_l01In _ _ _ _).mono ?_); rintro e w' ⟨rfl, rfl⟩) | (go_at_call 73; (with_reducible refine (c_spec_TapeOk _ _ _).mono ?_); rintro e w1 ⟨rfl, hb⟩; obtain ⟨bel, b1, b2, b3⟩ := start3 hb; have c1 := b1.cell; have c2 := b2.cell; have f1 := b1.free; have f2 := b2.free; have hz := b3.lt; clear hb))
    go_region
    all_goals
      go_wp2
      refine bodyPost_ret (v := .tuple #[.slice (some ⟨w.heap.size + 2, 0, none⟩) 0 0, .agg #[.int .i64 s, .int .i64 t]]) (by simp [results, Try.results64, go_sem, *]) rfl ?_
      rw [e1.out, e2.out]
      refine GivesLT.lit0 (g := w.heap.size + 2) ?_ (by omega) (by go_grown)
      repeat (first | exact b3 | refine Box.far ?_ (by simp) _ | refine Box.drew ?_ | refine Box.drewN ?_ _)
  have hb := tapeOk_iff.1 h3
  have ht0 := hb.2.1
  have ht1 := hb.2.2
  clear hb
  by_cases h4 : 1000000 < t + k
  · skip
    have hno : tapeLok s t n k = false := by simp [tapeLok, h1, h2, h3]; omega
    have e1 := Lib.hid (show tapeLF s t n k = [] by simp [tapeLF, hno])
    have e2 := Lib.hid (show tapeLN s t n k = t by simp [tapeLN, hno])
    clear hno
    go_enter Try.func64, Try.ntmps64
    go_wp2_with (first | (go_at_call 50; (with_reducible refine (c_spec_l01In _ _ _ _).mono ?_); rintro e w' ⟨rfl, rfl⟩) | (go_at_call 73; (with_reducible refine (c_spec_TapeOk _ _ _).mono ?_); rintro e w1 ⟨rfl, hb⟩; obtain ⟨bel, b1, b2, b3⟩ := start3 hb; have c1 := b1.cell; have c2 := b2.cell; have f1 := b1.free; have f2 := b2.free; have hz := b3.lt; clear hb))
    go_region
    all_goals
      go_wp2
      refine bodyPost_ret (v := .tuple #[.slice (some ⟨w.heap.size + 2, 0, none⟩) 0 0, .agg #[.int .i64 s, .int .i64 t]]) (by simp [results, Try.results64, go_sem, *]) rfl ?_
      rw [e1.out, e2.out]
      refine GivesLT.lit0 (g := w.heap.size + 2) ?_ (by omega) (by go_grown)
      repeat (first | exact b3 | refine Box.far ?_ (by simp) _ | refine Box.drew ?_ | refine Box.drewN ?_ _)
  have hyes : tapeLok s t n k = true := by simp [tapeLok, h1, h2, h3]; omega
  have e1 := Lib.hid (show tapeLF s t n k = tapeL s t n k.toNat by simp [tapeLF, hyes])
  have e2 := Lib.hid (show tapeLN s t n k = t + k by simp [tapeLN, hyes])
  have HY := Lib.hid hyes
  clear hyes
  go_enter Try.func64, Try.ntmps64
  go_wp2_with (first | (go_at_call 50; (with_reducible refine (c_spec_l01In _ _ _ _).mono ?_); rintro e w' ⟨rfl, rfl⟩) | (go_at_call 73; (with_reducible refine (c_spec_TapeOk _ _ _).mono ?_); rintro e w1 ⟨rfl, hb⟩; obtain ⟨bel, b1, b2, b3⟩ := start3 hb; have c1 := b1.cell; have c2 := b2.cell; have f1 := b1.free; have f2 := b2.free; have hz := b3.lt; clear hb))
  go_loopw [8, 9] (fun v i wr => ∃ m : Nat, (m : Int) ≤ k ∧ i = .int .i64 m ∧ wr.ownsRow (w.heap.size + 2) 3 1 v m (vals (tapeL s t n m)) ∧ Box wr w.heap.size 40 #[.int .i64 s, .int .i64 (t + m)] ∧ Box wr (w.heap.size + 1) 40 #[.int .i64 0, .int .i64 0] ∧ Below w.heap.size w wr) (fun _ i _ => (k - intOf i).toNat)
  case atStart => exact ⟨0, by omega, rfl, ⟨rfl, .inr ⟨w.heap.size + 2, 0, #[], rfl, Nat.le_refl _, b3, Nat.le_refl _, by simp [maxLen], rfl, rfl⟩⟩, by simpa using b1, b2, bel⟩
  case round =>
    obtain ⟨m, hm, rfl, hown, q1, q2, hbel⟩ := hrel
    have HOWN := Lib.hid hown
    have hsz := hbel.size
    clear hown c1 c2 f1 f2 hz
    by_cases hlt : (m : Int) < k
    · have HT := Lib.hid (fun W => c_spec_TapeBelow s (t + (m : Int)) n W)
      have hv := tapeB_in HY.out hlt
      rw [hv.1, hv.2] at HT
      clear hv
      have hst := Lib.hid (tapeL_succ s t n m)
      generalize tapeV s (t + (m : Int)) / 256 % n = x at HT hst
      have c1 := q1.cell
      have f1 := q1.free
      go_wp2_with (first | (go_at_call 74; (with_reducible refine (HT.out _).mono ?_); rintro e w2 ⟨rfl, hb⟩; have q1' := q1.below hb; have q2' := q2.below hb; have HOWN' := Lib.hid (OwnV.below HOWN.out hb); have hbel' := below_next hbel hb; clear c1 f1 HOWN; have c1 := q1'.cell; have f1 := q1'.free; have z1 := q1'.lt; have hz1 := q2'.lt; clear hb) | (at_builtin; go_loud (refine wpList_append_own _ rfl (.tmp 47) (.tmp 49) 22 rfl (w.heap.size + 2) 3 i0 (.int .i64 0) 1 8 Try.underlying22 hi hz0 HZ.out.1 HZ.out.2 rfl (by decide) _ _ _ rfl (World.ownsRow.alloc (World.ownsRow.alloc (own_far (p := ⟨w.heap.size, 1, none⟩) (own_far (p := ⟨w.heap.size, 0, none⟩) HOWN'.out (own_ne HOWN'.out (show w.heap.size < w.heap.size + 2 by omega))) (own_ne HOWN'.out (show w.heap.size < w.heap.size + 2 by omega))) _) _) ⟨_, 0, none⟩ 1 1 [.int .i64 _] rfl rfl (news_one (by simp)) (by simp [Value.oneCell']) (by unfold maxLen; omega) (by omega) (by simp; omega) ?_; intro v' w3 hown3 hgrow3 _; have p1 := Box.grown ((((q1'.set 0 _).set 1 _).alloc _).alloc _) hgrow3 (own_ne HOWN'.out (by omega)); have p2 := Box.grown ((((q2'.far (by simp) _).far (by simp) _).alloc _).alloc _) hgrow3 (own_ne HOWN'.out (by omega)); have hb3 := Below.grown ((((hbel'.setCell (Nat.le_refl _) _).setCell (Nat.le_refl _) _).alloc (by simp; exact hbel'.size) _).alloc (by simp; have := hbel'.size; omega) _) hgrow3 (by have := hbel'.size; simp; omega) (fun k hk => by have := (HOWN'.out.lt k hk).1; omega); clear c1 f1 z1 hgrow3; have c1 := p1.cell; have f1 := p1.free)))
      go_roundw
      case rel =>
        have o2 := hown3
        exact ⟨m + 1, by omega, by go_num, by rw [← hst.out]; exact o2, by simpa [Int.add_assoc] using p1, p2, hb3⟩
      case measure => simp [intOf]; omega
    · have hkm : k = (m : Int) := by omega
      have HK := Lib.hid hkm
      have hkn : k.toNat = m := by omega
      rw [hkn] at e1
      clear hkm hkn
      have c1 := q1.cell
      have f2 := q2.free
      have c2 := q2.cell
      go_wp2_with fail
      go_region
      all_goals
        go_wp2
        refine bodyPost_ret (v := .tuple #[u8, .agg #[.int .i64 s, .int .i64 (t + m)]]) (by simp [results, Try.results64, go_sem, *]) rfl ?_
        rw [e1.out, e2.out, HK.out]
        refine GivesLT.of (lo := w.heap.size + 2) (n := m) ?_ (by omega) ?_
        · have h1 := own_far (p := ⟨w.heap.size + 1, 0, none⟩) (u := .int .i64 s) HOWN.out (own_ne HOWN.out (by simp))
          have h2 := own_far (p := ⟨w.heap.size + 1, 1, none⟩) (u := .int .i64 (t + m)) h1 (own_ne h1 (by simp))
          first | exact h2 | exact World.ownsRow.drew h2
        · go_grown
end Go.Proofs.Ytagocjdodgolkaa

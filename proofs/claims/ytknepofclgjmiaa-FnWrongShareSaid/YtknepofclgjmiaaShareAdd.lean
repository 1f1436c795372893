/- The walks of ShareAdd: the shares in new memory, and the tape behind them. -/
import Derived.Test.YtknepofclgjmiaaRows
import Derived.Test.YtknepofclgjmiaaPlain
import Derived.Test.YtknepofclgjmiaaMem
import Derived.Test.YtknepofclgjmiaaWords
import Derived.Test.YtknepofclgjmiaaList
import Derived.Test.YtknepofclgjmiaaField
import Derived.Test.YtknepofclgjmiaaSums
import Derived.Test.YtknepofclgjmiaaTape
import Derived.Test.YtknepofclgjmiaaTapeList
import Derived.WalkKit
import Derived.WalkSpells
import Derived.WalkLawsBesides
import Derived.OwnWalk
import Derived.Handy
import Derived.RegionTactic
import Derived.Deep.RegionLaw
import Derived.Deep.AppendLies
import Derived.Maps.AppendAt
import Derived.Deep.Onto
import Derived.Lib.Hide
namespace Go.Proofs.Ytknepofclgjmiaa
open Go.RowKit
def tapeLow (s t : Int) : Bool := tapeOk s t && decide (t ≤ 900000)
def shareOk (p x n s t : Int) : Bool := isEl p x && inB n 1 5 && tapeLow s t
def shareF (p x n s t : Int) : List Int := if shareOk p x n s t then tapeLF s t p (n - 1) ++ [fsub p x (fsum p (tapeLF s t p (n - 1)))] else []
def shareN (p x n s t : Int) : Int := if shareOk p x n s t then tapeLN s t p (n - 1) else t
theorem shareF_len (p x n s t : Int) : (shareF p x n s t).length ≤ 1048576 := by
  unfold shareF
  split
  · have := tapeLF_len s t p (n - 1)
    simp; omega
  · simp
theorem box_at {W : World} {cs : Array Value} {t : TypeId} {g : Nat} (h : W.heap.size = g) : Box (W.alloc (.cells cs t)) g t cs := h ▸ Box.new W t cs
theorem vals_app (xs : List Int) (a : Int) : vals xs ++ [.int .i64 a] = vals (xs ++ [a]) := by simp [vals]
set_option maxHeartbeats 8000000 in
theorem c_impl_ShareAdd (p x n s t : Int) (w : World) :
    Calls Try.prog 25 #[.int .i64 p, .int .i64 x, .int .i64 n, .agg #[.int .i64 s, .int .i64 t]] w (GivesLT w (shareF p x n s t) s (shareN p x n s t)) := by
  obtain ⟨i0, hi, hz0, hz1, hz2⟩ := info_parts int_info
  have HZ := Lib.hid (And.intro hz1 hz2)
  clear hz1 hz2
  cases h1 : isEl p x
  · skip
    have hno : shareOk p x n s t = false := by simp [shareOk, h1]
    have e1 := Lib.hid (show shareF p x n s t = [] by simp [shareF, hno])
    have e2 := Lib.hid (show shareN p x n s t = t by simp [shareN, hno])
    clear hno
    go_enter Try.func25, Try.ntmps25
    go_wp2_with (first | (go_at_call 36; (with_reducible refine (c_impl_within _ _ _ _).mono ?_); rintro e w' ⟨rfl, rfl⟩) | (go_at_call 35; (with_reducible refine (c_impl_IsElement _ _ _).mono ?_); rintro e w' ⟨rfl, rfl⟩) | (go_at_call 18; (with_reducible refine (c_impl_TapeOk _ _ _).mono ?_); rintro e w1 ⟨rfl, hb⟩; obtain ⟨bel, b1, b2⟩ := start2 hb; have c1 := b1.cell; have c2 := b2.cell; have f1 := b1.free; have f2 := b2.free; have hz := b2.lt; have hz1 := b1.lt; clear hb))
    go_region
    all_goals
      go_wp2
      refine bodyPost_ret (v := .tuple #[.slice none 0 0, .agg #[.int .i64 s, .int .i64 t]]) (by simp [results, Try.results25, go_sem, *]) rfl ?_
      rw [e1.out, e2.out]
      exact GivesLT.nil (by go_grown)
  cases h2 : inB n 1 5
  · skip
    have hno : shareOk p x n s t = false := by simp [shareOk, h2]
    have e1 := Lib.hid (show shareF p x n s t = [] by simp [shareF, hno])
    have e2 := Lib.hid (show shareN p x n s t = t by simp [shareN, hno])
    clear hno
    go_enter Try.func25, Try.ntmps25
    go_wp2_with (first | (go_at_call 36; (with_reducible refine (c_impl_within _ _ _ _).mono ?_); rintro e w' ⟨rfl, rfl⟩) | (go_at_call 35; (with_reducible refine (c_impl_IsElement _ _ _).mono ?_); rintro e w' ⟨rfl, rfl⟩) | (go_at_call 18; (with_reducible refine (c_impl_TapeOk _ _ _).mono ?_); rintro e w1 ⟨rfl, hb⟩; obtain ⟨bel, b1, b2⟩ := start2 hb; have c1 := b1.cell; have c2 := b2.cell; have f1 := b1.free; have f2 := b2.free; have hz := b2.lt; have hz1 := b1.lt; clear hb))
    go_region
    all_goals
      go_wp2
      refine bodyPost_ret (v := .tuple #[.slice none 0 0, .agg #[.int .i64 s, .int .i64 t]]) (by simp [results, Try.results25, go_sem, *]) rfl ?_
      rw [e1.out, e2.out]
      exact GivesLT.nil (by go_grown)
  have hn := inB_iff.1 h2
  have hn0 := hn.1
  have hn1 := hn.2
  clear hn
  cases h3 : tapeOk s t
  · skip
    have hno : shareOk p x n s t = false := by simp [shareOk, tapeLow, h3]
    have e1 := Lib.hid (show shareF p x n s t = [] by simp [shareF, hno])
    have e2 := Lib.hid (show shareN p x n s t = t by simp [shareN, hno])
    clear hno
    go_enter Try.func25, Try.ntmps25
    go_wp2_with (first | (go_at_call 36; (with_reducible refine (c_impl_within _ _ _ _).mono ?_); rintro e w' ⟨rfl, rfl⟩) | (go_at_call 35; (with_reducible refine (c_impl_IsElement _ _ _).mono ?_); rintro e w' ⟨rfl, rfl⟩) | (go_at_call 18; (with_reducible refine (c_impl_TapeOk _ _ _).mono ?_); rintro e w1 ⟨rfl, hb⟩; obtain ⟨bel, b1, b2⟩ := start2 hb; have c1 := b1.cell; have c2 := b2.cell; have f1 := b1.free; have f2 := b2.free; have hz := b2.lt; have hz1 := b1.lt; clear hb))
    go_region
    all_goals
      go_wp2
      refine bodyPost_ret (v := .tuple #[.slice none 0 0, .agg #[.int .i64 s, .int .i64 t]]) (by simp [results, Try.results25, go_sem, *]) rfl ?_
      rw [e1.out, e2.out]
      exact GivesLT.nil (by go_grown)
  by_cases h4 : 900000 < t
  · skip
    have hno : shareOk p x n s t = false := by simp [shareOk, tapeLow, h1, h2, h3]; omega
    have e1 := Lib.hid (show shareF p x n s t = [] by simp [shareF, hno])
    have e2 := Lib.hid (show shareN p x n s t = t by simp [shareN, hno])
    clear hno
    go_enter Try.func25, Try.ntmps25
    go_wp2_with (first | (go_at_call 36; (with_reducible refine (c_impl_within _ _ _ _).mono ?_); rintro e w' ⟨rfl, rfl⟩) | (go_at_call 35; (with_reducible refine (c_impl_IsElement _ _ _).mono ?_); rintro e w' ⟨rfl, rfl⟩) | (go_at_call 18; (with_reducible refine (c_impl_TapeOk _ _ _).mono ?_); rintro e w1 ⟨rfl, hb⟩; obtain ⟨bel, b1, b2⟩ := start2 hb; have c1 := b1.cell; have c2 := b2.cell; have f1 := b1.free; have f2 := b2.free; have hz := b2.lt; have hz1 := b1.lt; clear hb))
    go_region
    all_goals
      go_wp2
      refine bodyPost_ret (v := .tuple #[.slice none 0 0, .agg #[.int .i64 s, .int .i64 t]]) (by simp [results, Try.results25, go_sem, *]) rfl ?_
      rw [e1.out, e2.out]
      exact GivesLT.nil (by go_grown)
  have hyes : shareOk p x n s t = true := by simp [shareOk, tapeLow, h1, h2, h3]; omega
  have e1 := Lib.hid (show shareF p x n s t = tapeLF s t p (n - 1) ++ [fsub p x (fsum p (tapeLF s t p (n - 1)))] by simp [shareF, hyes])
  have e2 := Lib.hid (show shareN p x n s t = tapeLN s t p (n - 1) by simp [shareN, hyes])
  have hlen := tapeLF_len s t p (n - 1)
  clear hyes
  go_enter Try.func25, Try.ntmps25
  go_wp2_with (first | (go_at_call 36; (with_reducible refine (c_impl_within _ _ _ _).mono ?_); rintro e w' ⟨rfl, rfl⟩) | (go_at_call 35; (with_reducible refine (c_impl_IsElement _ _ _).mono ?_); rintro e w' ⟨rfl, rfl⟩) | (go_at_call 18; (with_reducible refine (c_impl_TapeOk _ _ _).mono ?_); rintro e w1 ⟨rfl, hb⟩; obtain ⟨bel, b1, b2⟩ := start2 hb; have c1 := b1.cell; have c2 := b2.cell; have f1 := b1.free; have f2 := b2.free; have hz := b2.lt; have hz1 := b1.lt; clear hb) | (go_at_call 16; (with_reducible refine (c_impl_TapeList _ _ _ _ _).mono ?_); rintro e w2 ⟨A, c, rfl, hown, hb⟩; have b2' := b2.below hb; have bel' := below_next bel hb; have hsz2 := hb.size; clear hb c1 c2 f1 f2))
  have hl1 := bel.size
  generalize tapeLF s t p (n - 1) = l at hown hlen e1
  generalize tapeLN s t p (n - 1) = t1 at e2
  have HV := Lib.hid (show vals l ++ [.int .i64 (fsub p x (fsum p l))] = vals (l ++ [fsub p x (fsum p l)]) from vals_app _ _)
  have HN3 := Lib.hid (own_ne' (g := w2.heap.size) hown (Nat.le_refl _))
  have HN2 := Lib.hid (own_ne (g := w.heap.size + 1) hown hz)
  have b3 := Box.new w2 29 #[.int .i64 s, .int .i64 t1]
  have hsl := SliceI.alloc0 (o := .cells #[.int .i64 s, .int .i64 t1] 29) (OwnI.slice hown)
  have HOWN := Lib.hid (World.ownsRow.alloc hown (.cells #[.int .i64 s, .int .i64 t1] 29))
  replace b2' := b2'.alloc (.cells #[.int .i64 s, .int .i64 t1] 29)
  replace bel' := bel'.alloc bel'.size (.cells #[.int .i64 s, .int .i64 t1] 29)
  have hz3 : w2.heap.size < (w2.alloc (.cells #[.int .i64 s, .int .i64 t1] 29)).heap.size := by simp
  have HSL := Lib.hid hsl
  clear hown hsl b1 b2 bel
  generalize w2.alloc (.cells #[.int .i64 s, .int .i64 t1] 29) = w3 at *
  have HSLD := Lib.hid (SliceI.keep (w' := w3.drew) HSL.out (fun _ _ _ => rfl))
  generalize hk : l.length = k at *
  have HK := Lib.hid hk
  clear hk
  have c3 := b3.cell
  have f2 := b2'.free
  have c2 := b2'.cell
  have z2 := b2'.lt
  go_region_law (first | (go_simp; go_at_call 38; (with_reducible refine (c_impl_FSum _ _ _ _ _ _ _ HSLD.out (by unfold maxLen; omega)).mono ?_); rintro e w' ⟨rfl, rfl⟩) | (go_simp; go_at_call 48; (with_reducible refine (c_impl_FSub _ _ _ _).mono ?_); rintro e w4 ⟨rfl, hb4⟩; have HOWN4 := Lib.hid (OwnV.below (World.ownsRow.drew HOWN.out) hb4); have b24 := (Box.drew b2').below hb4; have b34 := (Box.drew b3).below hb4; have bel4 := below_next bel'.drew hb4; have c34 := b34.cell; have z34 := b34.lt; have hsz4 := hb4.size; clear hb4) | (go_loud (refine step_append_lies _ rfl (.tmp 40) (.tmp 47) 24 rfl w1.heap.size 3 i0 (.int .i64 0) 1 8 Try.underlying24 hi hz0 HZ.out.1 HZ.out.2 rfl (by decide) _ k _ rfl (HOWN4.out.alloc _) ⟨_, 0, none⟩ 1 1 [.int .i64 (fsub p x (fsum p l))] rfl rfl (cell_one_new _ _ _) (by simp [Value.oneCell']) (by omega) (by unfold maxLen; omega) (by omega) (by simp at hsz4 ⊢; omega) _ rfl ?_; intro g2 cap2 w5 hown5 hgrow5 _ _); have b25 := Box.keptBy (b24.alloc _) hgrow5 HN2.out; have b35 := Box.keptBy (b34.alloc _) hgrow5 HN3.out; have bel5 := Below.grown (bel4.alloc bel4.size _) hgrow5 (by have := bel4.size; simp; omega) (fun k hk => by have := (HOWN4.out.lt k hk).1; omega); clear hgrow5; have c35 := b35.cell; have c25 := b25.cell; have f25 := b25.free))
  all_goals
    rw [HV.out] at hown5
    have o1 := own_far (p := ⟨w.heap.size + 1, 0, none⟩) (u := .int .i64 s) hown5 (own_ne hown5 hz)
    have o2 := Lib.hid (own_far (p := ⟨w.heap.size + 1, 1, none⟩) (u := .int .i64 t1) o1 (own_ne o1 hz))
    clear hown5 o1
    go_wp2
    refine bodyPost_ret (v := .tuple #[.slice (some ⟨g2, 0, none⟩) (k + 1) cap2, .agg #[.int .i64 s, .int .i64 t1]]) (by simp [results, Try.results25, go_sem, *]) rfl ?_
    rw [e1.out, e2.out]
    exact GivesLT.of (lo := w1.heap.size) (n := k + 1) o2.out (by omega) (by go_grown)
end Go.Proofs.Ytknepofclgjmiaa

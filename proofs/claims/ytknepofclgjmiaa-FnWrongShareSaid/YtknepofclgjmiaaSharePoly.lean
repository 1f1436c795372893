/- The walks of SharePoly: the shares in new memory, and the tape behind them. -/
import Derived.Test.YtknepofclgjmiaaRows
import Derived.Test.YtknepofclgjmiaaPlain
import Derived.Test.YtknepofclgjmiaaMem
import Derived.Test.YtknepofclgjmiaaWords
import Derived.Test.YtknepofclgjmiaaList
import Derived.Test.YtknepofclgjmiaaField
import Derived.Test.YtknepofclgjmiaaSums
import Derived.Test.YtknepofclgjmiaaTape
import Derived.Test.YtknepofclgjmiaaTapeList
import Derived.WalkKit
import Derived.WalkSpells
import Derived.WalkLawsBesides
import Derived.OwnWalk
import Derived.Handy
import Derived.RegionTactic
import Derived.Deep.RegionLaw
import Derived.Deep.AppendLies
import Derived.Maps.AppendAt
import Derived.Deep.Onto
import Derived.Lib.Hide
import Derived.Test.YtknepofclgjmiaaShareAdd
namespace Go.Proofs.Ytknepofclgjmiaa
open Go.RowKit
def polyOk (p x n k s t : Int) : Bool := isEl p x && inB n 1 5 && decide (n < p) && inB k 0 (n - 1) && tapeLow s t
/-- the values of a polynomial at 1, 2 .. m -/
def polyVals (p : Int) (cs : List Int) (m : Nat) : List Int := (List.range m).map fun (i : Nat) => polyAt p cs ((i : Int) + 1)
def polyF (p x n k s t : Int) : List Int := if polyOk p x n k s t then polyVals p (x :: tapeLF s t p k) n.toNat else []
def polyN (p x n k s t : Int) : Int := if polyOk p x n k s t then tapeLN s t p k else t
theorem polyVals_len (p : Int) (cs : List Int) (m : Nat) : (polyVals p cs m).length = m := by simp [polyVals]
theorem polyVals_succ (p : Int) (cs : List Int) (m : Nat) : vals (polyVals p cs m) ++ [.int .i64 (polyAt p cs ((m : Int) + 1))] = vals (polyVals p cs (m + 1)) := by
  simp [polyVals, vals, List.range_succ]
theorem polyF_len (p x n k s t : Int) : (polyF p x n k s t).length ≤ 1048576 := by
  unfold polyF
  split
  · next h =>
    simp only [polyOk, Bool.and_eq_true, inB_iff, decide_eq_true_eq] at h
    rw [polyVals_len]; omega
  · simp
theorem tapeL_el {s t p : Int} (hf : fieldOk p = true) (k : Nat) : allEl p (tapeL s t p k) = true := by
  have hr := fieldOk_range hf
  refine allEl_iff.2 ⟨hf, fun a ha => ?_⟩
  simp only [tapeL, List.mem_map] at ha
  obtain ⟨i, _, rfl⟩ := ha
  exact emod_el hr.1
theorem tapeLF_el {s t p k : Int} (hf : fieldOk p = true) : allEl p (tapeLF s t p k) = true := by
  unfold tapeLF
  split
  · exact tapeL_el hf _
  · exact allEl_iff.2 ⟨hf, fun a ha => by simp at ha⟩
theorem allEl_cons {p x : Int} {xs : List Int} (hx : isEl p x = true) (h : allEl p xs = true) : allEl p (x :: xs) = true :=
  allEl_iff.2 ⟨(allEl_iff.1 h).1, fun a ha => by
    rcases List.mem_cons.1 ha with rfl | ha
    · exact (isEl_iff.1 hx).2
    · exact (allEl_iff.1 h).2 a ha⟩
theorem SliceI.grown {w w' : World} {B n : Nat} {A : Option Addr} {xs : List Int} {row : Option Nat} (h : SliceI w B A n xs) (hg : w.grownBy w' row) (hB : B ≤ w.heap.size) (hr : ∀ k, row = some k → B ≤ k) : SliceI w' B A n xs :=
  h.keep fun b o hb => World.cell?_of_block (hg.block b (Nat.lt_of_lt_of_le hb hB) fun e => by have := hr b e.symm; omega)
theorem ownsRow.sliceI {w : World} {lo n : Nat} {v : Value} {xs : List Int} (h : w.ownsRow lo 3 1 v n (vals xs)) (hn : 0 < n) : ∃ g c, v = .slice (some ⟨g, 0, none⟩) n c ∧ SliceI w w.heap.size (some ⟨g, 0, none⟩) n xs := by
  obtain ⟨g, c, rfl, _, _⟩ := h.form hn
  exact ⟨g, c, rfl, OwnI.slice (lo := lo) (c := c) h⟩
theorem own_lit_at {W : World} {base g : Nat} {x : Int} (h : W.heap.size = g) (hb : base ≤ g) : (W.alloc (.cells #[.int .i64 x] 3)).ownsRow base 3 1 (.slice (some ⟨g, 0, none⟩) 1 1) 1 (vals [x]) := by
  subst h
  exact World.ownsRow_lit W #[.int .i64 x] 1 hb (by simp [maxLen]) rfl
theorem sliceI_lit_at {W : World} {g : Nat} {x : Int} (h : W.heap.size = g) : SliceI (W.alloc (.cells #[.int .i64 x] 3)) (W.alloc (.cells #[.int .i64 x] 3)).heap.size (some ⟨g, 0, none⟩) 1 [x] := by
  subst h
  have := SliceI.one W x 3
  simpa using this
theorem lit_ne {a b n c : Nat} (h : a ≠ b) : some a ≠ Value.ownBlock (.slice (some ⟨b, 0, none⟩) n c) := fun e => h (Option.some.inj e)
theorem lit_ge {b n c k B : Nat} (h : B ≤ b) (e : Value.ownBlock (.slice (some ⟨b, 0, none⟩) n c) = some k) : B ≤ k := (Option.some.inj e) ▸ h
theorem own_nil_at {W : World} {base g : Nat} (h : W.heap.size = g) (hb : base ≤ g) : (W.alloc (.cells #[] 3)).ownsRow base 3 1 (.slice (some ⟨g, 0, none⟩) 0 0) 0 (vals []) := by
  subst h
  exact World.ownsRow_lit W #[] 0 hb (by simp [maxLen]) rfl
/-- an append of nothing -/
theorem wpList_append_none {P : Program} (w : World) {ops : Array Oper} {rest : List Oper} {o : Oper} {a : Act} {Q : Exit → Act → World → Prop} (hgd : o.guard = none) (s x : Operand) (t : TypeId)
    (ho : o.op = .call { callee := .builtin .append, args := #[s, x], argTypes := #[t, t] })
    (base : Nat) (e : TypeId) (i : TypeInfo) (ht : P.underlying t = some (.slice e)) (hi : P.info? e = some i) (size : Nat)
    (v : Value) (n : Nat) (xs : List Value) (hs : a.eval s = v) (hown : w.ownsRow base e size v n xs) (hx : a.eval x = .slice none 0 0)
    (h : wpList P ops Q rest (a.put o.dst v) w) : wpList P ops Q (o :: rest) a w :=
  wpList_plain hgd fun K hK => by
    have hr := run_append_owned_none (P := P) w base t o.type e i size ht hi v n xs hown
    unfold Oper.wp execOp
    simp only [ho, resolve, invoke, builtin, Sem.run_bind, Sem.run_pure, Result.andThen_ok, List.map_toArray, List.map_cons, List.map_nil, hs, hx, hr]
    exact hK _ _ h
set_option maxHeartbeats 8000000 in
theorem c_impl_SharePoly (p x n k s t : Int) (w : World) :
    Calls Try.prog 22 #[.int .i64 p, .int .i64 x, .int .i64 n, .int .i64 k, .agg #[.int .i64 s, .int .i64 t]] w (GivesLT w (polyF p x n k s t) s (polyN p x n k s t)) := by
  obtain ⟨i0, hi, hz0, hz1, hz2⟩ := info_parts int_info
  have HZ := Lib.hid (And.intro hz1 hz2)
  clear hz1 hz2
  cases h1 : isEl p x
  · skip
    have hno : polyOk p x n k s t = false := by simp [polyOk, h1]
    have e1 := Lib.hid (show polyF p x n k s t = [] by simp [polyF, hno])
    have e2 := Lib.hid (show polyN p x n k s t = t by simp [polyN, hno])
    clear hno
    go_enter Try.func22, Try.ntmps22
    go_wp2_with (first | (go_at_call 36; (with_reducible refine (c_impl_within _ _ _ _).mono ?_); rintro e w' ⟨rfl, rfl⟩) | (go_at_call 35; (with_reducible refine (c_impl_IsElement _ _ _).mono ?_); rintro e w' ⟨rfl, rfl⟩) | (go_at_call 18; (with_reducible refine (c_impl_TapeOk _ _ _).mono ?_); rintro e w1 ⟨rfl, hb⟩; obtain ⟨bel, b1, b2⟩ := start2 hb; have c1 := b1.cell; have c2 := b2.cell; have f1 := b1.free; have f2 := b2.free; have hz := b2.lt; have hz1 := b1.lt; clear hb))
    go_region
    all_goals
      go_wp2
      refine bodyPost_ret (v := .tuple #[.slice none 0 0, .agg #[.int .i64 s, .int .i64 t]]) (by simp [results, Try.results22, go_sem, *]) rfl ?_
      rw [e1.out, e2.out]
      exact GivesLT.nil (by go_grown)
  have hE := isEl_iff.1 h1
  have hr := fieldOk_range hE.1
  have hp2 := hr.1
  have hp1 := hr.2
  have HF := Lib.hid hE.1
  clear hr hE
  cases h2 : inB n 1 5
  · skip
    have hno : polyOk p x n k s t = false := by simp [polyOk, h2]
    have e1 := Lib.hid (show polyF p x n k s t = [] by simp [polyF, hno])
    have e2 := Lib.hid (show polyN p x n k s t = t by simp [polyN, hno])
    clear hno
    go_enter Try.func22, Try.ntmps22
    go_wp2_with (first | (go_at_call 36; (with_reducible refine (c_impl_within _ _ _ _).mono ?_); rintro e w' ⟨rfl, rfl⟩) | (go_at_call 35; (with_reducible refine (c_impl_IsElement _ _ _).mono ?_); rintro e w' ⟨rfl, rfl⟩) | (go_at_call 18; (with_reducible refine (c_impl_TapeOk _ _ _).mono ?_); rintro e w1 ⟨rfl, hb⟩; obtain ⟨bel, b1, b2⟩ := start2 hb; have c1 := b1.cell; have c2 := b2.cell; have f1 := b1.free; have f2 := b2.free; have hz := b2.lt; have hz1 := b1.lt; clear hb))
    go_region
    all_goals
      go_wp2
      refine bodyPost_ret (v := .tuple #[.slice none 0 0, .agg #[.int .i64 s, .int .i64 t]]) (by simp [results, Try.results22, go_sem, *]) rfl ?_
      rw [e1.out, e2.out]
      exact GivesLT.nil (by go_grown)
  have hn := inB_iff.1 h2
  have hn0 := hn.1
  have hn1 := hn.2
  clear hn
  by_cases h5 : p ≤ n
  · skip
    have hno : polyOk p x n k s t = false := by simp [polyOk, h1, h2]; omega
    have e1 := Lib.hid (show polyF p x n k s t = [] by simp [polyF, hno])
    have e2 := Lib.hid (show polyN p x n k s t = t by simp [polyN, hno])
    clear hno
    go_enter Try.func22, Try.ntmps22
    go_wp2_with (first | (go_at_call 36; (with_reducible refine (c_impl_within _ _ _ _).mono ?_); rintro e w' ⟨rfl, rfl⟩) | (go_at_call 35; (with_reducible refine (c_impl_IsElement _ _ _).mono ?_); rintro e w' ⟨rfl, rfl⟩) | (go_at_call 18; (with_reducible refine (c_impl_TapeOk _ _ _).mono ?_); rintro e w1 ⟨rfl, hb⟩; obtain ⟨bel, b1, b2⟩ := start2 hb; have c1 := b1.cell; have c2 := b2.cell; have f1 := b1.free; have f2 := b2.free; have hz := b2.lt; have hz1 := b1.lt; clear hb))
    go_region
    all_goals
      go_wp2
      refine bodyPost_ret (v := .tuple #[.slice none 0 0, .agg #[.int .i64 s, .int .i64 t]]) (by simp [results, Try.results22, go_sem, *]) rfl ?_
      rw [e1.out, e2.out]
      exact GivesLT.nil (by go_grown)
  cases h6 : inB k 0 (n - 1)
  · skip
    have hno : polyOk p x n k s t = false := by simp [polyOk, h6]
    have e1 := Lib.hid (show polyF p x n k s t = [] by simp [polyF, hno])
    have e2 := Lib.hid (show polyN p x n k s t = t by simp [polyN, hno])
    clear hno
    go_enter Try.func22, Try.ntmps22
    go_wp2_with (first | (go_at_call 36; (with_reducible refine (c_impl_within _ _ _ _).mono ?_); rintro e w' ⟨rfl, rfl⟩) | (go_at_call 35; (with_reducible refine (c_impl_IsElement _ _ _).mono ?_); rintro e w' ⟨rfl, rfl⟩) | (go_at_call 18; (with_reducible refine (c_impl_TapeOk _ _ _).mono ?_); rintro e w1 ⟨rfl, hb⟩; obtain ⟨bel, b1, b2⟩ := start2 hb; have c1 := b1.cell; have c2 := b2.cell; have f1 := b1.free; have f2 := b2.free; have hz := b2.lt; have hz1 := b1.lt; clear hb))
    go_region
    all_goals
      go_wp2
      refine bodyPost_ret (v := .tuple #[.slice none 0 0, .agg #[.int .i64 s, .int .i64 t]]) (by simp [results, Try.results22, go_sem, *]) rfl ?_
      rw [e1.out, e2.out]
      exact GivesLT.nil (by go_grown)
  have hk := inB_iff.1 h6
  have hk0 := hk.1
  have hk1 := hk.2
  clear hk
  cases h3 : tapeOk s t
  · skip
    have hno : polyOk p x n k s t = false := by simp [polyOk, tapeLow, h3]
    have e1 := Lib.hid (show polyF p x n k s t = [] by simp [polyF, hno])
    have e2 := Lib.hid (show polyN p x n k s t = t by simp [polyN, hno])
    clear hno
    go_enter Try.func22, Try.ntmps22
    go_wp2_with (first | (go_at_call 36; (with_reducible refine (c_impl_within _ _ _ _).mono ?_); rintro e w' ⟨rfl, rfl⟩) | (go_at_call 35; (with_reducible refine (c_impl_IsElement _ _ _).mono ?_); rintro e w' ⟨rfl, rfl⟩) | (go_at_call 18; (with_reducible refine (c_impl_TapeOk _ _ _).mono ?_); rintro e w1 ⟨rfl, hb⟩; obtain ⟨bel, b1, b2⟩ := start2 hb; have c1 := b1.cell; have c2 := b2.cell; have f1 := b1.free; have f2 := b2.free; have hz := b2.lt; have hz1 := b1.lt; clear hb))
    go_region
    all_goals
      go_wp2
      refine bodyPost_ret (v := .tuple #[.slice none 0 0, .agg #[.int .i64 s, .int .i64 t]]) (by simp [results, Try.results22, go_sem, *]) rfl ?_
      rw [e1.out, e2.out]
      exact GivesLT.nil (by go_grown)
  by_cases h4 : 900000 < t
  · skip
    have hno : polyOk p x n k s t = false := by simp [polyOk, tapeLow, h1, h2, h3, h6]; omega
    have e1 := Lib.hid (show polyF p x n k s t = [] by simp [polyF, hno])
    have e2 := Lib.hid (show polyN p x n k s t = t by simp [polyN, hno])
    clear hno
    go_enter Try.func22, Try.ntmps22
    go_wp2_with (first | (go_at_call 36; (with_reducible refine (c_impl_within _ _ _ _).mono ?_); rintro e w' ⟨rfl, rfl⟩) | (go_at_call 35; (with_reducible refine (c_impl_IsElement _ _ _).mono ?_); rintro e w' ⟨rfl, rfl⟩) | (go_at_call 18; (with_reducible refine (c_impl_TapeOk _ _ _).mono ?_); rintro e w1 ⟨rfl, hb⟩; obtain ⟨bel, b1, b2⟩ := start2 hb; have c1 := b1.cell; have c2 := b2.cell; have f1 := b1.free; have f2 := b2.free; have hz := b2.lt; have hz1 := b1.lt; clear hb))
    go_region
    all_goals
      go_wp2
      refine bodyPost_ret (v := .tuple #[.slice none 0 0, .agg #[.int .i64 s, .int .i64 t]]) (by simp [results, Try.results22, go_sem, *]) rfl ?_
      rw [e1.out, e2.out]
      exact GivesLT.nil (by go_grown)
  have hyes : polyOk p x n k s t = true := by simp [polyOk, tapeLow, h1, h2, h3, h6]; omega
  have e1 := Lib.hid (show polyF p x n k s t = polyVals p (x :: tapeLF s t p k) n.toNat by simp [polyF, hyes])
  have e2 := Lib.hid (show polyN p x n k s t = tapeLN s t p k by simp [polyN, hyes])
  have hlen := tapeLF_len s t p k
  have HE := Lib.hid (allEl_cons h1 (tapeLF_el (s := s) (t := t) (k := k) HF.out))
  clear hyes
  go_enter Try.func22, Try.ntmps22
  go_wp2_with (first | (go_at_call 36; (with_reducible refine (c_impl_within _ _ _ _).mono ?_); rintro e w' ⟨rfl, rfl⟩) | (go_at_call 35; (with_reducible refine (c_impl_IsElement _ _ _).mono ?_); rintro e w' ⟨rfl, rfl⟩) | (go_at_call 18; (with_reducible refine (c_impl_TapeOk _ _ _).mono ?_); rintro e w1 ⟨rfl, hb⟩; obtain ⟨bel, b1, b2⟩ := start2 hb; have c1 := b1.cell; have c2 := b2.cell; have f1 := b1.free; have f2 := b2.free; have hz := b2.lt; have hz1 := b1.lt; clear hb))
  (with_reducible refine (c_impl_TapeList _ _ _ _ _).mono ?_)
  rintro e w2 ⟨A, c, rfl, hown, hb⟩
  have b2' := b2.below hb
  have bel' := below_next bel hb
  have hsz2 := hb.size
  have hz2 := b2'.lt
  clear hb c1 c2 f1 f2 b1 b2 bel
  generalize tapeLF s t p k = l at hown hlen e1 HE
  generalize tapeLN s t p k = t1 at e2
  obtain ⟨m, rfl⟩ : ∃ m : Nat, n = (m : Int) := ⟨n.toNat, by omega⟩
  rw [Int.toNat_natCast] at e1
  have HM := Lib.hid (show m ≤ 5 by omega)
  have hcase := hown.2
  rcases hcase with ⟨hv, h0⟩ | ⟨g, cap, cur, hv, _⟩
  · obtain rfl : l = [] := List.eq_nil_of_length_eq_zero h0
    simp only [Value.slice.injEq] at hv
    obtain ⟨rfl, _, rfl⟩ := hv
    clear hown h0
    go_wp2_with (at_builtin; refine wpList_append_none _ rfl (.tmp 57) (.tmp 58) 24 rfl w2.heap.size 3 i0 Try.underlying24 hi 1 _ 1 (vals [x]) rfl (own_lit_at (by simp) (by omega)) rfl ?_; have hsc := sliceI_lit_at (W := w2.alloc (.cells #[.int .i64 s, .int .i64 t1] 29)) (g := w2.heap.size + 1) (x := x) (by simp); have b25 := (b2'.alloc (.cells #[.int .i64 s, .int .i64 t1] 29)).alloc (.cells #[.int .i64 x] 3); have b35 := (Box.new w2 29 #[.int .i64 s, .int .i64 t1]).alloc (.cells #[.int .i64 x] 3); have bel5 := (bel'.alloc bel'.size (.cells #[.int .i64 s, .int .i64 t1] 29)).alloc (by have := bel'.size; simp; omega) (.cells #[.int .i64 x] 3))
    have HS5 := Lib.hid (show ((w2.alloc (.cells #[.int .i64 s, .int .i64 t1] 29)).alloc (.cells #[.int .i64 x] 3)).heap.size = w2.heap.size + 1 + 1 by simp)
    have hsz5 : w.heap.size ≤ ((w2.alloc (.cells #[.int .i64 s, .int .i64 t1] 29)).alloc (.cells #[.int .i64 x] 3)).heap.size := bel5.size
    generalize (w2.alloc (.cells #[.int .i64 s, .int .i64 t1] 29)).alloc (.cells #[.int .i64 x] 3) = w5 at *
    have HSC := Lib.hid hsc
    have hz25 := b25.lt
    clear hsc
    go_loopw [15, 16] (fun v i wr => ∃ j : Nat, j ≤ m ∧ i = .int .i64 ((j : Int) + 1) ∧ wr.ownsRow w5.heap.size 3 1 v j (vals (polyVals p ([x]) j)) ∧ Below w5.heap.size w5 wr) (fun _ i _ => (m + 1 - (intOf i).toNat))
    case atStart => exact ⟨0, by omega, by simp, own_nil_at HS5.out (Nat.le_of_eq HS5.out), (Below.refl _ _).alloc (Nat.le_refl _) _⟩
    case round =>
      obtain ⟨j, hj, rfl, hown, hbr⟩ := hrel
      have HOWN := Lib.hid hown
      clear hown
      have HM5 := HM.out
      by_cases hlt : j < m
      · have HCS := Lib.hid (HSC.out.below_le hbr (Nat.le_refl _))
        have HMX := Lib.hid (show 1 ≤ maxLen by unfold maxLen; omega)
        have HEJ := Lib.hid (show isEl p ((j : Int) + 1) = true from isEl_iff.2 ⟨HF.out, by omega, by omega⟩)
        have hst := Lib.hid (polyVals_succ p ([x]) j)
        have hlt' : (j : Int) + 1 ≤ (m : Int) := by omega
        go_wp2_with (first | (go_at_call 31; (with_reducible refine (c_impl_PolyAt _ _ _ _ _ _ _ _ HCS.out HMX.out).mono ?_); rintro e w' ⟨rfl, rfl⟩) | (at_builtin; refine wpList_append_own _ rfl (.tmp 66) (.tmp 71) 24 rfl w5.heap.size 3 i0 (.int .i64 0) 1 8 Try.underlying24 hi hz0 HZ.out.1 HZ.out.2 rfl (by decide) _ _ _ rfl (HOWN.out.alloc _) ⟨_, 0, none⟩ 1 1 [.int .i64 _] rfl rfl (cell_one_new _ _ _) (by simp [Value.oneCell']) (by unfold maxLen; omega) (by omega) (by have := hbr.size; simp; omega) ?_; intro v' w6 hown6 hgrow6 _))
        have hb3 := below_app hbr HOWN.out hgrow6
        go_roundw
        case rel => exact ⟨j + 1, by omega, by first | go_num | (congr 1), by rw [← hst.out]; exact hown6, hb3⟩
        case measure => simp [intOf]; omega
      · obtain rfl : j = m := by omega
        have hlt' : ¬ (j : Int) + 1 ≤ (j : Int) := by omega
        have b2 := b25.below hbr
        have b3 := b35.below hbr
        have belr := below_next bel5 hbr
        have c2 := b2.cell
        have f2 := b2.free
        have c3 := b3.cell
        go_wp2_with fail
        go_region
        all_goals
          go_wp2
          refine bodyPost_ret (v := .tuple #[u15, .agg #[.int .i64 s, .int .i64 t1]]) (by simp [results, Try.results22, go_sem, *]) rfl ?_
          rw [e1.out, e2.out]
          refine GivesLT.of (lo := w5.heap.size) (n := j) ?_ (by omega) ?_
          · have h1 := own_far (p := ⟨w.heap.size + 1, 0, none⟩) (u := .int .i64 s) HOWN.out (own_ne HOWN.out hz25)
            have h2 := own_far (p := ⟨w.heap.size + 1, 1, none⟩) (u := .int .i64 t1) h1 (own_ne h1 hz25)
            first | exact h2 | exact World.ownsRow.drew h2
          · go_grown
  · simp only [Value.slice.injEq] at hv
    obtain ⟨rfl, _, rfl⟩ := hv
    have hsl := OwnI.slice hown
    have HN := Lib.hid (SliceI.news (SliceI.alloc0 (o := .cells #[.int .i64 x] 3) (SliceI.alloc0 (o := .cells #[.int .i64 s, .int .i64 t1] 29) hsl)))
    clear hown hsl
    go_wp2_with (at_builtin; go_loud (refine wpList_append_own _ rfl (.tmp 57) (.tmp 58) 24 rfl w2.heap.size 3 i0 (.int .i64 0) 1 8 Try.underlying24 hi hz0 HZ.out.1 HZ.out.2 rfl (by decide) _ 1 (vals [x]) rfl (own_lit_at (by simp) (by omega)) ⟨g, 0, none⟩ l.length c (vals l) rfl (by simp [vals]) HN.out (by simp [vals, Value.oneCell']) (by unfold maxLen; omega) (by omega) (by simp; omega) ?_; intro v' w5 hown5 hgrow5 _); go_loud (have b25 := Box.keptBy ((b2'.alloc (.cells #[.int .i64 s, .int .i64 t1] 29)).alloc (.cells #[.int .i64 x] 3)) hgrow5 (lit_ne (by omega))); go_loud (have b35 := Box.keptBy ((Box.new w2 29 #[.int .i64 s, .int .i64 t1]).alloc (.cells #[.int .i64 x] 3)) hgrow5 (lit_ne (by omega))); go_loud (have bel5 := Below.grown ((bel'.alloc bel'.size (.cells #[.int .i64 s, .int .i64 t1] 29)).alloc (by have := bel'.size; simp; omega) (.cells #[.int .i64 x] 3)) hgrow5 (by have := bel'.size; simp; omega) (fun j hj => lit_ge (by have := bel'.size; omega) hj)); go_loud (rw [show vals [x] ++ vals l = vals (x :: l) by simp [vals]] at hown5; obtain ⟨gc, cc, rfl, hsc⟩ := ownsRow.sliceI hown5 (by omega); clear hown5 hgrow5))
    have HS5 := Lib.hid (show w5.heap.size = w5.heap.size from rfl)
    have hsz5 : w.heap.size ≤ w5.heap.size := bel5.size
    have HSC := Lib.hid hsc
    have hz25 := b25.lt
    clear hsc
    go_loopw [15, 16] (fun v i wr => ∃ j : Nat, j ≤ m ∧ i = .int .i64 ((j : Int) + 1) ∧ wr.ownsRow w5.heap.size 3 1 v j (vals (polyVals p (x :: l) j)) ∧ Below w5.heap.size w5 wr) (fun _ i _ => (m + 1 - (intOf i).toNat))
    case atStart => exact ⟨0, by omega, by simp, own_nil_at HS5.out (Nat.le_of_eq HS5.out), (Below.refl _ _).alloc (Nat.le_refl _) _⟩
    case round =>
      obtain ⟨j, hj, rfl, hown, hbr⟩ := hrel
      have HOWN := Lib.hid hown
      clear hown
      have HM5 := HM.out
      by_cases hlt : j < m
      · have HCS := Lib.hid (HSC.out.below_le hbr (Nat.le_refl _))
        have HMX := Lib.hid (show 1 + l.length ≤ maxLen by unfold maxLen; omega)
        have HEJ := Lib.hid (show isEl p ((j : Int) + 1) = true from isEl_iff.2 ⟨HF.out, by omega, by omega⟩)
        have hst := Lib.hid (polyVals_succ p (x :: l) j)
        have hlt' : (j : Int) + 1 ≤ (m : Int) := by omega
        go_wp2_with (first | (go_at_call 31; (with_reducible refine (c_impl_PolyAt _ _ _ _ _ _ _ _ HCS.out HMX.out).mono ?_); rintro e w' ⟨rfl, rfl⟩) | (at_builtin; refine wpList_append_own _ rfl (.tmp 66) (.tmp 71) 24 rfl w5.heap.size 3 i0 (.int .i64 0) 1 8 Try.underlying24 hi hz0 HZ.out.1 HZ.out.2 rfl (by decide) _ _ _ rfl (HOWN.out.alloc _) ⟨_, 0, none⟩ 1 1 [.int .i64 _] rfl rfl (cell_one_new _ _ _) (by simp [Value.oneCell']) (by unfold maxLen; omega) (by omega) (by have := hbr.size; simp; omega) ?_; intro v' w6 hown6 hgrow6 _))
        have hb3 := below_app hbr HOWN.out hgrow6
        go_roundw
        case rel => exact ⟨j + 1, by omega, by first | go_num | (congr 1), by rw [← hst.out]; exact hown6, hb3⟩
        case measure => simp [intOf]; omega
      · obtain rfl : j = m := by omega
        have hlt' : ¬ (j : Int) + 1 ≤ (j : Int) := by omega
        have b2 := b25.below hbr
        have b3 := b35.below hbr
        have belr := below_next bel5 hbr
        have c2 := b2.cell
        have f2 := b2.free
        have c3 := b3.cell
        go_wp2_with fail
        go_region
        all_goals
          go_wp2
          refine bodyPost_ret (v := .tuple #[u15, .agg #[.int .i64 s, .int .i64 t1]]) (by simp [results, Try.results22, go_sem, *]) rfl ?_
          rw [e1.out, e2.out]
          refine GivesLT.of (lo := w5.heap.size) (n := j) ?_ (by omega) ?_
          · have h1 := own_far (p := ⟨w.heap.size + 1, 0, none⟩) (u := .int .i64 s) HOWN.out (own_ne HOWN.out hz25)
            have h2 := own_far (p := ⟨w.heap.size + 1, 1, none⟩) (u := .int .i64 t1) h1 (own_ne h1 hz25)
            first | exact h2 | exact World.ownsRow.drew h2
          · go_grown
end Go.Proofs.Ytknepofclgjmiaa

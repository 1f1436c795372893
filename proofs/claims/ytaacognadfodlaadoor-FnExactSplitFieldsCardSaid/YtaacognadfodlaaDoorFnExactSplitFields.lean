/- The card FnExactSplitFields: the program's function and the reference's return the same at all arguments, in memory of their own. It has no conditions beyond the tables that the card ties to the program's text. -/
import Derived.Test.YtaacognadfodlaaDoorRows
import Derived.Test.YtaacognadfodlaaDoorTie
import Derived.Test.YtaacognadfodlaaDoorCards
import Derived.WalkKit
import Derived.ProofKit
import Derived.OpenShut
import Derived.ChangeOld
import Derived.Below
import Derived.Lib.SmallJoins
import Derived.ChangeMaps5
import Derived.LaidMore
import Derived.Lay
import Derived.Stop.Joined
import Derived.SevenTiedAt
import Derived.Deep.DeepHandedRow
import Derived.Shelf.Vars
import Derived.Test.YtaacognadfodlaaDoorSplitImpl
import Derived.Test.YtaacognadfodlaaDoorSplitLaws
namespace Go.Proofs.YtaacognadfodlaaDoor.lawFnExactSplitFields
open Go Go.ChangeShapes Go.WideShapes Go.ChangeAt Go.RowKit Go.Joins Go.ChangeMaps
set_option linter.unusedVariables false

theorem own : ownKnob Tryd.prog.godebug = none := by kernel_rfl
theorem laidOut : laidOutB Tryd.prog = true := by kernel_rfl

@[reducible] def Facts (w : World) : Prop := ∃ m : Int, w.cell? ⟨4, 0, none⟩ = some (.int .i64 m)
theorem of_laid {w : World} (_ : laidMetH Tryd.prog Rows.fnExactSplitFieldsRow.laid w) (h : w.ShapedOpen Tryd.prog) : Facts w :=
  cell_of_shapedOpen_int (zero := #[.int .i64 0]) (t := 3) h (of_decide_eq_true (by kernel_rfl)) (by kernel_rfl) rfl (by kernel_rfl) (by kernel_rfl) Tryd.underlying3

theorem spF_len (s : ByteArray) : (spF s).length ≤ 24 := by
  unfold spF
  by_cases h : spOk s = true
  · rw [if_pos h]
    simp only [spOk, Bool.and_eq_true, decide_eq_true_eq] at h
    exact h.2
  · rw [if_neg h]; simp

theorem mark1 (A : Option Addr) (n c lo : Nat) (xs : List ByteArray) (w : World) (hx : OwnS w lo A n c xs) (hn : n ≤ 2097152) :
    Calls Tryd.prog 19 #[.slice A n c, .int .i64 1] w fun e w' => e = .returned (.int .i64 (1 + (n : Int))) ∧ OwnS w' lo A n c (seqT 1 n) ∧ w.grownBy w' (Value.ownBlock (.slice A n c)) :=
  c_laws_markStringS A n c lo 1 xs w hx hn (by omega) (by omega)
theorem held1 (A : Option Addr) (n c lo : Nat) (w : World) (hx : OwnS w lo A n c (seqT 1 n)) (hn : n ≤ 2097152) :
    Calls Tryd.prog 20 #[.slice A n c, .int .i64 1] w fun e w' => e = .returned (.int .i64 (1 + (n : Int))) ∧ Below w.heap.size w w' :=
  c_laws_heldStringS A n c lo 1 w hx hn (by omega) (by omega)
set_option maxRecDepth 20000 in
set_option maxHeartbeats 4000000 in
theorem walk (w : World) (hL : Facts w) (s : ByteArray) (hs : s.size ≤ maxLen) : Calls Tryd.prog 6 #[.string s] w fun e w' => e = .returned (.bool true) ∧ Below w.heap.size w w' := by
  obtain ⟨m, hm⟩ := hL
  have HM := Lib.hid hm
  have HM4 := Lib.hid (cell4_lt hm)
  clear hm
  by_cases big : 1048576 < (s.size : Int)
  · go_enter Tryd.func6, Tryd.ntmps6
    go_wp2_with fail
    go_ret
    exact ⟨rfl, Below.refl _ _⟩
  have hsz : s.size ≤ 1048576 := by omega
  have hn := Lib.hid (spF_len s)
  have HA := Lib.hid (fun W => c_spec_SplitFields s W hsz)
  have HI := Lib.hid (fun W h => c_impl_SplitFields s m W hsz h)
  generalize spF s = ys at hn HA HI
  generalize spOk s = ok at HA HI
  have hneg : ¬ (1 : Int) + (ys.length : Int) < 0 := by omega
  have hmx : ys.length ≤ maxLen := by have := hn.out; unfold maxLen; omega
  have hm2 : ys.length ≤ 2097152 := by have := hn.out; omega
  have HX := Lib.hid hmx
  have HY := Lib.hid hm2
  clear hmx hm2
  go_enter Tryd.func6, Tryd.ntmps6
  go_wp2_with (first
    | (go_at_call 16; (with_reducible refine (HA.out _).mono ?_); rintro e w1 ⟨A1, c1, rfl, o1, b1⟩; have O1 : Hid (OwnS w1 w.heap.size A1 ys.length c1 ys) := Lib.hid o1; clear o1)
    | (go_at_call 17; (with_reducible refine (HI.out _ (cell4_below HM.out b1 HM4.out)).mono ?_); rintro e w2 ⟨A2, c2, rfl, o2, b2⟩; have O2 : Hid (OwnS w2 w1.heap.size A2 ys.length c2 ys) := Lib.hid o2; clear o2; have O1a := Lib.hid (O1.out.below b2); have B2 := Lib.hid (belowNx b1 b2))
    | (go_at_call 18; (with_reducible refine (c_laws_eqStringS A2 A1 ys.length c2 c1 _ _ ys w2 O2.out O1a.out HX.out).mono ?_); rintro e w3 ⟨rfl, b3⟩; have O2b := Lib.hid (O2.out.below b3); have O1b := Lib.hid (O1a.out.below b3); have B3 := Lib.hid (belowNx B2.out b3)))
  go_wp2_with (first
    | (go_at_call 19; (with_reducible refine (mark1 A2 ys.length c2 _ ys w3 O2b.out HY.out).mono ?_); rintro e w4 ⟨rfl, o4, g4⟩; have O2c := Lib.hid o4; have O1c := Lib.hid (O1b.out.marked g4 (fun a b ha hb => by have h1 := O1.out.lt a ha; have h2 := O2.out.ge b hb; omega)); have B4 := Lib.hid (belowMarked B3.out g4 (fun b hb => Nat.le_trans b1.size (O2.out.ge b hb))); clear o4 g4)
    | (go_at_call 20; (with_reducible refine (held1 A2 ys.length c2 _ w4 O2c.out HY.out).mono ?_); rintro e w5 ⟨rfl, b5⟩; have O2d := Lib.hid (O2c.out.below b5); have O1d := Lib.hid (O1c.out.below b5); have B5 := Lib.hid (belowNx B4.out b5))
    | (go_at_call 17; (with_reducible refine (HI.out _ (cell4_below HM.out B5.out HM4.out)).mono ?_); rintro e w6 ⟨A3, c3, rfl, o6, b6⟩; have O3 : Hid (OwnS w6 w5.heap.size A3 ys.length c3 ys) := Lib.hid o6; clear o6; have O1e := Lib.hid (O1d.out.below b6); have O2e := Lib.hid (O2d.out.below b6); have B6 := Lib.hid (belowNx B5.out b6))
    | (go_at_call 18; (with_reducible refine (c_laws_eqStringS A3 A1 ys.length c3 c1 _ _ ys w6 O3.out O1e.out HX.out).mono ?_); rintro e w7 ⟨rfl, b7⟩; have O2f := Lib.hid (O2e.out.below b7); have B7 := Lib.hid (belowNx B6.out b7))
    | (go_at_call 20; (with_reducible refine (held1 A2 ys.length c2 _ w7 O2f.out HY.out).mono ?_); rintro e w8 ⟨rfl, b8⟩; have B8 := Lib.hid (belowNx B7.out b8)))
  go_ret
  exact ⟨rfl, B8.out⟩

set_option maxRecDepth 100000 in
def laidL : List (String × DataW Unit) := [("unicode/utf8.acceptRanges", Rows.laid_unicode_utf8_acceptRanges), ("unicode/utf8.first", Rows.laid_unicode_utf8_first)]


set_option maxRecDepth 100000 in
theorem lifted (os : Os) (started : os.Started) (H : Type) (enc : TypeId × Value → H) :
    ReturnsInHanded {} Tryd.checked os 6 .any (fun w args => (Rows.fnExactSplitFieldsSpec.pre enc Tryd.prog Tryd.f6 [] false w args ∧ laidMetH Tryd.prog laidL w) ∧ sizedMet enc Tryd.prog Tryd.f6 (OpenSpec.ofChange Rows.fnExactSplitFieldsSpec) false w args) (Rows.fnExactSplitFieldsSpec.post enc Tryd.prog Tryd.f6 false true false false) := by
  refine returnsInHanded_of_row (C := Tryd.checked) (s := OpenSpec.ofChange Rows.fnExactSplitFieldsSpec) (F := fun _ _ _ => 0) (laid := laidL) own started (by kernel_rfl) Tryd.func6
    (ChangeSpec.witness_shaped (enc := enc) (C := Tryd.checked) (os := os) (X := fun w _ => laidMetH Tryd.prog laidL w) false (World.laidAll Tryd.prog os laidL) #[.string ByteArray.empty] 8 (World.laidAll_os _ _ _) (World.shaped_of_ZipB (by kernel_rfl) (by kernel_rfl)) (by kernel_rfl) (by kernel_rfl) (by kernel_rfl) (by rw [MakeChecks.laidMetH_plain _ _ _ (by kernel_rfl)]; exact laidMet_laidAll _ (by kernel_rfl) (by kernel_rfl))) ?_
  intro W base args ds gs before hval0 hW hcnd hk hshp hL hSh _
  have hval : ∀ (j : Nat) t v, Tryd.f6.params[j]? = some t → args[j]? = some v → Value.okWide Tryd.prog W .any base t v := hval0
  have hW' := hW
  obtain ⟨p, q, hA0, hV, rfl, hfz, hnd⟩ := hW
  have hA : DataW.TrodAll enc Tryd.prog W 0 (fun _ => true) true Tryd.f6.params.toList args.toList ds p := hA0
  rw [Tryd.params6] at hA hval
  obtain ⟨v0, vs0, d0, ds0, p0, q0, hargs, rfl, rfl, h0, r0⟩ := trodAll_cons hA
  obtain ⟨rfl, rfl, rfl⟩ := trodAll_nil r0
  obtain rfl : args = #[v0] := by cases args; simp_all
  obtain ⟨rfl, rfl⟩ := trodVars_none hV
  obtain ⟨a0, rfl, rfl, rfl, w0⟩ := open_string Tryd.underlying9 (hval 0 9 v0 rfl rfl) h0
  clear hA0 hval0
  simp only [List.append_nil] at hW'
  refine (walk (w := W) (of_laid hL hSh) a0 w0).mono fun e W' ⟨he, bel⟩ => ?_
  subst he
  exact ⟨_, rfl, _, _, _, [], _, [], hW', trodAll_mk1 (shut_bool Tryd.underlying4 _), (trodAll_cons_mk (shut_string Tryd.underlying9 w0) trodAll_mk0), rfl, bel.frame _, fun h => by cases h⟩

theorem over : Rows.fnExactSplitFieldsRow.holds Tryd.pinned (OpenSpec.ofChange Rows.fnExactSplitFieldsSpec) :=
  OpenClaim.holds_of_wide 6 Tryd.f6 rfl rfl rfl rfl rfl rfl rfl ⟨rfl, rfl, rfl, rfl, rfl⟩ rfl rfl rfl rfl rfl (by kernel_rfl) Tryd.func6 (by kernel_rfl)
    (of_decide_eq_true (by kernel_rfl)) (by unfold Func.isWrapper; first | (rw [if_pos (by decide +kernel)]; kernel_rfl) | (rw [if_neg (by decide +kernel)]; exact ⟨rfl, rfl⟩))
    (fun os started H enc _ => lifted os started H enc)

theorem card_holds : Rows.FnExactSplitFieldsCardSaid :=
  Claim7.holds_tied_plain_at .later [] [.data, .pinned] true (true, "995a6f559626cb847be1a5641961149ffdd9d73d2bce9b9447a5d13da41960d1") true
    over (fun _ h => by cases h) (by kernel_rfl) (fun _ h => by cases h) fnExactSplitFields_row_tie rfl ⟨rfl, rfl⟩ (by kernel_rfl) rfl
    (fun f fn hf hfn => by
      obtain rfl : f = 6 := Option.some.inj ((show Tryd.prog.funcNamed Tryd.f6.name = some 6 by kernel_rfl).symm.trans hf) |>.symm
      obtain rfl : fn = Tryd.f6 := (Option.some.inj (Tryd.func6.symm.trans hfn)).symm
      exact ⟨by kernel_rfl, fun j t ht => by
        rw [Tryd.params6] at ht
        have hm : t ∈ [9] := by simpa using Array.mem_of_getElem? ht
        have hall : ([9].all fun u => !Tryd.prog.wantsStandIn u) = true := by kernel_rfl
        exact (show Tryd.prog.wantsStandIn t = false by simpa using List.all_eq_true.1 hall t hm)⟩)
    (by kernel_rfl)
end Go.Proofs.YtaacognadfodlaaDoor.lawFnExactSplitFields

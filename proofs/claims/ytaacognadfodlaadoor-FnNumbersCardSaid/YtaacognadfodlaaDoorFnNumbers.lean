/- The card FnNumbers: exactly the numbers of the range can be read from their decimal text. It has no conditions beyond the tables that the card ties to the program's text. -/
import Derived.Test.YtaacognadfodlaaDoorRows
import Derived.Test.YtaacognadfodlaaDoorTie
import Derived.Test.YtaacognadfodlaaDoorCards
import Derived.WalkKit
import Derived.ProofKit
import Derived.OpenShut
import Derived.ChangeOld
import Derived.Below
import Derived.Lib.SmallJoins
import Derived.ChangeMaps5
import Derived.LaidMore
import Derived.Stop.Joined
import Derived.Stop.LaidErr
import Derived.SevenTiedAt
import Derived.Lib.LaidTab
import Derived.Test.YtaacognadfodlaaDoorDrawCode
import Derived.Test.YtaacognadfodlaaDoorNumDraw
import Derived.Test.YtaacognadfodlaaDoorParse
namespace Go.Proofs.YtaacognadfodlaaDoor.lawFnNumbers
open Go Go.ChangeShapes Go.WideShapes Go.ChangeAt Go.RowKit Go.Joins Go.ChangeMaps
set_option linter.unusedVariables false

theorem own : ownKnob Tryd.prog.godebug = none := by kernel_rfl
theorem laidOut : laidOutB Tryd.prog = true := by kernel_rfl

theorem star : "*" ++ "errors.errorString" = "*errors.errorString" := by decide
theorem rowErr (u : TypeId) (h : Tryd.prog.typeName? 3 u = some "*errors.errorString") : u = 98 :=
  typeName_ptr_named (nm := "errors.errorString") (by rw [star]; kernel_rfl) (by kernel_rfl) (by decide) u (by rw [star]; exact h)
theorem of_laid {W : World} (h : laidMetH Tryd.prog Rows.fnNumbersRow.laid W) : AtoiFacts W := by
  rw [MakeChecks.laidMetH_plain _ _ _ (by kernel_rfl)] at h
  have hT : Lib.TabIs Tryd.prog W "internal/strconv.uint64pow10" .u64 Lib.pow10Tab := Lib.tabIs_of_head (t := 92) (g := 3) (by kernel_rfl) (by kernel_rfl) Tryd.underlying92 Tryd.underlying76 (by kernel_rfl) (by kernel_rfl) (laidMet.tail (laidMet.tail h))
  have h3 := laidMet.tail (laidMet.tail (laidMet.tail h))
  have g2 : Tryd.prog.globalNamed "strconv.ErrRange" = some 2 := by kernel_rfl
  have g1 : Tryd.prog.globalNamed "strconv.ErrSyntax" = some 1 := by kernel_rfl
  obtain ⟨a2, s2, v2, _, _, _⟩ := laid_sentinel h3 g2 (by kernel_rfl : (Tryd.prog.globals[2]?).map (·.type) = some 40) Tryd.underlying40 rowErr Tryd.underlying98 Tryd.underlying100 rfl rfl Tryd.underlying9 (by kernel_rfl) (by kernel_rfl)
  obtain ⟨a1, s1, v1, _, _, _⟩ := laid_sentinel (laidMet.tail h3) g1 (by kernel_rfl : (Tryd.prog.globals[1]?).map (·.type) = some 40) Tryd.underlying40 rowErr Tryd.underlying98 Tryd.underlying100 rfl rfl Tryd.underlying9 (by kernel_rfl) (by kernel_rfl)
  exact ⟨⟨_, _, by rw [World.var?_cell g1 v1 0]; rfl⟩, ⟨_, _, by rw [World.var?_cell g2 v2 0]; rfl⟩, hT⟩
theorem cell_lt {w : World} {g : Nat} {u : Value} (h : w.cell? ⟨g, 0, none⟩ = some u) : g < w.heap.size := by
  unfold World.cell? at h
  rcases Nat.lt_or_ge g w.heap.size with hlt | hge
  · exact hlt
  · simp [Array.getElem?_eq_none hge] at h
theorem facts_below {w w' : World} (h : AtoiFacts w) (hb : Below w.heap.size w w') : AtoiFacts w' := by
  obtain ⟨⟨T1, x1, h1⟩, ⟨T2, x2, h2⟩, h3⟩ := h
  exact ⟨⟨T1, x1, by rw [hb.cell (by exact cell_lt h1)]; exact h1⟩, ⟨T2, x2, by rw [hb.cell (by exact cell_lt h2)]; exact h2⟩, varBelow (g := 3) hb (by kernel_rfl) (var_lt (by kernel_rfl) h3) h3⟩

theorem itoa_first {n : Int} : Lib.itoa n ≠ [] := by
  rcases Int.lt_or_le n 0 with h | h
  · obtain ⟨N, rfl⟩ : ∃ N : Nat, n = -(N : Int) := ⟨(-n).toNat, by omega⟩
    rw [Lib.itoa_neg N (by omega)]
    simp
  · obtain ⟨N, rfl⟩ : ∃ N : Nat, n = (N : Int) := ⟨n.toNat, by omega⟩
    rw [Lib.itoa_nonneg]
    exact dec_ne N
theorem itoa_no {n : Int} (h : n < 0 ∨ 1000000000 < n) : puV (Lib.itoa n) = .tuple #[.int .i64 0, .bool false] := by
  refine puV_no fun m hm e => ?_
  rcases Int.lt_or_le n 0 with h0 | h0
  · obtain ⟨N, rfl⟩ : ∃ N : Nat, n = -(N : Int) := ⟨(-n).toNat, by omega⟩
    rw [Lib.itoa_neg N (by omega)] at e
    have := dec_digit (m := m) (b := 45) (k := 0) (by rw [e]; rfl)
    exact absurd this.1 (by decide)
  · obtain ⟨N, rfl⟩ : ∃ N : Nat, n = (N : Int) := ⟨n.toNat, by omega⟩
    rw [Lib.itoa_nonneg] at e
    have h1 := dec_val m
    rw [e, dec_val] at h1
    injection h1 with h1
    omega
theorem itoa_yes {n : Int} (h0 : 0 ≤ n) (h1 : n ≤ 1000000000) : puV (Lib.itoa n) = .tuple #[.int .i64 n, .bool true] := by
  obtain ⟨N, rfl⟩ : ∃ N : Nat, n = (N : Int) := ⟨n.toNat, by omega⟩
  rw [Lib.itoa_nonneg]
  exact puV_yes rfl (by omega)
theorem sizeOf {l : List UInt8} (h : l.length ≤ 21) : (⟨l.toArray⟩ : ByteArray).size ≤ 1048576 := by
  show l.toArray.size ≤ _
  simp; omega

set_option maxRecDepth 20000 in
set_option maxHeartbeats 4000000 in
theorem walk (w : World) (hL : AtoiFacts w) (A : Option Addr) (len cap : Nat) (z : List Int) (h : IsRow .u8 w A len cap z) : Calls Tryd.prog 7 #[.slice A len cap] w fun e w' => e = .returned (.bool true) ∧ Below w.heap.size w w' := by
  obtain ⟨hU, _⟩ := h.code
  clear h
  have HL := Lib.hid hL
  clear hL
  by_cases hbig : 1048576 < (len : Int)
  · go_enter Tryd.func7, Tryd.ntmps7
    go_wp2_with (go_at_call 21; (with_reducible refine (c_laws_big _ _ _ _).mono ?_); rintro e w' ⟨rfl, rfl⟩)
    go_ret
    exact ⟨rfl, Below.refl _ _⟩
  have hm : len ≤ 1048576 := by omega
  have HU := Lib.hid hU
  clear hU
  go_enter Tryd.func7, Tryd.ntmps7
  go_wp2_with (go_at_call 21; (with_reducible refine (c_laws_big _ _ _ _).mono ?_); rintro e w' ⟨rfl, rfl⟩)
  refine (c_spec_DrawFormatInt _ _ _ _ _ HU.out (Nat.le_refl _) (by omega)).mono ?_
  rintro e w1 ⟨n, ⟨n0, n1⟩, rfl, hb1⟩
  clear HU
  have HF1 := Lib.hid (facts_below HL.out hb1)
  have hlen := Lib.itoa_length_le n n0 n1
  have hne := itoa_first (n := n)
  have HFI := Lib.hid (fun h => c_impl_FormatInt n w1 n0 n1 h)
  have HPU : Hid (∀ w2, AtoiFacts w2 → Calls Tryd.prog 15 #[.string ⟨(Lib.itoa n).toArray⟩] w2 fun e w' => e = .returned (puV (Lib.itoa n)) ∧ Below w2.heap.size w2 w') := by
    refine Lib.hid fun w2 h2 => ?_
    exact c_impl_ParseUint ⟨(Lib.itoa n).toArray⟩ w2 (sizeOf hlen) h2
  by_cases hin : 0 ≤ n ∧ n ≤ 1000000000
  · obtain ⟨i0, i1⟩ := hin
    rw [itoa_yes i0 i1] at HPU
    generalize Lib.itoa n = l at HFI HPU hne
    clear hlen
    have hnb : (l == ([] : List UInt8)) = false := beq_eq_false_iff_ne.2 hne
    have hni : l.isEmpty = false := by cases l; (exact absurd rfl hne); rfl
    go_wp2_with (first | (go_at_call 13; (with_reducible refine (HFI.out HF1.out.2.2).mono ?_); rintro e w2 ⟨rfl, hb2⟩) | (go_at_call 15; (with_reducible refine (HPU.out _ (facts_below HF1.out hb2)).mono ?_); rintro e w3 ⟨rfl, hb3⟩))
    go_ret
    exact ⟨rfl, belowNx hb1 (belowNx hb2 hb3)⟩
  · rw [itoa_no (by omega)] at HPU
    generalize Lib.itoa n = l at HFI HPU hne
    clear hlen
    have hnb : (l == ([] : List UInt8)) = false := beq_eq_false_iff_ne.2 hne
    have hni : l.isEmpty = false := by cases l; (exact absurd rfl hne); rfl
    by_cases i0 : 0 ≤ n
    · have i1 : ¬ n ≤ 1000000000 := fun h => hin ⟨i0, h⟩
      clear hin
      go_wp2_with (first | (go_at_call 13; (with_reducible refine (HFI.out HF1.out.2.2).mono ?_); rintro e w2 ⟨rfl, hb2⟩) | (go_at_call 15; (with_reducible refine (HPU.out _ (facts_below HF1.out hb2)).mono ?_); rintro e w3 ⟨rfl, hb3⟩))
      go_ret
      exact ⟨rfl, belowNx hb1 (belowNx hb2 hb3)⟩
    · clear hin
      go_wp2_with (first | (go_at_call 13; (with_reducible refine (HFI.out HF1.out.2.2).mono ?_); rintro e w2 ⟨rfl, hb2⟩) | (go_at_call 15; (with_reducible refine (HPU.out _ (facts_below HF1.out hb2)).mono ?_); rintro e w3 ⟨rfl, hb3⟩))
      go_ret
      exact ⟨rfl, belowNx hb1 (belowNx hb2 hb3)⟩

set_option maxRecDepth 100000 in
def laidL : List (String × DataW Unit) := [("math/bits.deBruijn32tab", Rows.laid_math_bits_deBruijn32tab), ("math/bits.deBruijn64tab", Rows.laid_math_bits_deBruijn64tab), ("internal/strconv.uint64pow10", Rows.laid_internal_strconv_uint64pow10), ("strconv.ErrRange", Rows.laid_strconv_ErrRange), ("strconv.ErrSyntax", Rows.laid_strconv_ErrSyntax)]
theorem door_met (os : Os) (args : Array Value) : laidMetH Tryd.prog laidL ((World.doorLaid Tryd.prog 91 os).forCall (fun _ _ => 0) ⟨#[], args, []⟩).memory :=
  laidMetH_of_parts3 (fuel := 8) (laidMet_of_run' 8 (by kernel_rfl) (by kernel_rfl)) (by kernel_rfl) (by kernel_rfl)
set_option maxRecDepth 100000 in
theorem lifted (os : Os) (started : os.Started) (H : Type) (enc : TypeId × Value → H) :
    ReturnsInHanded {} Tryd.checked os 7 .any (fun w args => (Rows.fnNumbersSpec.pre enc Tryd.prog Tryd.f7 [] false w args ∧ laidMetH Tryd.prog laidL w) ∧ sizedMet enc Tryd.prog Tryd.f7 (OpenSpec.ofChange Rows.fnNumbersSpec) false w args) (Rows.fnNumbersSpec.post enc Tryd.prog Tryd.f7 false true false false) := by
  refine returnsInHanded_of_change_and (C := Tryd.checked) (X := fun w _ => laidMetH Tryd.prog laidL w) (fun _ _ _ hh h => h.of_heap hh) own started (by kernel_rfl) Tryd.func7
    (ChangeSpec.witness_shaped (enc := enc) (C := Tryd.checked) (os := os) (X := fun w _ => laidMetH Tryd.prog laidL w) false (World.doorLaid Tryd.prog 91 os) #[.slice none 0 0] 8 rfl (World.shaped_of_RefB (by kernel_rfl) (by kernel_rfl)) (by kernel_rfl) (by kernel_rfl) (by kernel_rfl) (door_met os _)) ?_
  intro W base args ds gs before hval0 hW hcnd hshp hL _
  have hval : ∀ (j : Nat) t v, Tryd.f7.params[j]? = some t → args[j]? = some v → Value.okWide Tryd.prog W .any base t v := hval0
  have hW' := hW
  obtain ⟨p, q, hA0, hV, rfl, hfz, hnd⟩ := hW
  have hA : DataW.TrodAll enc Tryd.prog W 0 (fun _ => true) true Tryd.f7.params.toList args.toList ds p := hA0
  rw [Tryd.params7] at hA hval
  obtain ⟨v0, vs0, d0, ds0, p0, q0, hargs, rfl, rfl, h0, r0⟩ := trodAll_cons hA
  obtain ⟨rfl, rfl, rfl⟩ := trodAll_nil r0
  obtain rfl : args = #[v0] := by cases args; simp_all
  obtain ⟨rfl, rfl⟩ := trodVars_none hV
  obtain ⟨a0, len0, cap0, rfl⟩ := okWide_slice Tryd.underlying34 (hval 0 34 v0 rfl rfl)
  have k0 := h0
  have lt0 : ∀ x ∈ p0, x.block < W.heap.size := by obtain ⟨m, hm⟩ := k0; exact DataW.trod_lt m _ _ _ hm
  obtain ⟨z0, w0⟩ : ∃ zs, IsRow .u8 W a0 len0 cap0 zs := by
    obtain ⟨fuel, hf⟩ := h0
    rcases open_ints Tryd.underlying34 Tryd.underlying5 (by kernel_rfl) hf with ⟨hcs, _⟩ | ⟨x, l, c, zs, hcs, _, hl, hm, hz, _, hcell, hwz⟩
    · simp [Value.cells] at hcs
      obtain ⟨rfl, rfl, rfl⟩ := hcs
      exact ⟨[], .inl ⟨rfl, rfl, rfl, rfl⟩⟩
    · simp [Value.cells] at hcs
      obtain ⟨rfl, rfl, rfl⟩ := hcs
      exact ⟨zs, .inr ⟨_, rfl, hl, hm, by simpa using hz, hcell, hwz⟩⟩
  clear hA0 hval0
  simp only [List.append_nil] at hW'
  refine (walk (w := W) (of_laid hL) a0 len0 cap0 z0 w0).mono fun e W' ⟨he, bel⟩ => ?_
  subst he
  exact ⟨_, rfl, _, _, _, [], _, [], hW', trodAll_mk1 (shut_bool Tryd.underlying4 _), (trodAll_cons_mk (Below.trod laidOut (by kernel_rfl) (of_decide_eq_true (by kernel_rfl)) k0 bel lt0) trodAll_mk0), rfl, bel.frame _, fun h => by cases h⟩

theorem over : Rows.fnNumbersRow.holds Tryd.pinned (OpenSpec.ofChange Rows.fnNumbersSpec) :=
  OpenClaim.holds_of_wide 7 Tryd.f7 rfl rfl rfl rfl rfl rfl rfl ⟨rfl, rfl, rfl, rfl, rfl⟩ rfl rfl rfl rfl rfl (by kernel_rfl) Tryd.func7 (by kernel_rfl)
    (of_decide_eq_true (by kernel_rfl)) (by unfold Func.isWrapper; first | (rw [if_pos (by decide +kernel)]; kernel_rfl) | (rw [if_neg (by decide +kernel)]; exact ⟨rfl, rfl⟩))
    (fun os started H enc _ => lifted os started H enc)

theorem card_holds : Rows.FnNumbersCardSaid :=
  Claim7.holds_tied_plain_at .later [] [.data, .data, .data, .sentinel, .sentinel] true (true, "995a6f559626cb847be1a5641961149ffdd9d73d2bce9b9447a5d13da41960d1") true
    over (fun _ h => by cases h) (by kernel_rfl) (fun _ h => by cases h) fnNumbers_row_tie rfl ⟨rfl, rfl⟩ (by kernel_rfl) rfl
    (fun f fn hf hfn => by
      obtain rfl : f = 7 := Option.some.inj ((show Tryd.prog.funcNamed Tryd.f7.name = some 7 by kernel_rfl).symm.trans hf) |>.symm
      obtain rfl : fn = Tryd.f7 := (Option.some.inj (Tryd.func7.symm.trans hfn)).symm
      exact ⟨by kernel_rfl, fun j t ht => by
        rw [Tryd.params7] at ht
        have hm : t ∈ [34] := by simpa using Array.mem_of_getElem? ht
        have hall : ([34].all fun u => !Tryd.prog.wantsStandIn u) = true := by kernel_rfl
        exact (show Tryd.prog.wantsStandIn t = false by simpa using List.all_eq_true.1 hall t hm)⟩)
    (by kernel_rfl)
end Go.Proofs.YtaacognadfodlaaDoor.lawFnNumbers

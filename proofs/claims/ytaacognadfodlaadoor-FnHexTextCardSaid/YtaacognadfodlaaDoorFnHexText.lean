/- The card FnHexText: what is encoded to hexadecimal text decodes to what it was. It has no conditions beyond the tables that the card ties to the program's text. -/
import Derived.Test.YtaacognadfodlaaDoorRows
import Derived.Test.YtaacognadfodlaaDoorTie
import Derived.Test.YtaacognadfodlaaDoorCards
import Derived.WalkKit
import Derived.ProofKit
import Derived.OpenShut
import Derived.ChangeOld
import Derived.Below
import Derived.Lib.SmallJoins
import Derived.ChangeMaps5
import Derived.LaidMore
import Derived.Stop.Joined
import Derived.Stop.LaidErr
import Derived.SevenTiedAt
import Derived.Lib.LaidTab
import Derived.Test.YtaacognadfodlaaDoorDecText
import Derived.Test.YtaacognadfodlaaDoorEncD
import Derived.Test.YtaacognadfodlaaDoorDrawCode
import Derived.Test.YtaacognadfodlaaDoorTextDraw
namespace Go.Proofs.YtaacognadfodlaaDoor.lawFnHexText
open Go Go.ChangeShapes Go.WideShapes Go.ChangeAt Go.RowKit Go.Joins Go.ChangeMaps
set_option linter.unusedVariables false

theorem own : ownKnob Tryd.prog.godebug = none := by kernel_rfl
theorem laidOut : laidOutB Tryd.prog = true := by kernel_rfl

theorem varBelow {P : Program} {B g : Nat} {W W' : World} {n : String} {cs : Array Value} (h : Below B W W') (hg : P.globalNamed n = some g) (hgB : g < B) (hv : W.var? P n = some cs) : W'.var? P n = some cs := by
  unfold World.var? at hv ⊢
  rw [hg] at hv ⊢
  simp only [Option.bind_some] at hv ⊢
  rw [h.block g hgB]
  exact hv
theorem var_lt {P : Program} {g : Nat} {W : World} {n : String} {cs : Array Value} (hg : P.globalNamed n = some g) (hv : W.var? P n = some cs) : g < W.heap.size := by
  unfold World.var? at hv
  rw [hg] at hv
  rcases Nat.lt_or_ge g W.heap.size with h | h
  · exact h
  · simp [Array.getElem?_eq_none h] at hv
theorem star : "*" ++ "errors.errorString" = "*errors.errorString" := by decide
theorem rowErr (u : TypeId) (h : Tryd.prog.typeName? 3 u = some "*errors.errorString") : u = 98 :=
  typeName_ptr_named (nm := "errors.errorString") (by rw [star]; kernel_rfl) (by kernel_rfl) (by decide) u (by rw [star]; exact h)
@[reducible] def Facts (w : World) : Prop := (∃ (T : TypeId) (x : Value), w.cell? ⟨0, 0, none⟩ = some (.iface T x)) ∧ Lib.TabIs Tryd.prog w "internal/strconv.uint64pow10" .u64 Lib.pow10Tab
theorem of_laid {W : World} (h : laidMetH Tryd.prog Rows.fnHexTextRow.laid W) : Facts W := by
  rw [MakeChecks.laidMetH_plain _ _ _ (by kernel_rfl)] at h
  have hT : Lib.TabIs Tryd.prog W "internal/strconv.uint64pow10" .u64 Lib.pow10Tab := Lib.tabIs_of_head (t := 92) (g := 3) (by kernel_rfl) (by kernel_rfl) Tryd.underlying92 Tryd.underlying76 (by kernel_rfl) (by kernel_rfl) (laidMet.tail (laidMet.tail h))
  have h3 := laidMet.tail (laidMet.tail (laidMet.tail h))
  have hg : Tryd.prog.globalNamed "encoding/hex.ErrLength" = some 0 := by kernel_rfl
  obtain ⟨a, s, hv, _, _, _⟩ := laid_sentinel h3 hg (by kernel_rfl : (Tryd.prog.globals[0]?).map (·.type) = some 40) Tryd.underlying40 rowErr Tryd.underlying98 Tryd.underlying100 rfl rfl Tryd.underlying9 (by kernel_rfl) (by kernel_rfl)
  exact ⟨⟨_, _, by rw [World.var?_cell hg hv 0]; rfl⟩, hT⟩
theorem cell_lt {w : World} {g : Nat} {u : Value} (h : w.cell? ⟨g, 0, none⟩ = some u) : g < w.heap.size := by
  unfold World.cell? at h
  rcases Nat.lt_or_ge g w.heap.size with hlt | hge
  · exact hlt
  · simp [Array.getElem?_eq_none hge] at h
theorem facts_below {w w' : World} (h : Facts w) (hb : Below w.heap.size w w') : Facts w' := by
  obtain ⟨⟨T1, x1, h1⟩, h3⟩ := h
  exact ⟨⟨T1, x1, by rw [hb.cell (by exact cell_lt h1)]; exact h1⟩, varBelow (g := 3) hb (by kernel_rfl) (var_lt (by kernel_rfl) h3) h3⟩
theorem ten : (⟨(Lib.itoa 10).toArray⟩ : ByteArray) = ⟨#[49, 48]⟩ := by
  rw [show (10 : Int) = ((10 : Nat) : Int) from rfl, Lib.itoa_nonneg]
  have h : Lib.decDigits 10 = [49, 48] := by
    rw [Lib.decDigits, dif_neg (by omega), Lib.decDigits]; rfl
  rw [h]
theorem dec_enc (s : ByteArray) (h : s.size ≤ 20000) : decOk (Lib.Hx.encode s.data.toList) = true ∧ decS (Lib.Hx.encode s.data.toList) = s := by
  obtain ⟨h1, h2⟩ := dec_yes (l := Lib.Hx.encode s.data.toList) (d := s.data.toList) rfl (by rw [bytes_size]; exact h)
  exact ⟨h1, h2⟩

set_option maxRecDepth 20000 in
set_option maxHeartbeats 4000000 in
theorem walk (w : World) (hL : Facts w) (A : Option Addr) (len cap : Nat) (z : List Int) (h : IsRow .u8 w A len cap z) : Calls Tryd.prog 9 #[.slice A len cap] w fun e w' => e = .returned (.bool true) ∧ Below w.heap.size w w' := by
  obtain ⟨hU, _⟩ := h.code
  clear h
  have HL := Lib.hid hL
  clear hL
  by_cases hbig : 1048576 < (len : Int)
  · go_enter Tryd.func9, Tryd.ntmps9
    go_wp2_with (go_at_call 21; (with_reducible refine (c_laws_big _ _ _ _).mono ?_); rintro e w' ⟨rfl, rfl⟩)
    go_ret
    exact ⟨rfl, Below.refl _ _⟩
  have hm : len ≤ 1048576 := by omega
  have HU := Lib.hid hU
  clear hU
  go_enter Tryd.func9, Tryd.ntmps9
  go_wp2_with (go_at_call 21; (with_reducible refine (c_laws_big _ _ _ _).mono ?_); rintro e w' ⟨rfl, rfl⟩)
  refine (c_spec_DrawEncodeHex _ _ _ _ _ HU.out (Nat.le_refl _) (by omega)).mono ?_
  rintro e w1 ⟨s, hs, rfl, hb1⟩
  clear HU
  have HF1 := Lib.hid (facts_below HL.out hb1)
  by_cases h20 : s.size ≤ 20000
  · obtain ⟨e1, e2⟩ := enc_yes h20
    obtain ⟨d1, d2⟩ := dec_enc s h20
    have HE := Lib.hid (c_impl_EncodeHex s w1 (by omega))
    rw [e1, e2] at HE
    have hl : (⟨(Lib.Hx.encode s.data.toList).toArray⟩ : ByteArray).size = 2 * s.size := by
      show (Lib.Hx.encode s.data.toList).toArray.size = _
      rw [List.size_toArray, Lib.Hx.encode_length, bytes_size]
    obtain ⟨t, ht⟩ : ∃ t : ByteArray, t = ⟨(Lib.Hx.encode s.data.toList).toArray⟩ := ⟨_, rfl⟩
    have htl : t.data.toList = Lib.Hx.encode s.data.toList := by rw [ht]
    rw [← ht] at HE hl
    have HD : Hid (∀ w2, Facts w2 → Calls Tryd.prog 11 #[.string t] w2 fun e w' => e = .returned (.tuple #[.string s, .bool true]) ∧ Below w2.heap.size w2 w') := by
      refine Lib.hid fun w2 h2 => ?_
      have := c_impl_DecodeHex t w2 (by omega) h2.1
      rw [htl, d1, d2] at this
      exact this
    have hle : ¬ (20000 : Int) < (s.size : Int) := by omega
    have htz : (t.size : Int) = 2 * (s.size : Int) := by omega
    have hw : IntKind.i64.wrap (2 * (s.size : Int)) = 2 * (s.size : Int) := IntWalk.i64_in _ (by omega)
    clear e1 e2 d1 d2 htl ht hl h20
    go_wp2_with (first | (go_at_call 26; (with_reducible refine HE.out.mono ?_); rintro e w2 ⟨rfl, hb2⟩) | (go_at_call 11; (with_reducible refine (HD.out _ (facts_below HF1.out hb2)).mono ?_); rintro e w3 ⟨rfl, hb3⟩))
    go_ret
    exact ⟨rfl, belowNext hb1 (belowNext hb2 hb3)⟩
  · obtain ⟨e1, e2⟩ := enc_no h20
    have HE := Lib.hid (c_impl_EncodeHex s w1 (by omega))
    rw [e1, e2] at HE
    have HFI := Lib.hid (fun w2 h => c_impl_FormatInt 10 w2 (by omega) (by omega) h)
    rw [ten] at HFI
    have hle : (20000 : Int) < (s.size : Int) := by omega
    clear e1 e2
    go_wp2_with (first | (go_at_call 26; (with_reducible refine HE.out.mono ?_); rintro e w2 ⟨rfl, hb2⟩) | (go_at_call 13; (with_reducible refine (HFI.out _ (facts_below HF1.out hb2).2).mono ?_); rintro e w3 ⟨rfl, hb3⟩))
    go_ret
    exact ⟨rfl, belowNext hb1 (belowNext hb2 hb3)⟩

set_option maxRecDepth 100000 in
def laidL : List (String × DataW Unit) := [("math/bits.deBruijn32tab", Rows.laid_math_bits_deBruijn32tab), ("math/bits.deBruijn64tab", Rows.laid_math_bits_deBruijn64tab), ("internal/strconv.uint64pow10", Rows.laid_internal_strconv_uint64pow10), ("encoding/hex.ErrLength", Rows.laid_encoding_hex_ErrLength)]
theorem door_met (os : Os) (args : Array Value) : laidMetH Tryd.prog laidL ((World.doorLaid Tryd.prog 91 os).forCall (fun _ _ => 0) ⟨#[], args, []⟩).memory :=
  laidMetH_of_parts3 (fuel := 8) (laidMet_of_run' 8 (by kernel_rfl) (by kernel_rfl)) (by kernel_rfl) (by kernel_rfl)
set_option maxRecDepth 100000 in
theorem lifted (os : Os) (started : os.Started) (H : Type) (enc : TypeId × Value → H) :
    ReturnsInHanded {} Tryd.checked os 9 .any (fun w args => (Rows.fnHexTextSpec.pre enc Tryd.prog Tryd.f9 [] false w args ∧ laidMetH Tryd.prog laidL w) ∧ sizedMet enc Tryd.prog Tryd.f9 (OpenSpec.ofChange Rows.fnHexTextSpec) false w args) (Rows.fnHexTextSpec.post enc Tryd.prog Tryd.f9 false true false false) := by
  refine returnsInHanded_of_change_and (C := Tryd.checked) (X := fun w _ => laidMetH Tryd.prog laidL w) (fun _ _ _ hh h => h.of_heap hh) own started (by kernel_rfl) Tryd.func9
    (ChangeSpec.witness_shaped (enc := enc) (C := Tryd.checked) (os := os) (X := fun w _ => laidMetH Tryd.prog laidL w) false (World.doorLaid Tryd.prog 91 os) #[.slice none 0 0] 8 rfl (World.shaped_of_RefB (by kernel_rfl) (by kernel_rfl)) (by kernel_rfl) (by kernel_rfl) (by kernel_rfl) (door_met os _)) ?_
  intro W base args ds gs before hval0 hW hcnd hshp hL _
  have hval : ∀ (j : Nat) t v, Tryd.f9.params[j]? = some t → args[j]? = some v → Value.okWide Tryd.prog W .any base t v := hval0
  have hW' := hW
  obtain ⟨p, q, hA0, hV, rfl, hfz, hnd⟩ := hW
  have hA : DataW.TrodAll enc Tryd.prog W 0 (fun _ => true) true Tryd.f9.params.toList args.toList ds p := hA0
  rw [Tryd.params9] at hA hval
  obtain ⟨v0, vs0, d0, ds0, p0, q0, hargs, rfl, rfl, h0, r0⟩ := trodAll_cons hA
  obtain ⟨rfl, rfl, rfl⟩ := trodAll_nil r0
  obtain rfl : args = #[v0] := by cases args; simp_all
  obtain ⟨rfl, rfl⟩ := trodVars_none hV
  obtain ⟨a0, len0, cap0, rfl⟩ := okWide_slice Tryd.underlying34 (hval 0 34 v0 rfl rfl)
  have k0 := h0
  have lt0 : ∀ x ∈ p0, x.block < W.heap.size := by obtain ⟨m, hm⟩ := k0; exact DataW.trod_lt m _ _ _ hm
  obtain ⟨z0, w0⟩ : ∃ zs, IsRow .u8 W a0 len0 cap0 zs := by
    obtain ⟨fuel, hf⟩ := h0
    rcases open_ints Tryd.underlying34 Tryd.underlying5 (by kernel_rfl) hf with ⟨hcs, _⟩ | ⟨x, l, c, zs, hcs, _, hl, hm, hz, _, hcell, hwz⟩
    · simp [Value.cells] at hcs
      obtain ⟨rfl, rfl, rfl⟩ := hcs
      exact ⟨[], .inl ⟨rfl, rfl, rfl, rfl⟩⟩
    · simp [Value.cells] at hcs
      obtain ⟨rfl, rfl, rfl⟩ := hcs
      exact ⟨zs, .inr ⟨_, rfl, hl, hm, by simpa using hz, hcell, hwz⟩⟩
  clear hA0 hval0
  simp only [List.append_nil] at hW'
  refine (walk (w := W) (of_laid hL) a0 len0 cap0 z0 w0).mono fun e W' ⟨he, bel⟩ => ?_
  subst he
  exact ⟨_, rfl, _, _, _, [], _, [], hW', trodAll_mk1 (shut_bool Tryd.underlying4 _), (trodAll_cons_mk (Below.trod laidOut (by kernel_rfl) (of_decide_eq_true (by kernel_rfl)) k0 bel lt0) trodAll_mk0), rfl, bel.frame _, fun h => by cases h⟩

theorem over : Rows.fnHexTextRow.holds Tryd.pinned (OpenSpec.ofChange Rows.fnHexTextSpec) :=
  OpenClaim.holds_of_wide 9 Tryd.f9 rfl rfl rfl rfl rfl rfl rfl ⟨rfl, rfl, rfl, rfl, rfl⟩ rfl rfl rfl rfl rfl (by kernel_rfl) Tryd.func9 (by kernel_rfl)
    (of_decide_eq_true (by kernel_rfl)) (by unfold Func.isWrapper; first | (rw [if_pos (by decide +kernel)]; kernel_rfl) | (rw [if_neg (by decide +kernel)]; exact ⟨rfl, rfl⟩))
    (fun os started H enc _ => lifted os started H enc)

theorem card_holds : Rows.FnHexTextCardSaid :=
  Claim7.holds_tied_plain_at .later [] [.data, .data, .data, .sentinel] true (true, "995a6f559626cb847be1a5641961149ffdd9d73d2bce9b9447a5d13da41960d1") true
    over (fun _ h => by cases h) (by kernel_rfl) (fun _ h => by cases h) fnHexText_row_tie rfl ⟨rfl, rfl⟩ (by kernel_rfl) rfl
    (fun f fn hf hfn => by
      obtain rfl : f = 9 := Option.some.inj ((show Tryd.prog.funcNamed Tryd.f9.name = some 9 by kernel_rfl).symm.trans hf) |>.symm
      obtain rfl : fn = Tryd.f9 := (Option.some.inj (Tryd.func9.symm.trans hfn)).symm
      exact ⟨by kernel_rfl, fun j t ht => by
        rw [Tryd.params9] at ht
        have hm : t ∈ [34] := by simpa using Array.mem_of_getElem? ht
        have hall : ([34].all fun u => !Tryd.prog.wantsStandIn u) = true := by kernel_rfl
        exact (show Tryd.prog.wantsStandIn t = false by simpa using List.all_eq_true.1 hall t hm)⟩)
    (by kernel_rfl)
end Go.Proofs.YtaacognadfodlaaDoor.lawFnHexText

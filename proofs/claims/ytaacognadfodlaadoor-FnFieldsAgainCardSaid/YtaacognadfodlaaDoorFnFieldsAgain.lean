/- The card FnFieldsAgain: the fields of a line, joined by single spaces, have the same fields. It has no conditions beyond the tables that the card ties to the program's text. -/
import Derived.Test.YtaacognadfodlaaDoorRows
import Derived.Test.YtaacognadfodlaaDoorTie
import Derived.Test.YtaacognadfodlaaDoorCards
import Derived.WalkKit
import Derived.ProofKit
import Derived.OpenShut
import Derived.ChangeOld
import Derived.Below
import Derived.Lib.SmallJoins
import Derived.ChangeMaps5
import Derived.LaidMore
import Derived.Lay
import Derived.Stop.Joined
import Derived.Stop.LaidErr
import Derived.SevenTiedAt
import Derived.Lib.LaidTab
import Derived.Deep.DeepHandedRow
import Derived.Shelf.Vars
import Derived.Test.YtaacognadfodlaaDoorDrawCode
import Derived.Test.YtaacognadfodlaaDoorSplitImpl
import Derived.Test.YtaacognadfodlaaDoorFieldsPlain
import Derived.Test.YtaacognadfodlaaDoorLineDraw
namespace Go.Proofs.YtaacognadfodlaaDoor.lawFnFieldsAgain
open Go Go.ChangeShapes Go.WideShapes Go.ChangeAt Go.RowKit Go.Joins Go.ChangeMaps
set_option linter.unusedVariables false

theorem own : ownKnob Tryd.prog.godebug = none := by kernel_rfl
theorem laidOut : laidOutB Tryd.prog = true := by kernel_rfl

theorem varBelow {P : Program} {B g : Nat} {W W' : World} {n : String} {cs : Array Value} (h : Below B W W') (hg : P.globalNamed n = some g) (hgB : g < B) (hv : W.var? P n = some cs) : W'.var? P n = some cs := by
  unfold World.var? at hv ⊢
  rw [hg] at hv ⊢
  simp only [Option.bind_some] at hv ⊢
  rw [h.block g hgB]
  exact hv
theorem var_lt {P : Program} {g : Nat} {W : World} {n : String} {cs : Array Value} (hg : P.globalNamed n = some g) (hv : W.var? P n = some cs) : g < W.heap.size := by
  unfold World.var? at hv
  rw [hg] at hv
  rcases Nat.lt_or_ge g W.heap.size with h | h
  · exact h
  · simp [Array.getElem?_eq_none h] at hv
@[reducible] def Tab (w : World) : Prop := Lib.TabIs Tryd.prog w "internal/strconv.uint64pow10" .u64 Lib.pow10Tab
@[reducible] def Facts (w : World) : Prop := (∃ m : Int, w.cell? ⟨4, 0, none⟩ = some (.int .i64 m)) ∧ Tab w
theorem tab_below {w w' : World} (h : Tab w) (hb : Below w.heap.size w w') : Tab w' := varBelow (g := 3) hb (by kernel_rfl) (var_lt (by kernel_rfl) h) h
theorem of_laid {W : World} (h : laidMetH Tryd.prog Rows.fnFieldsAgainRow.laid W) (hs : W.ShapedOpen Tryd.prog) : Facts W := by
  refine ⟨cell_of_shapedOpen_int (zero := #[.int .i64 0]) (t := 3) hs (of_decide_eq_true (by kernel_rfl)) (by kernel_rfl) rfl (by kernel_rfl) (by kernel_rfl) Tryd.underlying3, ?_⟩
  rw [MakeChecks.laidMetH_plain _ _ _ (by kernel_rfl)] at h
  exact Lib.tabIs_of_head (t := 92) (g := 3) (by kernel_rfl) (by kernel_rfl) Tryd.underlying92 Tryd.underlying76 (by kernel_rfl) (by kernel_rfl) (laidMet.tail (laidMet.tail h))
theorem neg3 : (⟨(Lib.itoa (-3)).toArray⟩ : ByteArray) = ⟨#[45, 51]⟩ := by
  have h : Lib.decDigits 3 = [51] := by
    rw [Lib.decDigits]; rfl
  rw [show (-3 : Int) = -((3 : Nat) : Int) from rfl, Lib.itoa_neg 3 (by omega), h]

set_option maxHeartbeats 1000000 in
theorem c_laws_sameTexts (A A' : Option Addr) (n c c' lo lo' : Nat) (xs : List ByteArray) (w : World) (hx : OwnS w lo A n c xs) (hy : OwnS w lo' A' n c' xs) (hn : n ≤ maxLen) :
    Calls Tryd.prog 24 #[.slice A n c, .slice A' n c'] w fun e w' => e = .returned (.bool true) ∧ Below w.heap.size w w' := by
  unfold maxLen at hn
  have HX := Lib.hid hx
  have HY := Lib.hid hy
  clear hx hy
  go_enter Tryd.func24, Tryd.ntmps24
  go_wp2_with fail
  go_loopw [5] (fun i wr => ∃ k : Nat, k ≤ n ∧ i = .int .i64 k ∧ Below w.heap.size w wr) (fun i _ => n - (intOf i).toNat)
  case atStart => exact ⟨0, by omega, rfl, Below.refl _ _⟩
  case round =>
    obtain ⟨k, hk, rfl, hbel⟩ := hrel
    by_cases hlt : k < n
    · obtain ⟨b, rfl, hbB, hc⟩ := (HX.out.below hbel).at_ hlt
      obtain ⟨b', rfl, hbB', hc'⟩ := (HY.out.below hbel).at_ hlt
      generalize xs.getD k ByteArray.empty = x at hc hc'
      have hlt' : (k : Int) < (n : Int) := by omega
      go_wp2_with fail
      go_quiet (fail)
      go_wp2_with fail
      go_roundw
      case rel => exact ⟨k + 1, by omega, by go_num, belowDrewN hbel _⟩
      case measure => simp [intOf]; omega
    · go_wp2_with fail
      go_ret
      exact ⟨rfl, hbel⟩

theorem add_lists (J : List UInt8) (p : ByteArray) (hJ : J.length ≤ 14424) (hp : p.size ≤ 600) : ∀ W : World, (Op.stringOp .add (⟨J.toArray⟩ : ByteArray) p).run Tryd.prog W = .ok (.string ⟨(J ++ p.data.toList).toArray⟩) W := fun W => by
  have e : p = ⟨p.data.toList.toArray⟩ := by apply WideShapes.bytes_inj; simp
  have h := run_string_add_lists (P := Tryd.prog) W J p.data.toList (by omega) (by rw [bytes_size]; omega)
  rw [← e] at h
  exact h
set_option maxRecDepth 20000 in
set_option maxHeartbeats 8000000 in
theorem walk (w : World) (hL : Facts w) (A : Option Addr) (len cap : Nat) (z : List Int) (h : IsRow .u8 w A len cap z) : Calls Tryd.prog 8 #[.slice A len cap] w fun e w' => e = .returned (.bool true) ∧ Below w.heap.size w w' := by
  obtain ⟨hU, _⟩ := h.code
  clear h
  obtain ⟨⟨m, hm⟩, hT⟩ := hL
  have HM := Lib.hid hm
  have HM4 := Lib.hid (cell4_lt hm)
  have HT := Lib.hid hT
  clear hm hT
  by_cases hbig : 1048576 < (len : Int)
  · go_enter Tryd.func8, Tryd.ntmps8
    go_wp2_with (go_at_call 21; (with_reducible refine (c_laws_big _ _ _ _).mono ?_); rintro e w' ⟨rfl, rfl⟩)
    go_ret
    exact ⟨rfl, Below.refl _ _⟩
  have hlm : len ≤ 1048576 := by omega
  have HU := Lib.hid hU
  clear hU
  go_enter Tryd.func8, Tryd.ntmps8
  go_wp2_with (go_at_call 21; (with_reducible refine (c_laws_big _ _ _ _).mono ?_); rintro e w' ⟨rfl, rfl⟩)
  refine (c_spec_DrawSplitFields _ _ _ _ _ HU.out (Nat.le_refl _) (by omega)).mono ?_
  rintro e w1 ⟨s, hs, rfl, hb1⟩
  clear HU
  have HI := Lib.hid (c_impl_SplitFields s m w1 (by omega) (cell4_below HM.out hb1 HM4.out))
  have HA := Lib.hid (fun W => c_spec_SplitFields s W (by omega))
  have HB1 := Lib.hid hb1
  clear hb1
  cases hok : spOk s
  · rw [hok, sp_no hok] at HI HA
    have HF := Lib.hid (fun W (h : Tab W) => c_impl_FormatInt (-3) W (by omega) (by omega) h)
    rw [neg3] at HF
    clear hok
    go_wp2_with (first
      | (go_at_call 17; (with_reducible refine HI.out.mono ?_); rintro e w2 ⟨A2, c2, rfl, o2, b2⟩; have B2 := Lib.hid (belowNx HB1.out b2); clear o2)
      | (go_at_call 16; (with_reducible refine (HA.out _).mono ?_); rintro e w3 ⟨A3, c3, rfl, o3, b3⟩; have B3 := Lib.hid (belowNx B2.out b3); clear o3)
      | (go_at_call 13; (with_reducible refine (HF.out _ (tab_below HT.out B3.out)).mono ?_); rintro e w4 ⟨rfl, b4⟩; have B4 := Lib.hid (belowNx B3.out b4)))
    go_ret
    exact ⟨rfl, B4.out⟩
  · obtain ⟨hf, h24, hj⟩ := again hok
    rw [hok, sp_yes hok] at HI HA
    generalize fieldsB s = ys at hf h24 hj HI HA
    have HFL := Lib.hid hf
    have HJ := Lib.hid hj
    have HY : Hid (ys.length ≤ maxLen) := Lib.hid (by unfold maxLen; omega)
    clear hok hf hj
    go_wp2_with (first
      | (go_at_call 17; (with_reducible refine HI.out.mono ?_); rintro e w2 ⟨A2, c2, rfl, o2, b2⟩; have O2 : Hid (OwnS w2 w1.heap.size A2 ys.length c2 ys) := Lib.hid o2; have B2 := Lib.hid (belowNx HB1.out b2); clear o2)
      | (go_at_call 16; (with_reducible refine (HA.out _).mono ?_); rintro e w3 ⟨A3, c3, rfl, o3, b3⟩; have O2a := Lib.hid (O2.out.below b3); have B3 := Lib.hid (belowNx B2.out b3); clear o3))
    go_loop [8, 9] (fun t i => ∃ k : Nat, k ≤ ys.length ∧ i = .int .i64 (k : Int) ∧ t = .string ⟨(joinT (ys.take k)).toArray⟩) (fun _ i => ys.length - (RowKit.intOf i).toNat)
    case atStart => exact ⟨0, by omega, rfl, by simp [joinT]⟩
    case round =>
      obtain ⟨k, hk, rfl, rfl⟩ := hrel
      have hkw : IntKind.i64.wrap ((k : Int) + 1) = (k : Int) + 1 := IntWalk.i64_in _ (by omega)
      by_cases hlt : k < ys.length
      · have hlt' : (k : Int) < (ys.length : Int) := by omega
        obtain ⟨g, rfl, hg, hcell⟩ := O2a.out.at_ hlt
        obtain ⟨p, hp⟩ : ∃ p, ys[k]? = some p := ⟨_, List.getElem?_eq_getElem hlt⟩
        rw [List.getD_eq_getElem?_getD, hp, Option.getD_some] at hcell
        have hst := Lib.hid (joinT_step hp)
        have hps : p.size ≤ 600 := (HFL.out p (List.mem_of_getElem? hp)).2.1
        have hJl : (joinT (ys.take k)).length ≤ 14424 := by
          have h1 := joinT_len (m := 600) (ps := ys.take k) (fun q hq => HFL.out q (List.mem_of_mem_take hq))
          have h2 : (ys.take k).length ≤ 24 := by rw [List.length_take]; omega
          have h3 := Nat.mul_le_mul_right 601 h2
          omega
        clear hp
        generalize joinT (ys.take k) = J at hst hJl
        have hcat1 := add_lists J p hJl hps
        have hcat2 : ∀ W : World, (Op.stringOp .add (⟨(J ++ p.data.toList).toArray⟩ : ByteArray) (⟨#[32]⟩ : ByteArray)).run Tryd.prog W = .ok (.string ⟨(J ++ p.data.toList ++ [32]).toArray⟩) W := fun W => by
          have h := run_string_add_lists (P := Tryd.prog) W (J ++ p.data.toList) [32] (by rw [List.length_append, bytes_size]; omega) (by simp)
          simpa using h
        generalize J ++ p.data.toList ++ [32] = J2 at hst hcat2
        generalize J ++ p.data.toList = J1 at hcat1 hcat2
        go_wp2_with fail
        go_round
        case rel => exact ⟨k + 1, by omega, by go_num, by rw [hst.out]⟩
        case measure => simp [RowKit.intOf]; omega
      · have hlt' : ¬ (k : Int) < (ys.length : Int) := by omega
        have hke : k = ys.length := by omega
        have hSl : (joinT ys).length ≤ 14424 := by
          have h1 := joinT_len HFL.out
          have h3 := Nat.mul_le_mul_right 601 h24
          omega
        have hSz : (⟨(joinT ys).toArray⟩ : ByteArray).size = (joinT ys).length := by
          show (joinT ys).toArray.size = _
          simp
        rw [hke, List.take_length]
        have HKE := Lib.hid hke
        clear hke
        have HI2 := Lib.hid (c_impl_SplitFields ⟨(joinT ys).toArray⟩ m w3 (by omega) (cell4_below HM.out B3.out HM4.out))
        by_cases hle : (joinT ys).length ≤ 600
        · obtain ⟨j1, j2⟩ := HJ.out hle
          rw [j1, j2] at HI2
          have hle' : ¬ (600 : Int) < ((⟨(joinT ys).toArray⟩ : ByteArray).size : Int) := by omega
          clear j1 j2 hle HJ hSz hSl
          generalize (⟨(joinT ys).toArray⟩ : ByteArray) = S at HI2 hle' ⊢
          go_wp2_with (first
            | (go_at_call 17; (with_reducible refine HI2.out.mono ?_); rintro e w4 ⟨A4, c4, rfl, o4, b4⟩; have O4 : Hid (OwnS w4 w3.heap.size A4 ys.length c4 ys) := Lib.hid o4; have O2b := Lib.hid (O2a.out.below b4); have B4 := Lib.hid (belowNx B3.out b4); clear o4)
            | (go_at_call 24; (with_reducible refine (c_laws_sameTexts A2 A4 ys.length c2 c4 _ _ ys w4 O2b.out O4.out HY.out).mono ?_); rintro e w5 ⟨rfl, b5⟩; have B5 := Lib.hid (belowNx B4.out b5)))
          go_ret
          exact ⟨rfl, B5.out⟩
        · have hle' : (600 : Int) < ((⟨(joinT ys).toArray⟩ : ByteArray).size : Int) := by omega
          clear hle HJ hSz hSl
          generalize (⟨(joinT ys).toArray⟩ : ByteArray) = S at HI2 hle' ⊢
          generalize spOk S = ok4 at HI2
          generalize spF S = ys4 at HI2
          go_wp2_with (go_at_call 17; (with_reducible refine HI2.out.mono ?_); rintro e w4 ⟨A4, c4, rfl, o4, b4⟩; have B4 := Lib.hid (belowNx B3.out b4); clear o4)
          go_ret
          exact ⟨rfl, B4.out⟩

set_option maxRecDepth 100000 in
def laidL : List (String × DataW Unit) := [("math/bits.deBruijn32tab", Rows.laid_math_bits_deBruijn32tab), ("math/bits.deBruijn64tab", Rows.laid_math_bits_deBruijn64tab), ("internal/strconv.uint64pow10", Rows.laid_internal_strconv_uint64pow10), ("unicode/utf8.acceptRanges", Rows.laid_unicode_utf8_acceptRanges), ("unicode/utf8.first", Rows.laid_unicode_utf8_first)]


set_option maxRecDepth 100000 in
theorem lifted (os : Os) (started : os.Started) (H : Type) (enc : TypeId × Value → H) :
    ReturnsInHanded {} Tryd.checked os 8 .any (fun w args => (Rows.fnFieldsAgainSpec.pre enc Tryd.prog Tryd.f8 [] false w args ∧ laidMetH Tryd.prog laidL w) ∧ sizedMet enc Tryd.prog Tryd.f8 (OpenSpec.ofChange Rows.fnFieldsAgainSpec) false w args) (Rows.fnFieldsAgainSpec.post enc Tryd.prog Tryd.f8 false true false false) := by
  refine returnsInHanded_of_row (C := Tryd.checked) (s := OpenSpec.ofChange Rows.fnFieldsAgainSpec) (F := fun _ _ _ => 0) (laid := laidL) own started (by kernel_rfl) Tryd.func8
    (ChangeSpec.witness_shaped (enc := enc) (C := Tryd.checked) (os := os) (X := fun w _ => laidMetH Tryd.prog laidL w) false (World.laidAll Tryd.prog os laidL) #[.slice none 0 0] 8 (World.laidAll_os _ _ _) (World.shaped_of_ZipB (by kernel_rfl) (by kernel_rfl)) (by kernel_rfl) (by kernel_rfl) (by kernel_rfl) (by rw [MakeChecks.laidMetH_plain _ _ _ (by kernel_rfl)]; exact laidMet_laidAll _ (by kernel_rfl) (by kernel_rfl))) ?_
  intro W base args ds gs before hval0 hW hcnd hk hshp hL hSh _
  have hval : ∀ (j : Nat) t v, Tryd.f8.params[j]? = some t → args[j]? = some v → Value.okWide Tryd.prog W .any base t v := hval0
  have hW' := hW
  obtain ⟨p, q, hA0, hV, rfl, hfz, hnd⟩ := hW
  have hA : DataW.TrodAll enc Tryd.prog W 0 (fun _ => true) true Tryd.f8.params.toList args.toList ds p := hA0
  rw [Tryd.params8] at hA hval
  obtain ⟨v0, vs0, d0, ds0, p0, q0, hargs, rfl, rfl, h0, r0⟩ := trodAll_cons hA
  obtain ⟨rfl, rfl, rfl⟩ := trodAll_nil r0
  obtain rfl : args = #[v0] := by cases args; simp_all
  obtain ⟨rfl, rfl⟩ := trodVars_none hV
  obtain ⟨a0, len0, cap0, rfl⟩ := okWide_slice Tryd.underlying34 (hval 0 34 v0 rfl rfl)
  have k0 := h0
  have lt0 : ∀ x ∈ p0, x.block < W.heap.size := by obtain ⟨m, hm⟩ := k0; exact DataW.trod_lt m _ _ _ hm
  obtain ⟨z0, w0⟩ : ∃ zs, IsRow .u8 W a0 len0 cap0 zs := by
    obtain ⟨fuel, hf⟩ := h0
    rcases open_ints Tryd.underlying34 Tryd.underlying5 (by kernel_rfl) hf with ⟨hcs, _⟩ | ⟨x, l, c, zs, hcs, _, hl, hm, hz, _, hcell, hwz⟩
    · simp [Value.cells] at hcs
      obtain ⟨rfl, rfl, rfl⟩ := hcs
      exact ⟨[], .inl ⟨rfl, rfl, rfl, rfl⟩⟩
    · simp [Value.cells] at hcs
      obtain ⟨rfl, rfl, rfl⟩ := hcs
      exact ⟨zs, .inr ⟨_, rfl, hl, hm, by simpa using hz, hcell, hwz⟩⟩
  clear hA0 hval0
  simp only [List.append_nil] at hW'
  refine (walk (w := W) (of_laid hL hSh) a0 len0 cap0 z0 w0).mono fun e W' ⟨he, bel⟩ => ?_
  subst he
  exact ⟨_, rfl, _, _, _, [], _, [], hW', trodAll_mk1 (shut_bool Tryd.underlying4 _), (trodAll_cons_mk (Below.trod laidOut (by kernel_rfl) (of_decide_eq_true (by kernel_rfl)) k0 bel lt0) trodAll_mk0), rfl, bel.frame _, fun h => by cases h⟩

theorem over : Rows.fnFieldsAgainRow.holds Tryd.pinned (OpenSpec.ofChange Rows.fnFieldsAgainSpec) :=
  OpenClaim.holds_of_wide 8 Tryd.f8 rfl rfl rfl rfl rfl rfl rfl ⟨rfl, rfl, rfl, rfl, rfl⟩ rfl rfl rfl rfl rfl (by kernel_rfl) Tryd.func8 (by kernel_rfl)
    (of_decide_eq_true (by kernel_rfl)) (by unfold Func.isWrapper; first | (rw [if_pos (by decide +kernel)]; kernel_rfl) | (rw [if_neg (by decide +kernel)]; exact ⟨rfl, rfl⟩))
    (fun os started H enc _ => lifted os started H enc)

theorem card_holds : Rows.FnFieldsAgainCardSaid :=
  Claim7.holds_tied_plain_at .later [] [.data, .data, .data, .data, .pinned] true (true, "995a6f559626cb847be1a5641961149ffdd9d73d2bce9b9447a5d13da41960d1") true
    over (fun _ h => by cases h) (by kernel_rfl) (fun _ h => by cases h) fnFieldsAgain_row_tie rfl ⟨rfl, rfl⟩ (by kernel_rfl) rfl
    (fun f fn hf hfn => by
      obtain rfl : f = 8 := Option.some.inj ((show Tryd.prog.funcNamed Tryd.f8.name = some 8 by kernel_rfl).symm.trans hf) |>.symm
      obtain rfl : fn = Tryd.f8 := (Option.some.inj (Tryd.func8.symm.trans hfn)).symm
      exact ⟨by kernel_rfl, fun j t ht => by
        rw [Tryd.params8] at ht
        have hm : t ∈ [34] := by simpa using Array.mem_of_getElem? ht
        have hall : ([34].all fun u => !Tryd.prog.wantsStandIn u) = true := by kernel_rfl
        exact (show Tryd.prog.wantsStandIn t = false by simpa using List.all_eq_true.1 hall t hm)⟩)
    (by kernel_rfl)
end Go.Proofs.YtaacognadfodlaaDoor.lawFnFieldsAgain

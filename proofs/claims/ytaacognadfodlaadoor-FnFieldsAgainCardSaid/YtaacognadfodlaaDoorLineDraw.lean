/- The walk of the reference's draw of a line: whatever the bytes are, a short text; what was there is kept. -/
import Derived.Test.YtaacognadfodlaaDoorTextDraw
import Derived.Test.YtaacognadfodlaaDoorSplitLaws
namespace Go.Proofs.YtaacognadfodlaaDoor
open Go.RowKit Go.PlainAid

set_option maxHeartbeats 1000000 in
theorem c_spec_l01Pick (g b : Nat) (xs : List ByteArray) (w : World) (hc : CurAt w g) (hb : Box w b 9 (sv xs).toArray) (hne : b ≠ g) (h0 : 0 < xs.length) (h1 : xs.length ≤ 1000) :
    Calls Tryd.prog 40 #[.pointer (some ⟨g, 0, none⟩), .slice (some ⟨b, 0, none⟩) xs.length xs.length] w fun e w' => ∃ t, t ∈ xs ∧ e = .returned (.string t) ∧ CurAt w' g ∧ w.grownBy w' (some g) := by
  have HB := Lib.hid hb
  clear hb
  go_enter Tryd.func40, Tryd.ntmps40
  go_wp2_with fail
  refine (c_spec_l01Below _ _ _ hc (by omega) (by omega)).mono ?_
  rintro e w1 ⟨v, ⟨v0, v1⟩, rfl, hc1, hg1⟩
  obtain ⟨k, rfl⟩ := Int.eq_ofNat_of_zero_le v0
  have hk : k < xs.length := by omega
  have hcell := (((HB.out.grown hg1 hne).cell k).trans (by simpa using sv_get hk) : w1.cell? ⟨b, k, none⟩ = some (.string (xs.getD k ByteArray.empty)))
  have hmem : Hid (xs.getD k ByteArray.empty ∈ xs) := by
    show xs.getD k ByteArray.empty ∈ xs
    rw [List.getD_eq_getElem?_getD, List.getElem?_eq_getElem hk]
    exact List.getElem_mem hk
  have HC := Lib.hid hc1
  have HG := Lib.hid hg1
  generalize xs.getD k ByteArray.empty = y at hcell hmem
  clear hc hc1 hg1
  go_wp2_with fail
  go_ret
  exact ⟨y, hmem.out, rfl, HC.out, HG.out⟩
theorem cat_at (t x : ByteArray) (ht : t.size ≤ 8388608) (hx : x.size ≤ 8388608) : ∀ W : World, (Op.stringOp .add t x).run Tryd.prog W = .ok (.string (t ++ x)) W := fun W => run_string_add W t x (by omega) (by omega)
theorem rep_size (m : Nat) (b : UInt8) : (⟨(List.replicate m b).toArray⟩ : ByteArray).size = m := by
  show (List.replicate m b).toArray.size = m
  simp
theorem prod3 {a d : Int} (a0 : 0 ≤ a) (a1 : a < 2) (d0 : 0 ≤ d) (d1 : d < 3) : ∃ M : Nat, 1 + a * d = (M : Int) ∧ M ≤ 3 := by
  obtain rfl | rfl : a = 0 ∨ a = 1 := by omega
  · exact ⟨1, by omega, by omega⟩
  · exact ⟨(1 + d).toNat, by omega, by omega⟩
/-- what is carried along: a text not longer than m, the cursor, what was there -/
def Carry (w : World) (m : Nat) (t : ByteArray) (wr : World) : Prop := t.size ≤ m ∧ CurAt wr w.heap.size ∧ Below w.heap.size w wr

set_option maxRecDepth 20000 in
set_option maxHeartbeats 16000000 in
theorem c_spec_DrawSplitFields (A : Option Addr) (n c B : Nat) (w : World) (hs : SliceU w B A n) (hB : B ≤ w.heap.size) (hn : n ≤ 2097152) :
    Calls Tryd.prog 23 #[.slice A n c] w fun e w' => ∃ s : ByteArray, s.size ≤ 700 ∧ e = .returned (.string s) ∧ Below w.heap.size w w' := by
  go_enter Tryd.func23, Tryd.ntmps23
  go_wp2_with fail
  refine (c_spec_l01New _ _ _ _ _ hs hB hn).mono ?_
  rintro e w1 ⟨rfl, hc, hb⟩
  clear hs
  go_wp2_with fail
  refine (c_spec_l01Below _ _ _ hc (by omega) (by omega)).mono ?_
  rintro e w2 ⟨y, ⟨y0, y1⟩, rfl, hc2, hg2⟩
  replace hb := below_cur hb hg2
  clear hc hg2
  go_wp2_with fail
  refine (c_spec_l01Once _ _ _ hc2 (by omega) (by omega)).mono ?_
  rintro e w3 ⟨once, rfl, hc3, hg3⟩
  replace hb := below_cur hb hg3
  clear hc2 hg3
  cases once
  case' false =>
    obtain ⟨N, rfl⟩ : ∃ N : Nat, y = (N : Int) := ⟨y.toNat, by omega⟩
    have hN : N ≤ 25 := by omega
    have HC := Lib.hid hc3
    have HB := Lib.hid hb
    clear hc3 hb y0 y1
    obtain ⟨wq, rfl⟩ : ∃ W, W = w3 := ⟨_, rfl⟩
    go_wp2_with fail
  case' true =>
    go_wp2_with fail
    refine (c_spec_l01Below _ _ _ hc3 (by omega) (by omega)).mono ?_
    rintro e wq ⟨z, ⟨z0, z1⟩, rfl, hc4, hg4⟩
    obtain ⟨N, hNz⟩ : ∃ N : Nat, 24 + z = (N : Int) := ⟨(24 + z).toNat, by omega⟩
    have hw : IntKind.i64.wrap (24 + z) = (N : Int) := by rw [IntWalk.i64_in _ (by omega)]; exact hNz
    have hN : N ≤ 25 := by omega
    have HC := Lib.hid hc4
    have HB := Lib.hid (below_cur hb hg4)
    clear hc3 hb hc4 hg4 y0 y1
    go_wp2_with fail
    clear hw hNz z0 z1
  all_goals
    go_loopw [5, 6, 7] (fun s i _ wr => ∃ (k : Nat) (t : ByteArray), k ≤ N ∧ i = .int .i64 (k : Int) ∧ s = .string t ∧ Hid (Carry w (8 * k) t wr)) (fun _ i _ _ => N - (RowKit.intOf i).toNat)
    case atStart => exact ⟨0, ⟨#[]⟩, by omega, rfl, rfl, Lib.hid ⟨by simp [ByteArray.size], HC.out, HB.out⟩⟩
    case round =>
      obtain ⟨k, t, hk, rfl, rfl, HK⟩ := hrel
      have hkw : IntKind.i64.wrap ((k : Int) + 1) = (k : Int) + 1 := IntWalk.i64_in _ (by omega)
      by_cases hlt : k < N
      · have hlt' : (k : Int) < (N : Int) := by omega
        have hts : t.size ≤ 200 := by have := HK.out.1; omega
        by_cases hk0 : k = 0
        case' pos =>
          have hpos : ¬ (0 : Int) < (k : Int) := by omega
          go_wp2_with fail
          refine (c_spec_l01Once _ _ _ HK.out.2.1 (by omega) (by omega)).mono ?_
          rintro e wa ⟨once2, rfl, hca, hga⟩
          have hba := below_cur HK.out.2.2 hga
          clear hga
          cases once2
          case' false =>
            have HT : Hid (Carry w (8 * k + 3) t wa) := Lib.hid ⟨by have := HK.out.1; omega, hca, hba⟩
            clear hca hba
            obtain ⟨wi, rfl⟩ : ∃ W, W = wa := ⟨_, rfl⟩
            go_wp2_with fail
            obtain ⟨tt, htt⟩ : ∃ T, T = t := ⟨_, rfl⟩
            rw [← htt] at HT ⊢
            clear htt
          case' true =>
            go_wp2_with fail
            refine (c_spec_l01Below _ _ _ hca (by omega) (by omega)).mono ?_
            rintro e wb ⟨a, ⟨a0, a1⟩, rfl, hcb, hgb⟩
            have hbb := below_cur hba hgb
            clear hgb
            go_wp2_with fail
            refine (c_spec_l01Below _ _ _ hcb (by omega) (by omega)).mono ?_
            rintro e wc ⟨d, ⟨d0, d1⟩, rfl, hcc, hgc⟩
            replace hbb := below_cur hbb hgc
            clear hcb hgc
            obtain ⟨M, hM, hM3⟩ := prod3 a0 a1 d0 d1
            have hwp : IntKind.i64.wrap (a * d) = a * d := IntWalk.i64_in _ (by omega)
            have hwm : IntKind.i64.wrap (1 + a * d) = (M : Int) := by rw [hM]; exact IntWalk.i64_in _ (by omega)
            have HL : Hid (∀ w', Calls Tryd.prog 39 #[.int .i64 (M : Int), .int .u8 32] w' fun e w'' => e = .returned (.string ⟨(List.replicate M 32).toArray⟩) ∧ Below w'.heap.size w' w'') := Lib.hid fun w' => c_spec_l01Long M 32 w' (by omega)
            have hxs := Lib.hid (rep_size M 32)
            have HCC := Lib.hid hcc
            have HBB := Lib.hid hbb
            have hcat := cat_at t ⟨(List.replicate M 32).toArray⟩ (by omega) (by rw [rep_size]; omega)
            generalize (⟨(List.replicate M 32).toArray⟩ : ByteArray) = x at HL hxs hcat
            clear hcc hbb
            go_wp2_with fail
            refine (HL.out _).mono ?_
            rintro e wi ⟨rfl, hbi⟩
            have HT : Hid (Carry w (8 * k + 3) (t ++ x) wi) := Lib.hid ⟨by rw [ByteArray.size_append]; have := HK.out.1; have := hxs.out; omega, HCC.out.far (grownOfBelow hbi none) (fun k hk => by cases hk), belowNx HBB.out hbi⟩
            clear hbi HCC HBB hM hwm
            go_wp2_with fail
            generalize t ++ x = tt at HT hcat ⊢
            clear hcat HL hxs hwp
        case' neg =>
          have hpos : (0 : Int) < (k : Int) := by omega
          go_wp2_with fail
          refine (c_spec_l01Below _ _ _ HK.out.2.1 (by omega) (by omega)).mono ?_
          rintro e wb ⟨a, ⟨a0, a1⟩, rfl, hcb, hgb⟩
          have hbb := below_cur HK.out.2.2 hgb
          clear hgb
          go_wp2_with fail
          refine (c_spec_l01Below _ _ _ hcb (by omega) (by omega)).mono ?_
          rintro e wc ⟨d, ⟨d0, d1⟩, rfl, hcc, hgc⟩
          replace hbb := below_cur hbb hgc
          clear hcb hgc
          obtain ⟨M, hM, hM3⟩ := prod3 a0 a1 d0 d1
          have hwp : IntKind.i64.wrap (a * d) = a * d := IntWalk.i64_in _ (by omega)
          have hwm : IntKind.i64.wrap (1 + a * d) = (M : Int) := by rw [hM]; exact IntWalk.i64_in _ (by omega)
          have HL : Hid (∀ w', Calls Tryd.prog 39 #[.int .i64 (M : Int), .int .u8 32] w' fun e w'' => e = .returned (.string ⟨(List.replicate M 32).toArray⟩) ∧ Below w'.heap.size w' w'') := Lib.hid fun w' => c_spec_l01Long M 32 w' (by omega)
          have hxs := Lib.hid (rep_size M 32)
          have HCC := Lib.hid hcc
          have HBB := Lib.hid hbb
          have hcat := cat_at t ⟨(List.replicate M 32).toArray⟩ (by omega) (by rw [rep_size]; omega)
          generalize (⟨(List.replicate M 32).toArray⟩ : ByteArray) = x at HL hxs hcat
          clear hcc hbb
          go_wp2_with fail
          refine (HL.out _).mono ?_
          rintro e wi ⟨rfl, hbi⟩
          have HT : Hid (Carry w (8 * k + 3) (t ++ x) wi) := Lib.hid ⟨by rw [ByteArray.size_append]; have := HK.out.1; have := hxs.out; omega, HCC.out.far (grownOfBelow hbi none) (fun k hk => by cases hk), belowNx HBB.out hbi⟩
          clear hbi HCC HBB hM hwm
          go_wp2_with fail
          generalize t ++ x = tt at HT hcat ⊢
          clear hcat HL hxs hwp
        all_goals
          go_loopw [5, 7] (fun s j wr2 => ∃ (q : Nat) (r : ByteArray), q ≤ 5 ∧ j = .int .i64 (q : Int) ∧ s = .string r ∧ Hid (Carry w (8 * k + 3 + q) r wr2)) (fun _ j _ => 6 - (RowKit.intOf j).toNat)
          case atStart => exact ⟨0, tt, by omega, rfl, rfl, HT⟩
          case round =>
            obtain ⟨q, r, hq, rfl, rfl, HR⟩ := hrel
            have hqw : IntKind.i64.wrap ((q : Int) + 1) = (q : Int) + 1 := IntWalk.i64_in _ (by omega)
            have hrs : r.size ≤ 300 := by have := HR.out.1; omega
            go_wp2_with fail
            refine (c_spec_l01Below _ _ _ HR.out.2.1 (by omega) (by omega)).mono ?_
            rintro e we ⟨b5, ⟨b50, b51⟩, rfl, hce, hge⟩
            have hbe := below_cur HR.out.2.2 hge
            clear hge
            by_cases hle : (q : Int) ≤ b5
            · go_wp2_with fail
              refine (c_spec_l01Below _ _ _ hce (by omega) (by omega)).mono ?_
              rintro e wf ⟨v, ⟨v0, v1⟩, rfl, hcf, hgf⟩
              have HBF := Lib.hid (below_cur hbe hgf)
              have HCF := Lib.hid hcf
              clear hgf hcf hbe hce
              obtain ⟨u, hu⟩ := byte_of (y := 33 + v) (by omega) (by omega)
              have hvw : IntKind.i64.wrap (33 + v) = 33 + v := IntWalk.i64_in _ (by omega)
              have e8 : IntKind.u8.wrap (33 + v) = (u.toNat : Int) := by rw [hu]; exact IntWalk.u8_in _ (by omega)
              have hcv := conv_one wf u
              have hcat := cat_at r ⟨#[u]⟩ (by omega) (by show (1 : Nat) ≤ _; omega)
              clear hu
              go_wp2_with fail
              go_roundw
              case rel => exact ⟨q + 1, r ++ ⟨#[u]⟩, by omega, by go_num, rfl, Lib.hid ⟨by rw [ByteArray.size_append]; have h1 := HR.out.1; have h2 : (⟨#[u]⟩ : ByteArray).size = 1 := rfl; omega, HCF.out.alloc _, HBF.out.alloc HBF.out.size _⟩⟩
              case measure => simp [RowKit.intOf]; omega
            · have HBE := Lib.hid hbe
              have HCE := Lib.hid hce
              clear hbe hce
              go_wp2_with fail
              go_roundw
              case rel => exact ⟨k + 1, r, by omega, by first | go_num | simp [hk0], rfl, Lib.hid ⟨by have h1 := HR.out.1; omega, HCE.out, HBE.out⟩⟩
              case measure => simp [RowKit.intOf]; omega
      · have hlt' : ¬ (k : Int) < (N : Int) := by omega
        have hts : t.size ≤ 200 := by have := HK.out.1; omega
        go_wp2_with fail
        refine (c_spec_l01Below _ _ _ HK.out.2.1 (by omega) (by omega)).mono ?_
        rintro e wp ⟨y2, ⟨y20, y21⟩, rfl, hcp, hgp⟩
        have hbp := below_cur HK.out.2.2 hgp
        clear hgp
        by_cases e0 : y2 = 0
        · subst e0
          go_wp2_with fail
          refine (c_spec_l01Pick w.heap.size wp.heap.size [⟨#[32]⟩, ⟨#[32, 32]⟩, ⟨#[9]⟩, ⟨#[10]⟩, ⟨#[127]⟩, ⟨#[233]⟩] _ (hcp.alloc _) (Box.new wp _ _) (by have := hcp.lt; omega) (by simp) (by simp)).mono ?_
          rintro e wr2 ⟨x, hx, rfl, hcr, hgr⟩
          have hx2 : x.size ≤ 2 := by
            simp only [List.mem_cons, List.not_mem_nil, or_false] at hx
            rcases hx with rfl | rfl | rfl | rfl | rfl | rfl <;> decide
          have HBR := Lib.hid (below_cur (hbp.alloc hbp.size _) hgr)
          have hcat := cat_at t x (by omega) (by omega)
          have HX := Lib.hid hx2
          clear hx hcr hgr hbp hcp hx2
          go_wp2_with fail
          go_ret
          exact ⟨t ++ x, by rw [ByteArray.size_append]; have := HX.out; omega, rfl, HBR.out⟩
        · have n0 : (y2 == 0) = false := by simpa using e0
          by_cases e1 : y2 = 1
          · subst e1
            have h600 : (t.size : Int) < 600 := by omega
            have hsw : IntKind.i64.wrap (600 - (t.size : Int)) = 600 - (t.size : Int) := IntWalk.i64_in _ (by omega)
            go_wp2_with fail
            refine (c_spec_l01Below _ _ _ hcp (by omega) (by omega)).mono ?_
            rintro e wt ⟨b2, ⟨b20, b21⟩, rfl, hct, hgt⟩
            obtain ⟨M, hM⟩ : ∃ M : Nat, 600 - (t.size : Int) + b2 = (M : Int) := ⟨(600 - (t.size : Int) + b2).toNat, by omega⟩
            have hwm : IntKind.i64.wrap (600 - (t.size : Int) + b2) = (M : Int) := by rw [hM]; exact IntWalk.i64_in _ (by omega)
            have hM7 : M + t.size ≤ 601 := by omega
            have HBT := Lib.hid (below_cur hbp hgt)
            have HL : Hid (∀ w', Calls Tryd.prog 39 #[.int .i64 (M : Int), .int .u8 32] w' fun e w'' => e = .returned (.string ⟨(List.replicate M 32).toArray⟩) ∧ Below w'.heap.size w' w'') := Lib.hid fun w' => c_spec_l01Long M 32 w' (by omega)
            have hxs := Lib.hid (rep_size M 32)
            have hcat := cat_at t ⟨(List.replicate M 32).toArray⟩ (by omega) (by rw [rep_size]; omega)
            generalize (⟨(List.replicate M 32).toArray⟩ : ByteArray) = x at HL hxs hcat
            clear hct hgt hbp hcp
            go_wp2_with fail
            refine (HL.out _).mono ?_
            rintro e wu ⟨rfl, hbu⟩
            have HBU := Lib.hid (belowNx HBT.out hbu)
            clear hbu
            go_wp2_with fail
            go_ret
            exact ⟨t ++ x, by rw [ByteArray.size_append, hxs.out]; omega, rfl, HBU.out⟩
          · have n1 : (y2 == 1) = false := by simpa using e1
            have HBP := Lib.hid hbp
            clear hbp hcp
            go_wp2_with fail
            go_ret
            exact ⟨t, by omega, rfl, HBP.out⟩
end Go.Proofs.YtaacognadfodlaaDoor

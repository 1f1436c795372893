/- The walk of the program's cutting of a line into its fields: strings.Split at spaces, the empty pieces left out. -/
import Derived.Test.YtaacognadfodlaaDoorShelfSplit
import Derived.Test.YtaacognadfodlaaDoorSplitRef
namespace Go.Proofs.YtaacognadfodlaaDoor
open Go.RowKit Go.PlainAid

theorem filt_step {P : List ByteArray} {k : Nat} {p : ByteArray} (h : P[k]? = some p) : (P.take (k + 1)).filter (fun p => p.size != 0) = (P.take k).filter (fun p => p.size != 0) ++ if p.size = 0 then [] else [p] := by
  rw [List.take_add_one, h, List.filter_append]
  by_cases e : p.size = 0 <;> simp [e]
theorem filt_len (P : List ByteArray) (k : Nat) : ((P.take k).filter (fun p => p.size != 0)).length ≤ k := by
  refine Nat.le_trans (List.length_filter_le _ _) ?_
  rw [List.length_take]; omega
theorem toL_empty {p : ByteArray} (h : p.size = 0) : p = ByteArray.empty := by
  apply WideShapes.bytes_inj
  exact List.eq_nil_of_length_eq_zero (by rw [bytes_size]; exact h)
theorem toL_full {p : ByteArray} (h : p.size ≠ 0) : (p.toList == []) = false := by
  rw [ByteArray.toList_eq]
  apply beq_eq_false_iff_ne.2
  intro e
  exact h (by rw [← bytes_size, e]; rfl)
theorem block_cell {w : World} {B k : Nat} {P : List ByteArray} {p : ByteArray} {t : TypeId} (hb : w.heap[B]? = some (.cells (P.map Value.string).toArray t (0, 0))) (h : P[k]? = some p) : w.cell? ⟨B, k, none⟩ = some (.string p) := by
  rw [cell_of_row w B k _ _ _ hb]
  simp [h]
theorem cell4_lt {w : World} {m : Int} (h : w.cell? ⟨4, 0, none⟩ = some (.int .i64 m)) : 4 < w.heap.size := World.block_lt_of_cell? w ⟨4, 0, none⟩ h
theorem cell4_below {B : Nat} {w w' : World} {m : Int} (h : w.cell? ⟨4, 0, none⟩ = some (.int .i64 m)) (hb : Below B w w') (hB : 4 < B) : w'.cell? ⟨4, 0, none⟩ = some (.int .i64 m) := by
  rw [hb.cell (by exact hB)]; exact h

set_option maxRecDepth 20000 in
set_option maxHeartbeats 16000000 in
theorem c_impl_SplitFields (s : ByteArray) (m : Int) (w : World) (hs : s.size ≤ 1048576) (hm : w.cell? ⟨4, 0, none⟩ = some (.int .i64 m)) :
    Calls Tryd.prog 17 #[.string s] w (GivesS w (spF s) (spOk s)) := by
  have HM := Lib.hid hm
  have HM4 := Lib.hid (cell4_lt hm)
  clear hm
  by_cases hA : 600 < s.size
  · have e1 := sp_long hA
    rw [sp_no e1, e1]
    have hA' : (600 : Int) < (s.size : Int) := by omega
    go_enter Tryd.func17, Tryd.ntmps17
    go_wp2_with fail
    go_ret2
    exact ⟨none, 0, rfl, World.ownsRow_nil _ _ _ _, Below.refl _ _⟩
  have hA' : ¬ (600 : Int) < (s.size : Int) := by omega
  obtain ⟨i0, hi, hz0, hz1, hz2⟩ := info_parts strInfo
  have HZ := Lib.hid (And.intro hz1 hz2)
  clear hz1 hz2
  go_enter Tryd.func17, Tryd.ntmps17
  go_wp2_with fail
  go_loop [4] (fun i => ∃ k : Nat, i = .int .i64 (k : Int) ∧ k ≤ s.size ∧ Hid (∀ j, j < k → ∀ c : UInt8, s.data.toList[j]? = some c → ¬ (c.toNat < 32 ∨ 126 < c.toNat))) (fun i => s.size - (RowKit.intOf i).toNat)
  case atStart => exact ⟨0, rfl, by omega, Lib.hid (fun j hj => absurd hj (by omega))⟩
  case round =>
    obtain ⟨k, rfl, hks, HG⟩ := hrel
    have hk0 : (0 : Int) ≤ (k : Int) := by omega
    have hkw : IntKind.i64.wrap ((k : Int) + 1) = (k : Int) + 1 := IntWalk.i64_in _ (by omega)
    by_cases hlt : k < s.size
    · have hlt' : (k : Int) < (s.size : Int) := by omega
      obtain ⟨q, hq, hbq⟩ := bt_at hlt
      have hg := get_bt s
      have b0 := bt_nonneg s k
      have b1 := bt_le s k
      generalize hbk : bt s k = b at b0 b1 hbq
      have HQ := Lib.hid hq
      have HBQ := Lib.hid hbq
      clear hq hbq
      by_cases h32 : b < 32
      · have e1 := sp_bad HQ.out (.inl (by have := HBQ.out; omega))
        have E1 := Lib.hid e1
        have E2 := Lib.hid (sp_no e1)
        clear e1
        go_wp2_with fail
        go_ret2
        rw [E1.out, E2.out]
        exact ⟨none, 0, rfl, World.ownsRow_nil _ _ _ _, Below.refl _ _⟩
      by_cases h126 : 126 < b
      · have e1 := sp_bad HQ.out (.inr (by have := HBQ.out; omega))
        have E1 := Lib.hid e1
        have E2 := Lib.hid (sp_no e1)
        clear e1
        go_wp2_with fail
        go_ret2
        rw [E1.out, E2.out]
        exact ⟨none, 0, rfl, World.ownsRow_nil _ _ _ _, Below.refl _ _⟩
      have HG2 : Hid (∀ j, j < k + 1 → ∀ c : UInt8, s.data.toList[j]? = some c → ¬ (c.toNat < 32 ∨ 126 < c.toNat)) := Lib.hid (fun j hj c hc => by
        by_cases e : j = k
        · subst e
          have h1 := HQ.out
          rw [hc] at h1
          injection h1 with h1
          subst h1
          have := HBQ.out
          omega
        · exact HG.out j (by omega) c hc)
      go_wp2_with fail
      go_round
      case rel => exact ⟨k + 1, by go_num, by omega, HG2⟩
      case measure => simp [RowKit.intOf] <;> omega
    · have hlt' : ¬ (k : Int) < (s.size : Int) := by omega
      have HALL : Hid (∀ (j : Nat) (c : UInt8), s.data.toList[j]? = some c → ¬ (c.toNat < 32 ∨ 126 < c.toNat)) := Lib.hid (fun j c hc => HG.out j (by
        have := (List.getElem?_eq_some_iff.1 hc).1
        rw [bytes_size] at this
        omega) c hc)
      have hcb : Lib.countB s sp + 1 ≤ 601 := by
        have := Lib.countB_le sp (by decide) _ s (Nat.le_refl _)
        omega
      have hpl : (Lib.splitB sp 0 (Lib.countB s sp) s).length = Lib.countB s sp + 1 := Lib.splitB_all sp (by decide) 0 _ s rfl
      have hfb : fieldsB s = (Lib.splitB sp 0 (Lib.countB s sp) s).filter (fun p => p.size != 0) := rfl
      have HS := Lib.hid (Tryd.strings_Split s sp m (w.alloc (.cells #[] 9)) (by omega) (cell4_below HM.out ((Below.refl w.heap.size w).alloc (Nat.le_refl _) _) HM4.out) (by decide))
      generalize hN : Lib.countB s sp + 1 = N at hcb hpl HS
      generalize hP : Lib.splitB sp 0 (Lib.countB s sp) s = P at hpl hfb HS
      have HPL := Lib.hid hpl
      have HFB := Lib.hid hfb
      clear hpl hfb hN hP
      go_wp2_with (go_at_call 33; (with_reducible refine HS.out.mono ?_); rintro e w1 ⟨rfl, rfl⟩)
      go_loopw [5, 7, 31] (fun o _ i wr => ∃ (k h c n : Nat) (ys : List ByteArray), n = ys.length ∧ o = .slice (some ⟨h, 0, none⟩) n c ∧ i = .int .i64 (k : Int) ∧ k ≤ N ∧ wr.ownsRow w.heap.size 9 1 (.slice (some ⟨h, 0, none⟩) n c) n (sv ys) ∧ Hid (ys = (P.take k).filter (fun p => p.size != 0)) ∧ Hid (h ≠ w.heap.size + 1) ∧ Hid (wr.heap[w.heap.size + 1]? = some (.cells (P.map Value.string).toArray 9 (0, 0))) ∧ Below w.heap.size w wr) (fun _ _ i _ => N - (RowKit.intOf i).toNat)
      case atStart => exact ⟨0, w.heap.size, 0, 0, [], rfl, rfl, rfl, by omega, (World.ownsRow_lit w #[] 0 (Nat.le_refl _) (by simp [maxLen]) rfl).alloc _, Lib.hid rfl, Lib.hid (by omega), Lib.hid (by have := heap_alloc_new (w.alloc (.cells #[] 9)) (.cells (P.map Value.string).toArray 9); simpa using this), ((Below.refl _ _).alloc (Nat.le_refl _) _).alloc (by simp) _⟩
      case round =>
        obtain ⟨k, h, c, n, ys, hny, rfl, rfl, hkN, hown, HYS, HNE, HB, hbr⟩ := hrel
        have hnk : n ≤ k := by rw [hny, HYS.out]; exact filt_len P k
        have HOWN := Lib.hid hown
        have HNY := Lib.hid hny
        clear hown hny
        have hk0 : (0 : Int) ≤ (k : Int) := by omega
        have hkw : IntKind.i64.wrap ((k : Int) + 1) = (k : Int) + 1 := IntWalk.i64_in _ (by omega)
        have hBlt : w.heap.size + 1 < wr.heap.size := (Array.getElem?_eq_some_iff.1 HB.out).1
        by_cases hlN : k < N
        · have hlN' : (k : Int) < (N : Int) := by omega
          obtain ⟨p, hp⟩ : ∃ p, P[k]? = some p := ⟨_, List.getElem?_eq_getElem (by rw [HPL.out]; exact hlN)⟩
          have hcell := block_cell HB.out hp
          have HS2 := Lib.hid (filt_step hp)
          have HP := Lib.hid hp
          clear hp
          by_cases hp0 : p.size = 0
          · obtain rfl := toL_empty hp0
            have HS3 : Hid (ys = (P.take (k + 1)).filter (fun p => p.size != 0)) := Lib.hid (by rw [HS2.out, HYS.out, if_pos hp0, List.append_nil])
            clear hp0
            go_wp2_with fail
            go_roundw
            case rel => exact ⟨k + 1, h, c, n, ys, HNY.out, rfl, by go_num, by omega, HOWN.out, HS3, HNE, HB, hbr⟩
            case measure => simp [RowKit.intOf] <;> omega
          · have HS3 : Hid (ys ++ [p] = (P.take (k + 1)).filter (fun p => p.size != 0)) := Lib.hid (by rw [HS2.out, HYS.out, if_neg hp0])
            have hst0 := toL_full hp0
            have HP0 := Lib.hid hp0
            clear hp0
            go_wp2_with (refine wpList_append_lies _ rfl (.tmp 37) (.tmp 39) 29 rfl w.heap.size 9 i0 (.string ByteArray.empty) 1 16 Tryd.underlying29 hi hz0 HZ.out.1 HZ.out.2 rfl (by decide) _ n _ rfl (HOWN.out.alloc _) ⟨_, 0, none⟩ 1 1 [.string p] rfl rfl (cells_one_new _ _ _) (by simp [Value.oneCell']) (by omega) (by unfold maxLen; omega) (by omega) (by have := hbr.size; simp; omega) _ rfl ?_; intro g2 cap2 w5 hown5 hgrow5 hg2 _)
            have hb5 : Below w.heap.size w w5 := Below.grown (hbr.alloc hbr.size _) hgrow5 (by have := hbr.size; simp; omega) (fun j hj => (HOWN.out.lt j hj).1)
            have hst : sv ys ++ [.string p] = sv (ys ++ [p]) := by simp [sv]
            rw [hst] at hown5
            replace hgrow5 : (wr.alloc (.cells #[.string p] 9)).grownBy w5 (some h) := hgrow5
            replace hg2 : some h = some g2 ∨ g2 = wr.heap.size + 1 := by
              rcases hg2 with e | e
              · exact .inl e
              · exact .inr (by simpa using e)
            have HNE5 : Hid (g2 ≠ w.heap.size + 1) := Lib.hid (by
              rcases hg2 with e | e
              · injection e with e; have := HNE.out; omega
              · omega)
            have HB5 : Hid (w5.heap[w.heap.size + 1]? = some (.cells (P.map Value.string).toArray 9 (0, 0))) := Lib.hid (by
              rw [hgrow5.block (w.heap.size + 1) (by simp; omega) (by have := HNE.out; intro e; injection e with e; omega), heap_alloc_old wr _ hBlt]
              exact HB.out)
            clear hg2
            go_wp2_with fail
            go_roundw
            case rel => exact ⟨k + 1, g2, cap2, n + 1, _, by rw [HNY.out]; simp, rfl, by go_num, by omega, hown5, HS3, HNE5, HB5, hb5⟩
            case measure => simp [RowKit.intOf] <;> omega
        · have hkN' : k = N := by omega
          have e1 : ys = fieldsB s := by
            rw [HYS.out, HFB.out, hkN', ← HPL.out, List.take_length]
          have E1 := Lib.hid e1
          clear e1
          have hlN' : ¬ (k : Int) < (N : Int) := by omega
          by_cases h24 : 24 < n
          · have h24' : (24 : Int) < (n : Int) := by omega
            have e3 := sp_many (s := s) (by rw [← E1.out, ← HNY.out]; exact h24)
            have E3 := Lib.hid e3
            have E4 := Lib.hid (sp_no e3)
            clear e3
            go_wp2_with fail
            go_ret2
            rw [E3.out, E4.out]
            exact ⟨none, 0, rfl, World.ownsRow_nil _ _ _ _, hbr⟩
          · have h24' : ¬ (24 : Int) < (n : Int) := by omega
            have e3 := sp_good (s := s) (by omega) HALL.out (by rw [← E1.out, ← HNY.out]; omega)
            have E3 := Lib.hid e3
            have E4 := Lib.hid ((sp_yes e3).trans E1.out.symm)
            clear e3
            go_wp2_with fail
            go_ret2
            rw [E3.out, E4.out]
            have hO := HOWN.out
            rw [HNY.out] at hO ⊢
            exact ⟨_, _, rfl, hO, hbr⟩
end Go.Proofs.YtaacognadfodlaaDoor

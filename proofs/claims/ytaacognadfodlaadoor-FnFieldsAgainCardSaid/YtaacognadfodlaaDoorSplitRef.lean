/- The walk of the reference's cutting of a line into its fields. -/
import Derived.Test.YtaacognadfodlaaDoorSplitPlain
import Derived.Test.YtaacognadfodlaaDoorHexDec
namespace Go.Proofs.YtaacognadfodlaaDoor
open Go.RowKit Go.PlainAid

theorem strInfo : (Tryd.prog.info? 9).map (fun i => (i.zero, i.size, i.bytes)) = some (some (.string ByteArray.empty), 1, 16) := by kernel_rfl
def sv (l : List ByteArray) : List Value := l.map Value.string
theorem sv_len (l : List ByteArray) : (sv l).length = l.length := by simp [sv]
def spOk (s : ByteArray) : Bool := decide (s.size ≤ 600) && !badAt s && decide ((fieldsB s).length ≤ 24)
def spF (s : ByteArray) : List ByteArray := if spOk s then fieldsB s else []
theorem sp_no {s : ByteArray} (h : spOk s = false) : spF s = [] := by simp [spF, h]
theorem sp_yes {s : ByteArray} (h : spOk s = true) : spF s = fieldsB s := by simp [spF, h]
theorem sp_long {s : ByteArray} (h : 600 < s.size) : spOk s = false := by
  simp only [spOk, Bool.and_eq_false_iff, decide_eq_false_iff_not]; left; left; omega
theorem sp_bad {s : ByteArray} {k : Nat} {c : UInt8} (h : s.data.toList[k]? = some c) (hc : c.toNat < 32 ∨ 126 < c.toNat) : spOk s = false := by
  have : badAt s = true := by
    unfold badAt
    rw [List.any_eq_true]
    exact ⟨c, List.mem_of_getElem? h, by simpa using hc⟩
  simp [spOk, this]
theorem sp_many {s : ByteArray} (h : 24 < (fieldsB s).length) : spOk s = false := by
  simp only [spOk, Bool.and_eq_false_iff, decide_eq_false_iff_not]; right; omega
theorem sp_good {s : ByteArray} (h1 : s.size ≤ 600) (h2 : ∀ (k : Nat) (c : UInt8), s.data.toList[k]? = some c → ¬ (c.toNat < 32 ∨ 126 < c.toNat)) (h3 : (fieldsB s).length ≤ 24) : spOk s = true := by
  have : badAt s = false := by
    unfold badAt
    rw [List.any_eq_false]
    intro c hc
    obtain ⟨k, hk⟩ := List.getElem?_of_mem hc
    simpa using h2 k c hk
  simp [spOk, this, h1, h3]
/-- What both SplitFields give back. -/
def GivesS (w : World) (ys : List ByteArray) (ok : Bool) (e : Ending) (w' : World) : Prop := ∃ A c, e = .returned (.tuple #[.slice A ys.length c, .bool ok]) ∧ w'.ownsRow w.heap.size 9 1 (.slice A ys.length c) ys.length (sv ys) ∧ Below w.heap.size w w'
theorem GivesS.no (w w' : World) (h : Below w.heap.size w w') : GivesS w [] false (.returned (.tuple #[.slice (some ⟨w'.heap.size, 0, none⟩) 0 0, .bool false])) (w'.alloc (.cells #[] 9)) :=
  ⟨_, _, rfl, World.ownsRow_lit w' #[] 0 h.size (by simp [maxLen]) rfl, h.alloc h.size _⟩
/-- Where the reference's loop stands. -/
def Inv (s : ByteArray) (k bg : Nat) (ys : List ByteArray) : Prop :=
  (∀ j, j < k → ∀ c : UInt8, s.data.toList[j]? = some c → ¬ (c.toNat < 32 ∨ 126 < c.toNat)) ∧ ys.length ≤ k ∧
  ((k ≤ s.size ∧ bg ≤ k ∧ (∀ j, bg ≤ j → j < k → s.data.toList[j]? ≠ some 32) ∧ ys ++ fieldsB (s.extract bg s.size) = fieldsB s) ∨ (k = s.size + 1 ∧ ys = fieldsB s))
theorem inv_start (s : ByteArray) : Inv s 0 0 [] := ⟨fun j hj => absurd hj (by omega), by simp, .inl ⟨by omega, by omega, fun j _ hj => absurd hj (by omega), by rw [whole]; rfl⟩⟩
theorem inv_skip {s : ByteArray} {k bg : Nat} {ys : List ByteArray} {c : UInt8} (h : Inv s k bg ys) (hk : k < s.size) (hc : s.data.toList[k]? = some c) (hb : ¬ (c.toNat < 32 ∨ 126 < c.toNat)) (h32 : c.toNat ≠ 32) : Inv s (k + 1) bg ys := by
  obtain ⟨h1, h2, h3⟩ := h
  refine ⟨fun j hj d hd => ?_, by omega, ?_⟩
  · by_cases e : j = k
    · subst e; rw [hc] at hd; injection hd with hd; subst hd; exact hb
    · exact h1 j (by omega) d hd
  · rcases h3 with ⟨a, b, cc, d⟩ | ⟨a, _⟩
    · refine .inl ⟨by omega, by omega, fun j hj1 hj2 => ?_, d⟩
      by_cases e : j = k
      · subst e; rw [hc]; intro e; injection e with e; subst e; exact h32 rfl
      · exact cc j hj1 (by omega)
    · omega
theorem inv_space {s : ByteArray} {k bg : Nat} {ys : List ByteArray} (h : Inv s k bg ys) (hk : k < s.size) (hc : s.data.toList[k]? = some 32) : Inv s (k + 1) (k + 1) (ys ++ if bg < k then [s.extract bg k] else []) := by
  obtain ⟨h1, h2, h3⟩ := h
  refine ⟨fun j hj d hd => ?_, by rw [List.length_append]; split <;> simp <;> omega, ?_⟩
  · by_cases e : j = k
    · subst e; rw [hc] at hd; injection hd with hd; subst hd; decide
    · exact h1 j (by omega) d hd
  · rcases h3 with ⟨a, b, cc, d⟩ | ⟨a, _⟩
    · exact .inl ⟨by omega, by omega, fun j hj1 hj2 => absurd hj1 (by omega), step_sp b hc cc d⟩
    · omega
theorem inv_end {s : ByteArray} {bg : Nat} {ys : List ByteArray} (h : Inv s s.size bg ys) : Inv s (s.size + 1) (s.size + 1) (ys ++ if bg < s.size then [s.extract bg s.size] else []) := by
  obtain ⟨h1, h2, h3⟩ := h
  refine ⟨fun j hj d hd => ?_, by rw [List.length_append]; split <;> simp <;> omega, ?_⟩
  · by_cases e : j = s.size
    · subst e; rw [List.getElem?_eq_none (by rw [bytes_size]; exact Nat.le_refl _)] at hd; simp at hd
    · exact h1 j (by omega) d hd
  · rcases h3 with ⟨a, b, cc, d⟩ | ⟨a, _⟩
    · exact .inr ⟨rfl, step_end b cc d⟩
    · omega
theorem Inv.le {s : ByteArray} {k bg : Nat} {ys : List ByteArray} (h : Inv s k bg ys) (hk : k ≤ s.size) : bg ≤ k := by
  rcases h.2.2 with ⟨_, b, _⟩ | ⟨a, _⟩
  · exact b
  · omega
theorem Inv.done {s : ByteArray} {k bg : Nat} {ys : List ByteArray} (h : Inv s k bg ys) (hk : ¬ k ≤ s.size) : ys = fieldsB s ∧ ∀ (j : Nat) (c : UInt8), s.data.toList[j]? = some c → ¬ (c.toNat < 32 ∨ 126 < c.toNat) := by
  rcases h.2.2 with ⟨a, _⟩ | ⟨a, b⟩
  · omega
  · refine ⟨b, fun j c hc => h.1 j ?_ c hc⟩
    have := (List.getElem?_eq_some_iff.1 hc).1
    rw [bytes_size] at this
    omega
theorem Inv.short {s : ByteArray} {k bg : Nat} {ys : List ByteArray} (h : Inv s k bg ys) : k ≤ s.size + 1 := by
  rcases h.2.2 with ⟨a, _⟩ | ⟨a, _⟩ <;> omega
set_option maxRecDepth 20000 in
set_option maxHeartbeats 16000000 in
theorem c_spec_SplitFields (s : ByteArray) (w : World) (hs : s.size ≤ 1048576) :
    Calls Tryd.prog 16 #[.string s] w (GivesS w (spF s) (spOk s)) := by
  by_cases hA : 600 < s.size
  · have e1 := sp_long hA
    rw [sp_no e1, e1]
    have hA' : (600 : Int) < (s.size : Int) := by omega
    go_enter Tryd.func16, Tryd.ntmps16
    go_wp2_with fail
    go_ret2
    exact GivesS.no w w (Below.refl _ _)
  have hA' : ¬ (600 : Int) < (s.size : Int) := by omega
  obtain ⟨i0, hi, hz0, hz1, hz2⟩ := info_parts strInfo
  have HZ := Lib.hid (And.intro hz1 hz2)
  clear hz1 hz2
  go_enter Tryd.func16, Tryd.ntmps16
  go_wp2_with fail
  go_loopw [4, 5, 6] (fun o b i wr => ∃ (k bg h c n : Nat) (ys : List ByteArray), n = ys.length ∧ o = .slice (some ⟨h, 0, none⟩) n c ∧ b = .int .i64 (bg : Int) ∧ i = .int .i64 (k : Int) ∧ wr.ownsRow w.heap.size 9 1 (.slice (some ⟨h, 0, none⟩) n c) n (sv ys) ∧ Hid (Inv s k bg ys) ∧ Below w.heap.size w wr) (fun _ _ i _ => s.size + 1 - (RowKit.intOf i).toNat)
  case atStart => exact ⟨0, 0, w.heap.size, 0, 0, [], rfl, rfl, rfl, rfl, World.ownsRow_lit w #[] 0 (Nat.le_refl _) (by simp [maxLen]) rfl, Lib.hid (inv_start s), (Below.refl _ _).alloc (Nat.le_refl _) _⟩
  case round =>
    obtain ⟨k, bg, h, c, n, ys, hny, rfl, rfl, rfl, hown, HINV, hbr⟩ := hrel
    have hks := HINV.out.short
    have hn : n ≤ 601 := by have := HINV.out.2.1; omega
    have HOWN := Lib.hid hown
    have HNY := Lib.hid hny
    clear hown hny
    have hk0 : (0 : Int) ≤ (k : Int) := by omega
    have hkw : IntKind.i64.wrap ((k : Int) + 1) = (k : Int) + 1 := IntWalk.i64_in _ (by omega)
    by_cases hlt : k < s.size
    · have hlt' : (k : Int) < (s.size : Int) := by omega
      have hle' : (k : Int) ≤ (s.size : Int) := by omega
      obtain ⟨q, hq, hbq⟩ := bt_at hlt
      have hg := get_bt s
      have b0 := bt_nonneg s k
      have b1 := bt_le s k
      generalize hbk : bt s k = b at b0 b1 hbq
      have HQ := Lib.hid hq
      have HBQ := Lib.hid hbq
      clear hq hbq
      by_cases h32 : b < 32
      · have e1 := sp_bad HQ.out (.inl (by have := HBQ.out; omega))
        have E1 := Lib.hid e1
        have E2 := Lib.hid (sp_no e1)
        clear e1
        go_wp2_with fail
        go_ret2
        rw [E1.out, E2.out]
        exact GivesS.no w wr hbr
      by_cases h126 : 126 < b
      · have e1 := sp_bad HQ.out (.inr (by have := HBQ.out; omega))
        have E1 := Lib.hid e1
        have E2 := Lib.hid (sp_no e1)
        clear e1
        go_wp2_with fail
        go_ret2
        rw [E1.out, E2.out]
        exact GivesS.no w wr hbr
      have hgood : ¬ (q.toNat < 32 ∨ 126 < q.toNat) := by have := HBQ.out; omega
      have HGOOD := Lib.hid hgood
      clear hgood
      by_cases hne : b = 32
      · subst hne
        have hq32 : q = 32 := by
          have := HBQ.out
          exact UInt8.toNat_inj.1 (by show q.toNat = 32; omega)
        have HS := Lib.hid (inv_space HINV.out hlt (by rw [← hq32]; exact HQ.out))
        have hbgk := HINV.out.le (by omega)
        clear hq32
        by_cases hbg : bg < k
        · have hbg' : (bg : Int) < (k : Int) := by omega
          have hbg0 : (0 : Int) ≤ (bg : Int) := by omega
          have hbgl : (bg : Int) ≤ (k : Int) := by omega
          have HS2 := HS
          rw [if_pos hbg] at HS2
          clear HS
          go_wp2_with (refine wpList_append_lies _ rfl (.tmp 48) (.tmp 53) 29 rfl w.heap.size 9 i0 (.string ByteArray.empty) 1 16 Tryd.underlying29 hi hz0 HZ.out.1 HZ.out.2 rfl (by decide) _ n _ rfl (HOWN.out.alloc _) ⟨_, 0, none⟩ 1 1 [.string (s.extract bg k)] rfl rfl (cells_one_new _ _ _) (by simp [Value.oneCell']) (by omega) (by unfold maxLen; omega) (by omega) (by have := hbr.size; simp; omega) _ rfl ?_; intro g2 cap2 w5 hown5 hgrow5 _ _)
          have hb5 : Below w.heap.size w w5 := Below.grown (hbr.alloc hbr.size _) hgrow5 (by have := hbr.size; simp; omega) (fun j hj => (HOWN.out.lt j hj).1)
          have hst : sv ys ++ [.string (s.extract bg k)] = sv (ys ++ [s.extract bg k]) := by simp [sv]
          rw [hst] at hown5
          go_wp2_with fail
          go_roundw
          case rel => exact ⟨k + 1, k + 1, g2, cap2, n + 1, _, by rw [HNY.out]; simp, rfl, by go_num, by go_num, hown5, HS2, hb5⟩
          case measure => simp [RowKit.intOf] <;> omega
        · have hbg' : ¬ (bg : Int) < (k : Int) := by omega
          have HS2 := HS
          rw [if_neg hbg, List.append_nil] at HS2
          clear HS
          go_wp2_with fail
          go_roundw
          case rel => exact ⟨k + 1, k + 1, h, c, n, ys, HNY.out, rfl, by go_num, by go_num, HOWN.out, HS2, hbr⟩
          case measure => simp [RowKit.intOf] <;> omega
      · have HS := Lib.hid (inv_skip HINV.out hlt HQ.out HGOOD.out (fun e => hne (by have := HBQ.out; omega)))
        go_wp2_with fail
        go_roundw
        case rel => exact ⟨k + 1, bg, h, c, n, ys, HNY.out, rfl, rfl, by go_num, HOWN.out, HS, hbr⟩
        case measure => simp [RowKit.intOf] <;> omega
    by_cases heq : k = s.size
    · subst heq
      have hlt' : ¬ (s.size : Int) < (s.size : Int) := by omega
      have hle' : (s.size : Int) ≤ (s.size : Int) := by omega
      have HS := Lib.hid (inv_end HINV.out)
      have hbgk := HINV.out.le (by omega)
      by_cases hbg : bg < s.size
      · have hbg' : (bg : Int) < (s.size : Int) := by omega
        have hbg0 : (0 : Int) ≤ (bg : Int) := by omega
        have hbgl : (bg : Int) ≤ (s.size : Int) := by omega
        have HS2 := HS
        rw [if_pos hbg] at HS2
        clear HS
        go_wp2_with (refine wpList_append_lies _ rfl (.tmp 48) (.tmp 53) 29 rfl w.heap.size 9 i0 (.string ByteArray.empty) 1 16 Tryd.underlying29 hi hz0 HZ.out.1 HZ.out.2 rfl (by decide) _ n _ rfl (HOWN.out.alloc _) ⟨_, 0, none⟩ 1 1 [.string (s.extract bg s.size)] rfl rfl (cells_one_new _ _ _) (by simp [Value.oneCell']) (by omega) (by unfold maxLen; omega) (by omega) (by have := hbr.size; simp; omega) _ rfl ?_; intro g2 cap2 w5 hown5 hgrow5 _ _)
        have hb5 : Below w.heap.size w w5 := Below.grown (hbr.alloc hbr.size _) hgrow5 (by have := hbr.size; simp; omega) (fun j hj => (HOWN.out.lt j hj).1)
        have hst : sv ys ++ [.string (s.extract bg s.size)] = sv (ys ++ [s.extract bg s.size]) := by simp [sv]
        rw [hst] at hown5
        go_wp2_with fail
        go_roundw
        case rel => exact ⟨s.size + 1, s.size + 1, g2, cap2, n + 1, _, by rw [HNY.out]; simp, rfl, by go_num, by go_num, hown5, HS2, hb5⟩
        case measure => simp [RowKit.intOf] <;> omega
      · have hbg' : ¬ (bg : Int) < (s.size : Int) := by omega
        have HS2 := HS
        rw [if_neg hbg, List.append_nil] at HS2
        clear HS
        go_wp2_with fail
        go_roundw
        case rel => exact ⟨s.size + 1, s.size + 1, h, c, n, ys, HNY.out, rfl, by go_num, by go_num, HOWN.out, HS2, hbr⟩
        case measure => simp [RowKit.intOf] <;> omega
    · obtain ⟨e1, e2⟩ := HINV.out.done (by omega)
      have hle' : ¬ (k : Int) ≤ (s.size : Int) := by omega
      have E1 := Lib.hid e1
      have E2 := Lib.hid e2
      clear e1 e2
      by_cases h24 : 24 < n
      · have h24' : (24 : Int) < (n : Int) := by omega
        have e3 := sp_many (s := s) (by rw [← E1.out, ← HNY.out]; exact h24)
        have E3 := Lib.hid e3
        have E4 := Lib.hid (sp_no e3)
        clear e3
        go_wp2_with fail
        go_ret2
        rw [E3.out, E4.out]
        exact GivesS.no w wr hbr
      · have h24' : ¬ (24 : Int) < (n : Int) := by omega
        have e3 := sp_good (s := s) (by omega) E2.out (by rw [← E1.out, ← HNY.out]; omega)
        have E3 := Lib.hid e3
        have E4 := Lib.hid ((sp_yes e3).trans E1.out.symm)
        clear e3
        go_wp2_with fail
        go_ret2
        rw [E3.out, E4.out]
        have hO := HOWN.out
        rw [HNY.out] at hO ⊢
        exact ⟨_, _, rfl, hO, hbr⟩
end Go.Proofs.YtaacognadfodlaaDoor

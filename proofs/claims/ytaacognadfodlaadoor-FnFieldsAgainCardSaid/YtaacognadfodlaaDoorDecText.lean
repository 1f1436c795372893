/- The walks of the decimal text of a number: the program's (by the library's contract) and the reference's. -/
import Derived.Test.YtaacognadfodlaaDoorRows
import Derived.Test.YtaacognadfodlaaDoorShelfItoa
import Derived.WalkKit
import Derived.WalkSpells
import Derived.WalkLawsBesides
import Derived.OwnWalk
import Derived.Handy
import Derived.PlainAid
import Derived.Laws.IdiomStrings
import Derived.Laws.Concat
import Derived.Lib.ItoaNum
import Derived.Lib.ItoaMem
import Derived.Lib.ItoaLen
import Derived.Lib.Hide
namespace Go.Proofs.YtaacognadfodlaaDoor
open Go.RowKit Go.PlainAid Go.Sort

theorem belowNx {w w1 w2 : World} (h : Below w.heap.size w w1) (hb : Below w1.heap.size w1 w2) : Below w.heap.size w w2 := h.trans (hb.mono h.size)
def dz (m : Nat) : List UInt8 := if m = 0 then [] else Lib.decDigits m
theorem dz_step {m : Nat} (h : m ≠ 0) : dz m = dz (m / 10) ++ [UInt8.ofNat (48 + m % 10)] := by
  unfold dz
  rw [if_neg h, Lib.decDigits]
  by_cases h10 : m < 10
  · rw [dif_pos h10, if_pos (by omega), Nat.mod_eq_of_lt h10]; rfl
  · rw [dif_neg h10, if_neg (by omega)]
theorem dz_pos {m : Nat} (h : m ≠ 0) : dz m = Lib.decDigits m := by unfold dz; rw [if_neg h]
theorem cell_one (W : World) (u : Value) (t : TypeId) : (W.alloc (.cells #[u] t)).cell? ⟨W.heap.size, 0, none⟩ = some u := by simp [World.cell?_alloc_new]
set_option maxHeartbeats 400000 in
theorem c_fig (d : Nat) (w : World) (hd : d < 10) :
    Calls Tryd.prog 30 #[.int .i64 (d : Int)] w fun e w' => e = .returned (.int .u8 ((UInt8.ofNat (48 + d)).toNat : Int)) ∧ w = w' := by
  have e := Lib.hid (show ((UInt8.ofNat (48 + d)).toNat : Int) = 48 + (d : Int) by simp; omega)
  have hlt : (d : Int) < 10 := by omega
  have hw : IntKind.u8.wrap (48 + (d : Int)) = 48 + (d : Int) := IntWalk.u8_in _ (by omega)
  go_enter Tryd.func30, Tryd.ntmps30
  go_wp2_with fail
  go_ret
  exact ⟨by rw [e.out]; rfl, rfl⟩
theorem conv_one (w : World) (b : UInt8) : (convert 34 9 (.slice (some ⟨w.heap.size, 0, none⟩) 1 1)).run Tryd.prog (w.alloc (.cells #[.int .u8 (b.toNat : Int)] 5)) = .ok (.string ⟨#[b]⟩) (w.alloc (.cells #[.int .u8 (b.toNat : Int)] 5)) := by
  have h := run_convert_bytes_back (P := Tryd.prog) (w.alloc (.cells #[.int .u8 (b.toNat : Int)] 5)) 34 9 5 ⟨w.heap.size, 0, none⟩ 1 [b] Tryd.underlying34 Tryd.underlying5 Tryd.underlying9 (fun j hj => by
    have hj0 : j = 0 := by simp at hj; exact hj
    subst hj0
    simp [Addr.add, World.cell?_alloc_new])
  simpa using h
set_option maxRecDepth 100000 in
set_option maxHeartbeats 8000000 in
theorem c_spec_FormatInt_pos (N : Nat) (w : World) (h0 : N ≠ 0) (hN : N ≤ 9223372036854775807) :
    Calls Tryd.prog 12 #[.int .i64 (N : Int)] w fun e w' => e = .returned (.string ⟨(Lib.decDigits N).toArray⟩) ∧ Below w.heap.size w w' := by
  have hz : ((N : Int) == 0) = false := by rw [beq_eq_false_iff_ne]; omega
  have hp : ¬ (N : Int) < 0 := by omega
  have hD := Lib.hid (dz_pos h0)
  go_enter Tryd.func12, Tryd.ntmps12
  go_wp2_with fail
  go_loopw [0, 4, 5] (fun x s _ wr => ∃ (m : Nat) (sl : List UInt8), m ≤ N ∧ x = .int .i64 (m : Int) ∧ s = .string ⟨sl.toArray⟩ ∧ dz N = dz m ++ sl ∧ Below w.heap.size w wr) (fun x _ _ _ => (intOf x).toNat)
  case atStart => exact ⟨N, [], Nat.le_refl _, rfl, rfl, by simp, Below.refl _ _⟩
  case round =>
    obtain ⟨m, sl, hm, rfl, rfl, hd, hbr⟩ := hrel
    have HD := Lib.hid hd
    clear hd
    by_cases hm0 : m = 0
    · subst hm0
      have hs : sl = Lib.decDigits N := by have := HD.out; rw [hD.out] at this; simpa [dz] using this.symm
      have HS := Lib.hid hs
      clear hs
      go_wp2_with fail
      go_ret
      exact ⟨by rw [HS.out]; rfl, hbr⟩
    · have hst := Lib.hid (dz_step hm0)
      have hne : ((m : Int) != 0) = true := by simp; omega
      have hr : (m : Int).tmod 10 = ((m % 10 : Nat) : Int) := by rw [Int.tmod_eq_emod_of_nonneg (by omega)]; omega
      have hq : IntKind.i64.wrap ((m : Int).tdiv 10) = ((m / 10 : Nat) : Int) := by rw [IntWalk.i64_quo _ _ (by omega)]; omega
      have hq2 : (m : Int).tdiv 10 = ((m / 10 : Nat) : Int) := by rw [Int.tdiv_eq_ediv_of_nonneg (by omega)]; omega
      have hd10 : m % 10 < 10 := Nat.mod_lt _ (by omega)
      have hml : m / 10 < m := Nat.div_lt_self (by omega) (by omega)
      have hcv := conv_one wr (UInt8.ofNat (48 + m % 10))
      have hF := Lib.hid (fun W => c_fig (m % 10) W hd10)
      have hl21 : sl.length ≤ 8388608 := by
        have h1 := congrArg List.length HD.out
        rw [hD.out, List.length_append] at h1
        have h2 := Lib.itoa_length_le (N : Int) (by omega) (by omega)
        rw [Lib.itoa_nonneg] at h2
        omega
      generalize UInt8.ofNat (48 + m % 10) = b at hst hcv hF
      have hcat : ∀ W : World, (Op.stringOp .add (⟨#[b]⟩ : ByteArray) (⟨sl.toArray⟩ : ByteArray)).run Tryd.prog W = .ok (.string ⟨(b :: sl).toArray⟩) W := fun W => by
        have h := run_string_add_lists (P := Tryd.prog) W [b] sl (by simp) (by omega)
        simpa using h
      generalize m / 10 = m' at hst hq hq2 hml
      generalize m % 10 = d at hr hd10 hF
      have hdn : ¬ (d : Int) < 0 := by omega
      go_wp2_with (go_at_call 30; (with_reducible refine (hF.out _).mono ?_); rintro e w' ⟨rfl, rfl⟩)
      go_roundw
      case rel => exact ⟨m', b :: sl, by omega, rfl, rfl, by rw [HD.out, hst.out]; simp, hbr.alloc hbr.size _⟩
      case measure => simp [intOf]; omega
set_option maxRecDepth 100000 in
set_option maxHeartbeats 8000000 in
theorem c_spec_FormatInt_neg (N : Nat) (w : World) (h0 : N ≠ 0) (hN : N ≤ 9223372036854775808) :
    Calls Tryd.prog 12 #[.int .i64 (-(N : Int))] w fun e w' => e = .returned (.string ⟨(45 :: Lib.decDigits N).toArray⟩) ∧ Below w.heap.size w w' := by
  have hz : ((-(N : Int)) == 0) = false := by rw [beq_eq_false_iff_ne]; omega
  have hp : -(N : Int) < 0 := by omega
  have hD := Lib.hid (dz_pos h0)
  go_enter Tryd.func12, Tryd.ntmps12
  go_wp2_with fail
  go_loopw [0, 4, 5] (fun x s _ wr => ∃ (m : Nat) (sl : List UInt8), m ≤ N ∧ x = .int .i64 (-(m : Int)) ∧ s = .string ⟨sl.toArray⟩ ∧ dz N = dz m ++ sl ∧ Below w.heap.size w wr) (fun x _ _ _ => (-(intOf x)).toNat)
  case atStart => exact ⟨N, [], Nat.le_refl _, rfl, rfl, by simp, Below.refl _ _⟩
  case round =>
    obtain ⟨m, sl, hm, rfl, rfl, hd, hbr⟩ := hrel
    have HD := Lib.hid hd
    clear hd
    by_cases hm0 : m = 0
    · subst hm0
      have hs : sl = Lib.decDigits N := by have := HD.out; rw [hD.out] at this; simpa [dz] using this.symm
      have HS := Lib.hid hs
      clear hs
      have hl21 : sl.length ≤ 8388608 := by
        have h2 := Lib.itoa_length_le (-(N : Int)) (by omega) (by omega)
        rw [Lib.itoa_neg N (by omega), List.length_cons, ← HS.out] at h2
        omega
      have hcat : ∀ W : World, (Op.stringOp .add (⟨#[45]⟩ : ByteArray) (⟨sl.toArray⟩ : ByteArray)).run Tryd.prog W = .ok (.string ⟨(45 :: sl).toArray⟩) W := fun W => by
        have h := run_string_add_lists (P := Tryd.prog) W [45] sl (by simp) (by omega)
        simpa using h
      go_wp2_with fail
      go_ret
      exact ⟨by rw [HS.out]; rfl, hbr⟩
    · have hst := Lib.hid (dz_step hm0)
      have hne : ((-(m : Int)) != 0) = true := by simp; omega
      have hr : (-(m : Int)).tmod 10 = -((m % 10 : Nat) : Int) := by rw [Int.neg_tmod, Int.tmod_eq_emod_of_nonneg (by omega)]; omega
      have hq0 : (m : Int).tdiv 10 = ((m / 10 : Nat) : Int) := by rw [Int.tdiv_eq_ediv_of_nonneg (by omega)]; omega
      have hq2 : (-(m : Int)).tdiv 10 = -((m / 10 : Nat) : Int) := by rw [Int.neg_tdiv, hq0]
      have hq : IntKind.i64.wrap ((-(m : Int)).tdiv 10) = -((m / 10 : Nat) : Int) := by rw [hq2]; exact IntWalk.i64_in _ (by omega)
      clear hq0
      have hd10 : m % 10 < 10 := Nat.mod_lt _ (by omega)
      have hml : m / 10 < m := Nat.div_lt_self (by omega) (by omega)
      have hcv := conv_one wr (UInt8.ofNat (48 + m % 10))
      have hF := Lib.hid (fun W => c_fig (m % 10) W hd10)
      have hl21 : sl.length ≤ 8388608 := by
        have h1 := congrArg List.length HD.out
        rw [hD.out, List.length_append] at h1
        have h2 := Lib.itoa_length_le (-(N : Int)) (by omega) (by omega)
        rw [Lib.itoa_neg N (by omega), List.length_cons] at h2
        omega
      generalize UInt8.ofNat (48 + m % 10) = b at hst hcv hF
      have hcat : ∀ W : World, (Op.stringOp .add (⟨#[b]⟩ : ByteArray) (⟨sl.toArray⟩ : ByteArray)).run Tryd.prog W = .ok (.string ⟨(b :: sl).toArray⟩) W := fun W => by
        have h := run_string_add_lists (P := Tryd.prog) W [b] sl (by simp) (by omega)
        simpa using h
      generalize m / 10 = m' at hst hq hq2 hml
      generalize m % 10 = d at hr hd10 hF
      by_cases hd0 : d = 0
      · subst hd0
        have hr0 : (-(m : Int)).tmod 10 = 0 := by simpa using hr
        have hF0 : Hid (∀ W : World, Calls Tryd.prog 30 #[.int .i64 0] W fun e w' => e = .returned (.int .u8 (b.toNat : Int)) ∧ W = w') := Lib.hid fun W => by simpa using hF.out W
        clear hr hF
        go_wp2_with (go_at_call 30; (with_reducible refine (hF0.out _).mono ?_); rintro e w' ⟨rfl, rfl⟩)
        go_roundw
        case rel => exact ⟨m', b :: sl, by omega, rfl, rfl, by rw [HD.out, hst.out]; simp, hbr.alloc hbr.size _⟩
        case measure => simp [intOf]; omega
      · have hdn : -(d : Int) < 0 := by omega
        have hwn : IntKind.i64.wrap (- -(d : Int)) = (d : Int) := by rw [Int.neg_neg]; exact IntWalk.i64_in _ (by omega)
        have hnn : - -(d : Int) = (d : Int) := Int.neg_neg _
        go_wp2_with (go_at_call 30; (with_reducible refine (hF.out _).mono ?_); rintro e w' ⟨rfl, rfl⟩)
        go_roundw
        case rel => exact ⟨m', b :: sl, by omega, rfl, rfl, by rw [HD.out, hst.out]; simp, hbr.alloc hbr.size _⟩
        case measure => simp [intOf]; omega
set_option maxHeartbeats 400000 in
theorem c_spec_FormatInt (n : Int) (w : World) (h0 : -9223372036854775808 ≤ n) (h1 : n ≤ 9223372036854775807) :
    Calls Tryd.prog 12 #[.int .i64 n] w fun e w' => e = .returned (.string ⟨(Lib.itoa n).toArray⟩) ∧ Below w.heap.size w w' := by
  rcases Int.lt_trichotomy n 0 with h | rfl | h
  · obtain ⟨N, rfl⟩ : ∃ N : Nat, n = -(N : Int) := ⟨(-n).toNat, by omega⟩
    rw [Lib.itoa_neg N (by omega)]
    exact c_spec_FormatInt_neg N w (by omega) (by omega)
  · have e : Lib.itoa 0 = [48] := by rw [show (0 : Int) = ((0 : Nat) : Int) from rfl, Lib.itoa_nonneg, Lib.decDigits]; rfl
    have E := Lib.hid e
    clear e
    go_enter Tryd.func12, Tryd.ntmps12
    go_wp2_with fail
    go_ret
    exact ⟨by rw [E.out]; rfl, Below.refl _ _⟩
  · obtain ⟨N, rfl⟩ : ∃ N : Nat, n = (N : Int) := ⟨n.toNat, by omega⟩
    rw [Lib.itoa_nonneg]
    exact c_spec_FormatInt_pos N w (by omega) (by omega)
theorem below_grow (w : World) (k : Nat) (os : Array Obj) : Below w.heap.size w (grow (w.drewN k) os) :=
  ⟨rfl, rfl, rfl, by show w.heap.size ≤ (w.heap ++ os).size; simp, fun i hi => by show (w.heap ++ os)[i]? = w.heap[i]?; rw [Array.getElem?_append_left hi]⟩
set_option maxHeartbeats 400000 in
theorem c_impl_FormatInt (n : Int) (w : World) (h0 : -9223372036854775808 ≤ n) (h1 : n ≤ 9223372036854775807) (ht : Lib.TabIs Tryd.prog w "internal/strconv.uint64pow10" .u64 Lib.pow10Tab) :
    Calls Tryd.prog 13 #[.int .i64 n] w fun e w' => e = .returned (.string ⟨(Lib.itoa n).toArray⟩) ∧ Below w.heap.size w w' := by
  have H := Lib.hid (Tryd.strconv_Itoa n h0 h1 w ht)
  clear ht
  go_enter Tryd.func13, Tryd.ntmps13
  go_wp2_with (go_at_call 31; (with_reducible refine H.out.mono ?_); rintro e w' ⟨rfl, k, os, rfl⟩)
  go_ret
  exact ⟨rfl, below_grow _ _ _⟩
end Go.Proofs.YtaacognadfodlaaDoor

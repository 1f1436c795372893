/- The walks of CountSharings: the program's power of p is the reference's count. -/
import Derived.Test.YtagocjdodgolkaaRows
import Derived.Test.YtagocjdodgolkaaPlain
import Derived.Test.YtagocjdodgolkaaMem
import Derived.Test.YtagocjdodgolkaaWords
import Derived.Test.YtagocjdodgolkaaField
import Derived.Test.YtagocjdodgolkaaSums
import Derived.WalkKit
import Derived.WalkSpells
import Derived.WalkLawsBesides
import Derived.Lib.Hide
namespace Go.Proofs.Ytagocjdodgolkaa
open Go.RowKit

theorem pow_bound {p : Int} (h2 : 2 ≤ p) (h13 : p ≤ 13) : ∀ m : Nat, m ≤ 3 → 1 ≤ p ^ m ∧ p ^ m ≤ 2197
  | 0, _ => by simp
  | 1, _ => by rw [Int.pow_succ, Int.pow_zero, Int.one_mul]; omega
  | 2, _ => by
    have h := Int.mul_le_mul h13 h13 (by omega) (by omega)
    have h' := Int.mul_le_mul (show (1 : Int) ≤ p by omega) (show (1 : Int) ≤ p by omega) (by omega) (by omega)
    rw [Int.pow_succ, Int.pow_succ, Int.pow_zero, Int.one_mul]; omega
  | 3, _ => by
    have h := Int.mul_le_mul h13 h13 (by omega) (by omega)
    have h' := Int.mul_le_mul (show (1 : Int) ≤ p by omega) (show (1 : Int) ≤ p by omega) (by omega) (by omega)
    have k := Int.mul_le_mul h h13 (by omega) (by omega)
    have k' := Int.mul_le_mul h' (show (1 : Int) ≤ p by omega) (by omega) (by omega)
    rw [Int.pow_succ, Int.pow_succ, Int.pow_succ, Int.pow_zero, Int.one_mul]; omega
/-- how many lists of m elements have the sum x -/
def cntv (p x : Int) : Nat → Int
  | 0 => if x = 0 then 1 else 0
  | m + 1 => p ^ m
/-- the same of those whose first element is below a -/
def part (p x : Int) (a : Nat) : Nat → Int
  | 0 => if x < (a : Int) then 1 else 0
  | m + 1 => (a : Int) * p ^ m
theorem fsub_zero {p x : Int} {a : Nat} (hx : isEl p x = true) (ha : (a : Int) < p) : (fsub p x a = 0) ↔ x = a := by
  obtain ⟨hf, h0, h1⟩ := isEl_iff.1 hx
  have hr := fieldOk_range hf
  have ha' : isEl p (a : Int) = true := isEl_iff.2 ⟨hf, by omega, by omega⟩
  rw [fsub_yes (by simp [hx, ha'])]
  constructor
  · intro h
    have h2 : x - (a : Int) + p < 2 * p := by omega
    have h3 : 0 < x - (a : Int) + p := by omega
    rcases Int.lt_or_le (x - (a : Int) + p) p with hlt | hge
    · rw [Int.emod_eq_of_lt (by omega) hlt] at h; omega
    · have e : (x - (a : Int) + p) % p = x - (a : Int) := by
        rw [Int.add_emod_right]; exact Int.emod_eq_of_lt (by omega) (by omega)
      omega
  · intro h
    rw [h, show (a : Int) - a + p = p by omega, Int.emod_self]
theorem part_step {p x : Int} {a m : Nat} (hx : isEl p x = true) (ha : (a : Int) < p) : part p x (a + 1) m = part p x a m + cntv p (fsub p x a) m := by
  have hz := fsub_zero hx ha
  cases m with
  | zero =>
    simp only [part, cntv]
    by_cases e : x = (a : Int)
    · rw [if_pos (by omega), if_neg (by omega), if_pos (hz.2 e)]; rfl
    · rw [if_neg (c := fsub p x a = 0) (fun h => e (hz.1 h))]
      by_cases hl : x < (a : Int)
      · rw [if_pos (by omega), if_pos hl]; rfl
      · rw [if_neg (by omega), if_neg hl]; rfl
  | succ m => simp only [part, cntv]; rw [Int.natCast_add, Int.add_mul]; simp
theorem part_end {p x : Int} {a m : Nat} (hx : isEl p x = true) (ha : (a : Int) = p) : part p x a m = cntv p x (m + 1) := by
  obtain ⟨_, h0, h1⟩ := isEl_iff.1 hx
  cases m with
  | zero => simp only [part, cntv]; rw [if_pos (by omega), Int.pow_zero]
  | succ m => simp only [part, cntv]; rw [ha, Int.pow_succ, Int.mul_comm]
theorem part_bound {p x : Int} {a m : Nat} (h2 : 2 ≤ p) (h13 : p ≤ 13) (ha : (a : Int) ≤ p) (hm : m ≤ 4) : 0 ≤ part p x a m ∧ part p x a m ≤ 28561 := by
  cases m with
  | zero => simp only [part]; split <;> omega
  | succ m =>
    obtain ⟨b1, b2⟩ := pow_bound h2 h13 m (by omega)
    have h := Int.mul_le_mul (show (a : Int) ≤ 13 by omega) b2 (by omega) (by omega)
    have h' := Int.mul_nonneg (show 0 ≤ (a : Int) by omega) (show 0 ≤ p ^ m by omega)
    simp only [part]; omega
theorem cntv_bound {p x : Int} {m : Nat} (h2 : 2 ≤ p) (h13 : p ≤ 13) (hm : m ≤ 4) : 0 ≤ cntv p x m ∧ cntv p x m ≤ 2197 := by
  cases m with
  | zero => simp only [cntv]; split <;> omega
  | succ m => have := pow_bound h2 h13 m (by omega); simp only [cntv]; omega
theorem fsub_el {p x a : Int} (hx : isEl p x = true) (ha : isEl p a = true) : isEl p (fsub p x a) = true := by
  have hf := (isEl_iff.1 hx).1
  have hr := fieldOk_range hf
  rw [fsub_yes (by simp [hx, ha])]
  have := emod_el (p := p) (a := x - a + p) hr.1
  exact isEl_iff.2 ⟨hf, this⟩
set_option maxHeartbeats 1000000 in
theorem c_spec_l06Count (p : Int) (h13 : p ≤ 13) (m : Nat) : ∀ (x : Int) (w : World), m ≤ 4 → isEl p x = true →
    Calls Try.prog 57 #[.int .i64 p, .int .i64 x, .int .i64 m] w fun e w' => e = .returned (.int .i64 (cntv p x m)) ∧ w = w' := by
  induction m with
  | zero =>
    intro x w _ hx
    by_cases h0 : x = 0
    · subst h0
      go_enter Try.func57, Try.ntmps57
      go_wp2_with fail
      go_ret
      exact ⟨rfl, rfl⟩
    · have h0' : (x == 0) = false := by simpa using h0
      go_enter Try.func57, Try.ntmps57
      go_wp2_with fail
      go_ret
      exact ⟨ret_int (by simp [cntv, h0]), rfl⟩
  | succ m ih =>
    intro x w hm hx
    have hr := fieldOk_range (isEl_iff.1 hx).1
    have hp2 := hr.1
    clear hr
    have HX := Lib.hid hx
    have IH := Lib.hid ih
    clear ih hx
    rw [show ((m + 1 : Nat) : Int) = (m : Int) + 1 from by omega]
    have hne' : ((m : Int) + 1 == 0) = false := by rw [beq_eq_false_iff_ne]; omega
    go_enter Try.func57, Try.ntmps57
    go_wp2_with fail
    go_loop [7, 8] (fun s i => ∃ a : Nat, (a : Int) ≤ p ∧ i = .int .i64 a ∧ s = .int .i64 (part p x a m)) (fun _ i => (p - intOf i).toNat)
    case atStart => exact ⟨0, by omega, rfl, by
      have hx0 := (isEl_iff.1 HX.out).2.1
      cases m with
      | zero => simp only [part]; rw [if_neg (by simpa using hx0)]
      | succ m => simp [part]⟩
    case round =>
      obtain ⟨a, ha, rfl, rfl⟩ := hrel
      obtain ⟨b1, b2⟩ := part_bound (x := x) hp2 h13 ha (show m ≤ 4 by omega)
      by_cases hlt : (a : Int) < p
      · have hst := Lib.hid (part_step (m := m) HX.out hlt)
        have hel := Lib.hid (fsub_el HX.out (isEl_iff.2 ⟨(isEl_iff.1 HX.out).1, by omega, by omega⟩ : isEl p (a : Int) = true))
        obtain ⟨c1, c2⟩ := cntv_bound (x := fsub p x a) hp2 h13 (show m ≤ 4 by omega)
        generalize part p x a m = s at b1 b2 hst
        go_wp2_with (first | (go_at_call 58; (with_reducible refine (c_spec_FSub _ _ _ _).mono ?_); rintro e w' ⟨rfl, rfl⟩) | (go_at_call 57; (with_reducible refine (IH.out _ _ (by omega) hel.out).mono ?_); rintro e w' ⟨rfl, rfl⟩))
        go_round
        case rel => exact ⟨a + 1, by omega, by go_num, by rw [hst.out]⟩
        case measure => simp [intOf]; omega
      · have e := Lib.hid (part_end (m := m) HX.out (show (a : Int) = p by omega))
        generalize part p x a m = s at b1 b2 e
        go_wp2_with fail
        go_ret
        exact ⟨ret_int e.out, rfl⟩
def countF (p x n : Int) (view : List Int) : Int :=
  if isEl p x && inB n 1 4 && decide ((view.length : Int) ≤ n) && allEl p view && decide (p ≤ 13) then cntv p (fsub p x (fsum p view)) (n - (view.length : Int)).toNat else 0
theorem countF_no {p x n : Int} {view : List Int} (h : (isEl p x && inB n 1 4 && decide ((view.length : Int) ≤ n) && allEl p view && decide (p ≤ 13)) = false) : countF p x n view = 0 := by
  unfold countF; rw [h]; rfl
theorem countF_yes {p x n : Int} {view : List Int} (h1 : isEl p x = true) (h2 : inB n 1 4 = true) (h3 : (view.length : Int) ≤ n) (h4 : allEl p view = true) (h5 : p ≤ 13) : countF p x n view = cntv p (fsub p x (fsum p view)) (n - (view.length : Int)).toNat := by
  unfold countF; simp [h1, h2, h3, h4, h5]
theorem fsum_el {p : Int} {xs : List Int} (h : allEl p xs = true) : isEl p (fsum p xs) = true := by
  have hr := allEl_field h
  have := sumGo_el hr.1 xs
  exact isEl_iff.2 ⟨(allEl_iff.1 h).1, by unfold fsum; rw [if_pos h]; exact this⟩
theorem fsub_self {p x s : Int} (hx : isEl p x = true) (hs : isEl p s = true) : (fsub p x s = 0) ↔ s = x := by
  obtain ⟨_, s0, s1⟩ := isEl_iff.1 hs
  have := fsub_zero (a := s.toNat) hx (by omega)
  rw [Int.toNat_of_nonneg s0] at this
  rw [this]; exact ⟨fun h => h.symm, fun h => h.symm⟩

set_option maxHeartbeats 2000000 in
theorem c_spec_CountSharings (p x n : Int) (A : Option Addr) (c B : Nat) (view : List Int) (w : World) (hx : SliceI w B A view.length view) (hmax : view.length ≤ maxLen) :
    Calls Try.prog 31 #[.int .i64 p, .int .i64 x, .int .i64 n, .slice A view.length c] w fun e w' => e = .returned (.int .i64 (countF p x n view)) ∧ w = w' := by
  have HX := Lib.hid hx
  have HM := Lib.hid hmax
  unfold maxLen at hmax
  clear hx
  cases h1 : isEl p x
  · have hfin := Lib.hid (countF_no (p := p) (x := x) (n := n) (view := view) (by simp [h1]))
    go_enter Try.func31, Try.ntmps31
    go_wp2_with (first | (go_at_call 47; (with_reducible refine (c_spec_IsElement _ _ _).mono ?_); rintro e w' ⟨rfl, rfl⟩) | (go_at_call 50; (with_reducible refine (c_spec_l01In _ _ _ _).mono ?_); rintro e w' ⟨rfl, rfl⟩) | (go_at_call 45; (with_reducible refine (c_spec_l03All _ _ _ _ _ _ _ HX.out HM.out).mono ?_); rintro e w' ⟨rfl, rfl⟩))
    go_ret
    exact ⟨ret_int hfin.out.symm, rfl⟩
  cases h2 : inB n 1 4
  · have hfin := Lib.hid (countF_no (p := p) (x := x) (n := n) (view := view) (by simp [h2]))
    go_enter Try.func31, Try.ntmps31
    go_wp2_with (first | (go_at_call 47; (with_reducible refine (c_spec_IsElement _ _ _).mono ?_); rintro e w' ⟨rfl, rfl⟩) | (go_at_call 50; (with_reducible refine (c_spec_l01In _ _ _ _).mono ?_); rintro e w' ⟨rfl, rfl⟩) | (go_at_call 45; (with_reducible refine (c_spec_l03All _ _ _ _ _ _ _ HX.out HM.out).mono ?_); rintro e w' ⟨rfl, rfl⟩))
    go_ret
    exact ⟨ret_int hfin.out.symm, rfl⟩
  have hn := inB_iff.1 h2
  have hn1 := hn.1
  have hn4 := hn.2
  clear hn
  by_cases h3 : n < (view.length : Int)
  · have hfin := Lib.hid (countF_no (p := p) (x := x) (n := n) (view := view) (by simp; intro _ _ h; omega))
    go_enter Try.func31, Try.ntmps31
    go_wp2_with (first | (go_at_call 47; (with_reducible refine (c_spec_IsElement _ _ _).mono ?_); rintro e w' ⟨rfl, rfl⟩) | (go_at_call 50; (with_reducible refine (c_spec_l01In _ _ _ _).mono ?_); rintro e w' ⟨rfl, rfl⟩) | (go_at_call 45; (with_reducible refine (c_spec_l03All _ _ _ _ _ _ _ HX.out HM.out).mono ?_); rintro e w' ⟨rfl, rfl⟩))
    go_ret
    exact ⟨ret_int hfin.out.symm, rfl⟩
  cases h4 : allEl p view
  · have hfin := Lib.hid (countF_no (p := p) (x := x) (n := n) (view := view) (by simp [h4]))
    go_enter Try.func31, Try.ntmps31
    go_wp2_with (first | (go_at_call 47; (with_reducible refine (c_spec_IsElement _ _ _).mono ?_); rintro e w' ⟨rfl, rfl⟩) | (go_at_call 50; (with_reducible refine (c_spec_l01In _ _ _ _).mono ?_); rintro e w' ⟨rfl, rfl⟩) | (go_at_call 45; (with_reducible refine (c_spec_l03All _ _ _ _ _ _ _ HX.out HM.out).mono ?_); rintro e w' ⟨rfl, rfl⟩))
    go_ret
    exact ⟨ret_int hfin.out.symm, rfl⟩
  by_cases h5 : 13 < p
  · have hfin := Lib.hid (countF_no (p := p) (x := x) (n := n) (view := view) (by simp; intro _ _ _ _; omega))
    go_enter Try.func31, Try.ntmps31
    go_wp2_with (first | (go_at_call 47; (with_reducible refine (c_spec_IsElement _ _ _).mono ?_); rintro e w' ⟨rfl, rfl⟩) | (go_at_call 50; (with_reducible refine (c_spec_l01In _ _ _ _).mono ?_); rintro e w' ⟨rfl, rfl⟩) | (go_at_call 45; (with_reducible refine (c_spec_l03All _ _ _ _ _ _ _ HX.out HM.out).mono ?_); rintro e w' ⟨rfl, rfl⟩))
    go_ret
    exact ⟨ret_int hfin.out.symm, rfl⟩
  have hfin := Lib.hid (countF_yes (p := p) (x := x) (n := n) (view := view) h1 h2 (by omega) h4 (by omega))
  have hp2 := (allEl_field h4).1
  obtain ⟨m, hm⟩ : ∃ m : Nat, n - (view.length : Int) = (m : Int) := ⟨(n - (view.length : Int)).toNat, by omega⟩
  rw [hm, Int.toNat_natCast] at hfin
  have hm4 : m ≤ 4 := by omega
  have HE := Lib.hid (fsub_el h1 (fsum_el h4))
  go_enter Try.func31, Try.ntmps31
  go_wp2_with (first | (go_at_call 47; (with_reducible refine (c_spec_IsElement _ _ _).mono ?_); rintro e w' ⟨rfl, rfl⟩) | (go_at_call 50; (with_reducible refine (c_spec_l01In _ _ _ _).mono ?_); rintro e w' ⟨rfl, rfl⟩) | (go_at_call 45; (with_reducible refine (c_spec_l03All _ _ _ _ _ _ _ HX.out HM.out).mono ?_); rintro e w' ⟨rfl, rfl⟩) | (go_at_call 15; (with_reducible refine (c_spec_FSum _ _ _ _ _ _ _ HX.out HM.out).mono ?_); rintro e w' ⟨rfl, rfl⟩) | (go_at_call 58; (with_reducible refine (c_spec_FSub _ _ _ _).mono ?_); rintro e w' ⟨rfl, rfl⟩) | (go_at_call 57; (with_reducible refine (c_spec_l06Count _ (by omega) _ _ _ hm4 HE.out).mono ?_); rintro e w' ⟨rfl, rfl⟩))
  go_ret
  exact ⟨ret_int hfin.out.symm, rfl⟩
set_option maxHeartbeats 2000000 in
theorem c_impl_CountSharings (p x n : Int) (A : Option Addr) (c B : Nat) (view : List Int) (w : World) (hx : SliceI w B A view.length view) (hmax : view.length ≤ maxLen) :
    Calls Try.prog 32 #[.int .i64 p, .int .i64 x, .int .i64 n, .slice A view.length c] w fun e w' => e = .returned (.int .i64 (countF p x n view)) ∧ w = w' := by
  have HX := Lib.hid hx
  have HM := Lib.hid hmax
  unfold maxLen at hmax
  clear hx
  cases h1 : isEl p x
  · have hfin := Lib.hid (countF_no (p := p) (x := x) (n := n) (view := view) (by simp [h1]))
    go_enter Try.func32, Try.ntmps32
    go_wp2_with (first | (go_at_call 49; (with_reducible refine (c_impl_IsElement _ _ _).mono ?_); rintro e w' ⟨rfl, rfl⟩) | (go_at_call 51; (with_reducible refine (c_impl_within _ _ _ _).mono ?_); rintro e w' ⟨rfl, rfl⟩) | (go_at_call 46; (with_reducible refine (c_impl_areElements _ _ _ _ _ _ _ HX.out HM.out).mono ?_); rintro e w' ⟨rfl, rfl⟩))
    go_ret
    exact ⟨ret_int hfin.out.symm, rfl⟩
  cases h2 : inB n 1 4
  · have hfin := Lib.hid (countF_no (p := p) (x := x) (n := n) (view := view) (by simp [h2]))
    go_enter Try.func32, Try.ntmps32
    go_wp2_with (first | (go_at_call 49; (with_reducible refine (c_impl_IsElement _ _ _).mono ?_); rintro e w' ⟨rfl, rfl⟩) | (go_at_call 51; (with_reducible refine (c_impl_within _ _ _ _).mono ?_); rintro e w' ⟨rfl, rfl⟩) | (go_at_call 46; (with_reducible refine (c_impl_areElements _ _ _ _ _ _ _ HX.out HM.out).mono ?_); rintro e w' ⟨rfl, rfl⟩))
    go_ret
    exact ⟨ret_int hfin.out.symm, rfl⟩
  have hn := inB_iff.1 h2
  have hn1 := hn.1
  have hn4 := hn.2
  clear hn
  by_cases h3 : n < (view.length : Int)
  · have hfin := Lib.hid (countF_no (p := p) (x := x) (n := n) (view := view) (by simp; intro _ _ h; omega))
    go_enter Try.func32, Try.ntmps32
    go_wp2_with (first | (go_at_call 49; (with_reducible refine (c_impl_IsElement _ _ _).mono ?_); rintro e w' ⟨rfl, rfl⟩) | (go_at_call 51; (with_reducible refine (c_impl_within _ _ _ _).mono ?_); rintro e w' ⟨rfl, rfl⟩) | (go_at_call 46; (with_reducible refine (c_impl_areElements _ _ _ _ _ _ _ HX.out HM.out).mono ?_); rintro e w' ⟨rfl, rfl⟩))
    go_ret
    exact ⟨ret_int hfin.out.symm, rfl⟩
  cases h4 : allEl p view
  · have hfin := Lib.hid (countF_no (p := p) (x := x) (n := n) (view := view) (by simp [h4]))
    go_enter Try.func32, Try.ntmps32
    go_wp2_with (first | (go_at_call 49; (with_reducible refine (c_impl_IsElement _ _ _).mono ?_); rintro e w' ⟨rfl, rfl⟩) | (go_at_call 51; (with_reducible refine (c_impl_within _ _ _ _).mono ?_); rintro e w' ⟨rfl, rfl⟩) | (go_at_call 46; (with_reducible refine (c_impl_areElements _ _ _ _ _ _ _ HX.out HM.out).mono ?_); rintro e w' ⟨rfl, rfl⟩))
    go_ret
    exact ⟨ret_int hfin.out.symm, rfl⟩
  by_cases h5 : 13 < p
  · have hfin := Lib.hid (countF_no (p := p) (x := x) (n := n) (view := view) (by simp; intro _ _ _ _; omega))
    go_enter Try.func32, Try.ntmps32
    go_wp2_with (first | (go_at_call 49; (with_reducible refine (c_impl_IsElement _ _ _).mono ?_); rintro e w' ⟨rfl, rfl⟩) | (go_at_call 51; (with_reducible refine (c_impl_within _ _ _ _).mono ?_); rintro e w' ⟨rfl, rfl⟩) | (go_at_call 46; (with_reducible refine (c_impl_areElements _ _ _ _ _ _ _ HX.out HM.out).mono ?_); rintro e w' ⟨rfl, rfl⟩))
    go_ret
    exact ⟨ret_int hfin.out.symm, rfl⟩
  have hfin := Lib.hid (countF_yes (p := p) (x := x) (n := n) (view := view) h1 h2 (by omega) h4 (by omega))
  have hp2 := (allEl_field h4).1
  by_cases h6 : (view.length : Int) = n
  · subst h6
    have hs := Lib.hid (fsub_self h1 (fsum_el h4))
    cases h7 : (fsum p view == x)
    · have hres : Hid (countF p x (view.length : Int) view = 0) := by
        show countF p x (view.length : Int) view = 0
        rw [hfin.out, Int.sub_self]
        simp only [Int.toNat_zero, cntv]
        rw [if_neg (fun h => by rw [hs.out.1 h] at h7; simp at h7)]
      have h8 : ((view.length : Int) == (view.length : Int)) = true := by simp
      go_enter Try.func32, Try.ntmps32
      go_wp2_with (first | (go_at_call 49; (with_reducible refine (c_impl_IsElement _ _ _).mono ?_); rintro e w' ⟨rfl, rfl⟩) | (go_at_call 51; (with_reducible refine (c_impl_within _ _ _ _).mono ?_); rintro e w' ⟨rfl, rfl⟩) | (go_at_call 46; (with_reducible refine (c_impl_areElements _ _ _ _ _ _ _ HX.out HM.out).mono ?_); rintro e w' ⟨rfl, rfl⟩) | (go_at_call 17; (with_reducible refine (c_impl_FSum _ _ _ _ _ _ _ HX.out HM.out).mono ?_); rintro e w' ⟨rfl, rfl⟩))
      go_ret
      exact ⟨ret_int hres.out.symm, rfl⟩
    · have hres : Hid (countF p x (view.length : Int) view = 1) := by
        show countF p x (view.length : Int) view = 1
        rw [hfin.out, Int.sub_self]
        simp only [Int.toNat_zero, cntv]
        rw [if_pos (hs.out.2 (by simpa using h7))]
      have h8 : ((view.length : Int) == (view.length : Int)) = true := by simp
      go_enter Try.func32, Try.ntmps32
      go_wp2_with (first | (go_at_call 49; (with_reducible refine (c_impl_IsElement _ _ _).mono ?_); rintro e w' ⟨rfl, rfl⟩) | (go_at_call 51; (with_reducible refine (c_impl_within _ _ _ _).mono ?_); rintro e w' ⟨rfl, rfl⟩) | (go_at_call 46; (with_reducible refine (c_impl_areElements _ _ _ _ _ _ _ HX.out HM.out).mono ?_); rintro e w' ⟨rfl, rfl⟩) | (go_at_call 17; (with_reducible refine (c_impl_FSum _ _ _ _ _ _ _ HX.out HM.out).mono ?_); rintro e w' ⟨rfl, rfl⟩))
      go_ret
      exact ⟨ret_int hres.out.symm, rfl⟩
  · have h8 : ((view.length : Int) == n) = false := by simpa using h6
    obtain ⟨m, hm⟩ : ∃ m : Nat, n - (view.length : Int) = ((m + 1 : Nat) : Int) := ⟨(n - (view.length : Int) - 1).toNat, by omega⟩
    rw [hm, Int.toNat_natCast] at hfin
    have hm4 : m ≤ 3 := by omega
    obtain ⟨n', rfl⟩ : ∃ n' : Nat, n = (n' : Int) := ⟨n.toNat, by omega⟩
    have hnm : n' = view.length + m + 1 := by omega
    have HNM := Lib.hid hnm
    have hle : view.length + m + 1 ≤ n' := by omega
    have hge : n' ≤ view.length + m + 1 := by omega
    clear hnm hm
    go_enter Try.func32, Try.ntmps32
    go_wp2_with (first | (go_at_call 49; (with_reducible refine (c_impl_IsElement _ _ _).mono ?_); rintro e w' ⟨rfl, rfl⟩) | (go_at_call 51; (with_reducible refine (c_impl_within _ _ _ _).mono ?_); rintro e w' ⟨rfl, rfl⟩) | (go_at_call 46; (with_reducible refine (c_impl_areElements _ _ _ _ _ _ _ HX.out HM.out).mono ?_); rintro e w' ⟨rfl, rfl⟩))
    go_loop [9, 10] (fun s i => ∃ k : Nat, k ≤ m ∧ i = .int .i64 ((view.length + k : Nat) : Int) ∧ s = .int .i64 (p ^ k)) (fun _ i => n' - (intOf i).toNat)
    case atStart => exact ⟨0, by omega, rfl, by rw [Int.pow_zero]⟩
    case round =>
      obtain ⟨k, hk, rfl, rfl⟩ := hrel
      obtain ⟨b1, b2⟩ := pow_bound hp2 (show p ≤ 13 by omega) k (by omega)
      by_cases hlt : k < m
      · obtain ⟨d1, d2⟩ := pow_bound hp2 (show p ≤ 13 by omega) (k + 1) (by omega)
        have e := Lib.hid (Int.pow_succ p k)
        rw [e.out] at d1 d2
        generalize p ^ k = s at b1 b2 d1 d2 e
        have hlt' : ((view.length + k : Nat) : Int) < (n' : Int) - 1 := by omega
        go_wp2_with fail
        go_round
        case rel => exact ⟨k + 1, by omega, by go_num, by rw [e.out]⟩
        case measure => simp [intOf]; omega
      · obtain rfl : k = m := by omega
        have hres : Hid (p ^ k = countF p x (n' : Int) view) := by
          show p ^ k = countF p x (n' : Int) view
          rw [hfin.out]; rfl
        generalize p ^ k = s at b1 b2 hres
        have hlt' : ¬ ((view.length + k : Nat) : Int) < (n' : Int) - 1 := by omega
        go_wp2_with fail
        go_ret
        exact ⟨ret_int hres.out, rfl⟩
end Go.Proofs.Ytagocjdodgolkaa

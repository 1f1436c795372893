/- The walks of the functions on lists of field elements: sums and values of polynomials. -/
import Derived.Test.YtagocjdodgolkaaRows
import Derived.Test.YtagocjdodgolkaaPlain
import Derived.Test.YtagocjdodgolkaaMem
import Derived.Test.YtagocjdodgolkaaWords
import Derived.Test.YtagocjdodgolkaaField
import Derived.WalkKit
import Derived.WalkSpells
import Derived.WalkLawsBesides
import Derived.Lib.Hide
namespace Go.Proofs.Ytagocjdodgolkaa
open Go.RowKit

def sumGo (p : Int) (xs : List Int) : Int := xs.foldl (fun s a => (s + a) % p) 0
def fsum (p : Int) (xs : List Int) : Int := if allEl p xs then sumGo p xs else -1
def horner (p x : Int) (cs : List Int) : Int := cs.foldr (fun c y => (y * x + c) % p) 0
def polyAt (p : Int) (cs : List Int) (x : Int) : Int := if isEl p x && allEl p cs then horner p x cs else -1
def openAdd (p : Int) (xs : List Int) : Int := if inB xs.length 1 5 then fsum p xs else -1
theorem emod_el {p a : Int} (hp : 2 ≤ p) : 0 ≤ a % p ∧ a % p ≤ p - 1 := ⟨Int.emod_nonneg _ (by omega), by have := Int.emod_lt_of_pos a (show 0 < p by omega); omega⟩
theorem sumGo_el {p : Int} (hp : 2 ≤ p) (xs : List Int) : 0 ≤ sumGo p xs ∧ sumGo p xs ≤ p - 1 := by
  unfold sumGo
  rcases List.eq_nil_or_concat xs with rfl | ⟨ys, a, rfl⟩
  · exact ⟨by simp, by simp; omega⟩
  · rw [List.concat_eq_append, List.foldl_append]; exact emod_el hp
theorem horner_el {p : Int} (hp : 2 ≤ p) (x : Int) (cs : List Int) : 0 ≤ horner p x cs ∧ horner p x cs ≤ p - 1 := by
  unfold horner
  cases cs with
  | nil => exact ⟨by simp, by simp; omega⟩
  | cons a cs => rw [List.foldr_cons]; exact emod_el hp
theorem sumGo_step {p : Int} {xs : List Int} {k : Nat} (hk : k < xs.length) : sumGo p (xs.take (k + 1)) = (sumGo p (xs.take k) + xs.getD k 0) % p := by
  rw [List.take_succ_eq_append_getElem hk, sumGo, List.foldl_append, List.getD_eq_getElem?_getD, List.getElem?_eq_getElem hk]; rfl
theorem horner_step {p x : Int} {cs : List Int} {k : Nat} (hk : k < cs.length) : horner p x (cs.drop k) = (horner p x (cs.drop (k + 1)) * x + cs.getD k 0) % p := by
  rw [List.drop_eq_getElem_cons hk, horner, List.foldr_cons, List.getD_eq_getElem?_getD, List.getElem?_eq_getElem hk]; rfl
theorem allEl_get {p : Int} {xs : List Int} {k : Nat} (h : allEl p xs = true) (hk : k < xs.length) : 0 ≤ xs.getD k 0 ∧ xs.getD k 0 ≤ p - 1 := by
  rw [List.getD_eq_getElem?_getD, List.getElem?_eq_getElem hk]
  exact (allEl_iff.1 h).2 _ (List.getElem_mem hk)
theorem allEl_field {p : Int} {xs : List Int} (h : allEl p xs = true) : 2 ≤ p ∧ p ≤ 101 := fieldOk_range (allEl_iff.1 h).1
theorem allEl_not_field {p : Int} {xs : List Int} (h : fieldOk p = false) : allEl p xs = false := by simp [allEl, h]

set_option maxHeartbeats 1000000 in
theorem c_spec_l03All (p : Int) (A : Option Addr) (n c B : Nat) (xs : List Int) (w : World) (hx : SliceI w B A n xs) (hmax : n ≤ maxLen) :
    Calls Try.prog 45 #[.int .i64 p, .slice A n c] w fun e w' => e = .returned (.bool (allEl p xs)) ∧ w = w' := by
  unfold maxLen at hmax
  have HX := Lib.hid hx
  have hl := Lib.hid hx.len
  clear hx
  go_enter Try.func45, Try.ntmps45
  go_wp2_with fail
  go_loop [5] (fun i => ∃ k : Nat, k ≤ n ∧ i = .int .i64 k ∧ allIn p (xs.take k) = true) (fun i => n - (intOf i).toNat)
  case atStart => exact ⟨0, by omega, rfl, rfl⟩
  case round =>
    obtain ⟨k, hk, rfl, hin⟩ := hrel
    have HIN := Lib.hid hin
    clear hin
    by_cases hlt : k < n
    · obtain ⟨b, off, rfl, hbB, hc⟩ := HX.out.at_ hlt
      have hgood := fun hb => Lib.hid (allIn_take (p := p) (xs := xs) (k := k) (by rw [hl.out]; exact hlt) HIN.out hb)
      have hbad := fun hb => Lib.hid (allEl_bad (p := p) (xs := xs) (k := k) (by rw [hl.out]; exact hlt) hb)
      generalize xs.getD k 0 = x at hc hgood hbad
      cases hb : isEl p x
      · have hfin : Hid (allEl p xs = false) := by
          simp only [isEl, Bool.and_eq_false_iff] at hb
          rcases hb with hb | hb
          · exact allEl_not_field hb
          · exact (hbad hb).out
        clear hbad hgood
        go_wp2_with (go_at_call 47; (with_reducible refine (c_spec_IsElement _ _ _).mono ?_); rintro e w' ⟨rfl, rfl⟩)
        go_ret
        exact ⟨ret_bool hfin.out.symm, rfl⟩
      · have hfin : Hid (allIn p (xs.take (k + 1)) = true) := by
          simp only [isEl, Bool.and_eq_true] at hb
          exact (hgood hb.2).out
        clear hbad hgood
        go_wp2_with (go_at_call 47; (with_reducible refine (c_spec_IsElement _ _ _).mono ?_); rintro e w' ⟨rfl, rfl⟩)
        go_round
        case rel => exact ⟨k + 1, by omega, by go_num, hfin.out⟩
        case measure => simp [intOf]; omega
    · have hfin := Lib.hid (show fieldOk p = allEl p xs by
        have e := HIN.out
        rw [List.take_of_length_le (by rw [hl.out]; omega)] at e
        simp [allEl, e])
      go_wp2_with (go_at_call 68; (with_reducible refine (c_spec_FieldOk _ _).mono ?_); rintro e w' ⟨rfl, rfl⟩)
      go_ret
      exact ⟨ret_bool hfin.out, rfl⟩
set_option maxHeartbeats 1000000 in
theorem c_spec_FSum (p : Int) (A : Option Addr) (n c B : Nat) (xs : List Int) (w : World) (hx : SliceI w B A n xs) (hmax : n ≤ maxLen) :
    Calls Try.prog 15 #[.int .i64 p, .slice A n c] w fun e w' => e = .returned (.int .i64 (fsum p xs)) ∧ w = w' := by
  have HX := Lib.hid hx
  have hl := Lib.hid hx.len
  have HM := Lib.hid hmax
  unfold maxLen at hmax
  clear hx
  cases hall : allEl p xs
  · have hfin := Lib.hid (show fsum p xs = -1 by simp [fsum, hall])
    go_enter Try.func15, Try.ntmps15
    go_wp2_with (go_at_call 45; (with_reducible refine (c_spec_l03All _ _ _ _ _ _ _ HX.out HM.out).mono ?_); rintro e w' ⟨rfl, rfl⟩)
    go_ret
    exact ⟨ret_int hfin.out.symm, rfl⟩
  · have hfin := Lib.hid (show sumGo p xs = fsum p xs by simp [fsum, hall])
    obtain ⟨hp2, hp1⟩ := allEl_field hall
    go_enter Try.func15, Try.ntmps15
    go_wp2_with (go_at_call 45; (with_reducible refine (c_spec_l03All _ _ _ _ _ _ _ HX.out HM.out).mono ?_); rintro e w' ⟨rfl, rfl⟩)
    go_loop [5, 6] (fun s i => ∃ k : Nat, k ≤ n ∧ i = .int .i64 k ∧ s = .int .i64 (sumGo p (xs.take k))) (fun _ i => n - (intOf i).toNat)
    case atStart => exact ⟨0, by omega, rfl, rfl⟩
    case round =>
      obtain ⟨k, hk, rfl, rfl⟩ := hrel
      obtain ⟨hs0, hs1⟩ := sumGo_el hp2 (xs.take k)
      by_cases hlt : k < n
      · obtain ⟨b, off, rfl, hbB, hc⟩ := HX.out.at_ hlt
        obtain ⟨hx0, hx1⟩ := allEl_get hall (k := k) (by rw [hl.out]; exact hlt)
        have hst := Lib.hid (sumGo_step (p := p) (xs := xs) (k := k) (by rw [hl.out]; exact hlt))
        generalize xs.getD k 0 = x at hc hx0 hx1 hst
        generalize sumGo p (xs.take k) = s at hs0 hs1 hst
        go_wp2_with fail
        go_round
        case rel => exact ⟨k + 1, by omega, by go_num, by rw [hst.out]⟩
        case measure => simp [intOf]; omega
      · obtain rfl : k = n := by omega
        have e := Lib.hid (show sumGo p (xs.take k) = fsum p xs by rw [List.take_of_length_le (by rw [hl.out]; omega)]; exact hfin.out)
        generalize sumGo p (xs.take k) = s at hs0 hs1 e
        go_wp2_with fail
        go_ret
        exact ⟨ret_int e.out, rfl⟩
set_option maxHeartbeats 1000000 in
theorem c_impl_FSum (p : Int) (A : Option Addr) (n c B : Nat) (xs : List Int) (w : World) (hx : SliceI w B A n xs) (hmax : n ≤ maxLen) :
    Calls Try.prog 17 #[.int .i64 p, .slice A n c] w fun e w' => e = .returned (.int .i64 (fsum p xs)) ∧ w = w' := by
  have HX := Lib.hid hx
  have hl := Lib.hid hx.len
  have HM := Lib.hid hmax
  unfold maxLen at hmax
  clear hx
  cases hall : allEl p xs
  · have hfin := Lib.hid (show fsum p xs = -1 by simp [fsum, hall])
    go_enter Try.func17, Try.ntmps17
    go_wp2_with (go_at_call 46; (with_reducible refine (c_impl_areElements _ _ _ _ _ _ _ HX.out HM.out).mono ?_); rintro e w' ⟨rfl, rfl⟩)
    go_ret
    exact ⟨ret_int hfin.out.symm, rfl⟩
  · have hfin := Lib.hid (show sumGo p xs = fsum p xs by simp [fsum, hall])
    obtain ⟨hp2, hp1⟩ := allEl_field hall
    go_enter Try.func17, Try.ntmps17
    go_wp2_with (go_at_call 46; (with_reducible refine (c_impl_areElements _ _ _ _ _ _ _ HX.out HM.out).mono ?_); rintro e w' ⟨rfl, rfl⟩)
    go_loop [5, 7, 14] (fun s _ i => ∃ k : Nat, k ≤ n ∧ i = .int .i64 k ∧ s = .int .i64 (sumGo p (xs.take k))) (fun _ _ i => n - (intOf i).toNat)
    case atStart => exact ⟨0, by omega, rfl, rfl⟩
    case round =>
      obtain ⟨k, hk, rfl, rfl⟩ := hrel
      obtain ⟨hs0, hs1⟩ := sumGo_el hp2 (xs.take k)
      by_cases hlt : k < n
      · obtain ⟨b, off, rfl, hbB, hc⟩ := HX.out.at_ hlt
        obtain ⟨hx0, hx1⟩ := allEl_get hall (k := k) (by rw [hl.out]; exact hlt)
        have hst := Lib.hid (sumGo_step (p := p) (xs := xs) (k := k) (by rw [hl.out]; exact hlt))
        generalize xs.getD k 0 = x at hc hx0 hx1 hst
        generalize sumGo p (xs.take k) = s at hs0 hs1 hst
        go_wp2_with fail
        go_round
        case rel => exact ⟨k + 1, by omega, by go_num, by rw [hst.out]⟩
        case measure => simp [intOf]; omega
      · obtain rfl : k = n := by omega
        have e := Lib.hid (show sumGo p (xs.take k) = fsum p xs by rw [List.take_of_length_le (by rw [hl.out]; omega)]; exact hfin.out)
        generalize sumGo p (xs.take k) = s at hs0 hs1 e
        go_wp2_with fail
        go_ret
        exact ⟨ret_int e.out, rfl⟩
set_option maxHeartbeats 1000000 in
theorem c_spec_l07At (p x : Int) (A : Option Addr) (n c B : Nat) (cs : List Int) (w : World) (hcs : SliceI w B A n cs) (hmax : n ≤ maxLen) (hall : allEl p cs = true) (hxx0 : 0 ≤ x) (hxx1 : x ≤ p - 1) :
    Calls Try.prog 48 #[.int .i64 p, .slice A n c, .int .i64 x] w fun e w' => e = .returned (.int .i64 (horner p x cs)) ∧ w = w' := by
  have HX := Lib.hid hcs
  have hl := Lib.hid hcs.len
  unfold maxLen at hmax
  clear hcs
  obtain ⟨hp2, hp1⟩ := allEl_field hall
  go_enter Try.func48, Try.ntmps48
  go_wp2_with fail
  go_loop [7, 8] (fun y i => ∃ k : Nat, k ≤ n ∧ i = .int .i64 ((k : Int) - 1) ∧ y = .int .i64 (horner p x (cs.drop k))) (fun _ i => (intOf i + 1).toNat)
  case atStart => exact ⟨n, by omega, rfl, by rw [List.drop_of_length_le (by rw [hl.out]; omega)]; rfl⟩
  case round =>
    obtain ⟨k, hk, rfl, rfl⟩ := hrel
    obtain ⟨hs0, hs1⟩ := horner_el hp2 x (cs.drop k)
    rcases Nat.eq_zero_or_pos k with rfl | hpos
    · have e := Lib.hid (show horner p x (cs.drop 0) = horner p x cs by rw [List.drop_zero])
      generalize horner p x (cs.drop 0) = s at hs0 hs1 e
      go_wp2_with fail
      go_ret
      exact ⟨ret_int e.out, rfl⟩
    · obtain ⟨j, rfl⟩ : ∃ j, k = j + 1 := ⟨k - 1, by omega⟩
      have hj : j < n := by omega
      obtain ⟨b, off, rfl, hbB, hc⟩ := HX.out.at_ hj
      obtain ⟨hx0, hx1⟩ := allEl_get hall (k := j) (by rw [hl.out]; exact hj)
      have hst := Lib.hid (horner_step (p := p) (x := x) (cs := cs) (k := j) (by rw [hl.out]; exact hj))
      generalize cs.getD j 0 = a at hc hx0 hx1 hst
      generalize horner p x (cs.drop (j + 1)) = s at hs0 hs1 hst
      obtain ⟨hm0, hm1⟩ := mul_bounds hp1 hs0 hs1 hxx0 hxx1
      rw [show ((j + 1 : Nat) : Int) - 1 = (j : Int) by omega]
      go_wp2_with fail
      go_round
      case rel => exact ⟨j, by omega, by first | rfl | go_num, by rw [hst.out]⟩
      case measure => simp [intOf]
set_option maxHeartbeats 1000000 in
theorem c_spec_PolyAt (p x : Int) (A : Option Addr) (n c B : Nat) (cs : List Int) (w : World) (hcs : SliceI w B A n cs) (hmax : n ≤ maxLen) :
    Calls Try.prog 19 #[.int .i64 p, .slice A n c, .int .i64 x] w fun e w' => e = .returned (.int .i64 (polyAt p cs x)) ∧ w = w' := by
  cases hall : allEl p cs
  · go_enter Try.func19, Try.ntmps19
    go_wp2_with (go_at_call 45; (with_reducible refine (c_spec_l03All _ _ _ _ _ _ _ hcs hmax).mono ?_); rintro e w' ⟨rfl, rfl⟩)
    go_ret
    exact ⟨ret_int (by simp [polyAt, hall]), rfl⟩
  · cases hex : isEl p x
    · go_enter Try.func19, Try.ntmps19
      go_wp2_with (first | (go_at_call 45; (with_reducible refine (c_spec_l03All _ _ _ _ _ _ _ hcs hmax).mono ?_); rintro e w' ⟨rfl, rfl⟩) | (go_at_call 47; (with_reducible refine (c_spec_IsElement _ _ _).mono ?_); rintro e w' ⟨rfl, rfl⟩))
      go_ret
      exact ⟨ret_int (by simp [polyAt, hex]), rfl⟩
    · obtain ⟨_, hxx0, hxx1⟩ := isEl_iff.1 hex
      go_enter Try.func19, Try.ntmps19
      go_wp2_with (first | (go_at_call 45; (with_reducible refine (c_spec_l03All _ _ _ _ _ _ _ hcs hmax).mono ?_); rintro e w' ⟨rfl, rfl⟩) | (go_at_call 47; (with_reducible refine (c_spec_IsElement _ _ _).mono ?_); rintro e w' ⟨rfl, rfl⟩) | (go_at_call 48; (with_reducible refine (c_spec_l07At _ _ _ _ _ _ _ _ hcs hmax hall hxx0 hxx1).mono ?_); rintro e w' ⟨rfl, rfl⟩))
      go_ret
      exact ⟨ret_int (by simp [polyAt, hall, hex]), rfl⟩
set_option maxHeartbeats 1000000 in
theorem c_impl_PolyAt (p x : Int) (A : Option Addr) (n c B : Nat) (cs : List Int) (w : World) (hcs : SliceI w B A n cs) (hmax : n ≤ maxLen) :
    Calls Try.prog 20 #[.int .i64 p, .slice A n c, .int .i64 x] w fun e w' => e = .returned (.int .i64 (polyAt p cs x)) ∧ w = w' := by
  have HX := Lib.hid hcs
  have hl := Lib.hid hcs.len
  have HM := Lib.hid hmax
  unfold maxLen at hmax
  clear hcs
  cases hex : isEl p x
  · have hfin := Lib.hid (show polyAt p cs x = -1 by simp [polyAt, hex])
    go_enter Try.func20, Try.ntmps20
    go_wp2_with (go_at_call 49; (with_reducible refine (c_impl_IsElement _ _ _).mono ?_); rintro e w' ⟨rfl, rfl⟩)
    go_ret
    exact ⟨ret_int hfin.out.symm, rfl⟩
  cases hall : allEl p cs
  · have hfin := Lib.hid (show polyAt p cs x = -1 by simp [polyAt, hall])
    go_enter Try.func20, Try.ntmps20
    go_wp2_with (first | (go_at_call 49; (with_reducible refine (c_impl_IsElement _ _ _).mono ?_); rintro e w' ⟨rfl, rfl⟩) | (go_at_call 46; (with_reducible refine (c_impl_areElements _ _ _ _ _ _ _ HX.out HM.out).mono ?_); rintro e w' ⟨rfl, rfl⟩))
    go_ret
    exact ⟨ret_int hfin.out.symm, rfl⟩
  · obtain ⟨_, hxx0, hxx1⟩ := isEl_iff.1 hex
    obtain ⟨hp2, hp1⟩ := allEl_field hall
    have hfin := Lib.hid (show horner p x cs = polyAt p cs x by simp [polyAt, hall, hex])
    go_enter Try.func20, Try.ntmps20
    go_wp2_with (first | (go_at_call 49; (with_reducible refine (c_impl_IsElement _ _ _).mono ?_); rintro e w' ⟨rfl, rfl⟩) | (go_at_call 46; (with_reducible refine (c_impl_areElements _ _ _ _ _ _ _ HX.out HM.out).mono ?_); rintro e w' ⟨rfl, rfl⟩))
    go_loop [7, 8] (fun y i => ∃ k : Nat, k ≤ n ∧ i = .int .i64 ((k : Int) - 1) ∧ y = .int .i64 (horner p x (cs.drop k))) (fun _ i => (intOf i + 1).toNat)
    case atStart => exact ⟨n, by omega, rfl, by rw [List.drop_of_length_le (by rw [hl.out]; omega)]; rfl⟩
    case round =>
      obtain ⟨k, hk, rfl, rfl⟩ := hrel
      obtain ⟨hs0, hs1⟩ := horner_el hp2 x (cs.drop k)
      rcases Nat.eq_zero_or_pos k with rfl | hpos
      · have e := Lib.hid (show horner p x (cs.drop 0) = horner p x cs by rw [List.drop_zero])
        generalize horner p x (cs.drop 0) = s at hs0 hs1 e
        go_wp2_with fail
        go_ret
        exact ⟨ret_int (e.out.trans hfin.out), rfl⟩
      · obtain ⟨j, rfl⟩ : ∃ j, k = j + 1 := ⟨k - 1, by omega⟩
        have hj : j < n := by omega
        obtain ⟨b, off, rfl, hbB, hc⟩ := HX.out.at_ hj
        obtain ⟨hx0, hx1⟩ := allEl_get hall (k := j) (by rw [hl.out]; exact hj)
        have hst := Lib.hid (horner_step (p := p) (x := x) (cs := cs) (k := j) (by rw [hl.out]; exact hj))
        generalize cs.getD j 0 = a at hc hx0 hx1 hst
        generalize horner p x (cs.drop (j + 1)) = s at hs0 hs1 hst
        obtain ⟨hm0, hm1⟩ := mul_bounds hp1 hs0 hs1 hxx0 hxx1
        rw [show ((j + 1 : Nat) : Int) - 1 = (j : Int) by omega]
        go_wp2_with fail
        go_round
        case rel => exact ⟨j, by omega, by first | rfl | go_num, by rw [hst.out]⟩
        case measure => simp [intOf]
set_option maxHeartbeats 400000 in
theorem c_impl_OpenAdd (p : Int) (A : Option Addr) (n c B : Nat) (xs : List Int) (w : World) (hx : SliceI w B A n xs) (hmax : n ≤ maxLen) :
    Calls Try.prog 22 #[.int .i64 p, .slice A n c] w fun e w' => e = .returned (.int .i64 (openAdd p xs)) ∧ w = w' := by
  have HX := Lib.hid hx
  have HM := Lib.hid hmax
  obtain ⟨rfl⟩ : xs.length = n := hx.len
  unfold maxLen at hmax
  clear hx
  cases hb : inB xs.length 1 5
  · go_enter Try.func22, Try.ntmps22
    go_wp2_with (go_at_call 51; (with_reducible refine (c_impl_within _ _ _ _).mono ?_); rintro e w' ⟨rfl, rfl⟩)
    go_ret
    exact ⟨ret_int (by simp [openAdd, hb]), rfl⟩
  · go_enter Try.func22, Try.ntmps22
    go_wp2_with (first | (go_at_call 51; (with_reducible refine (c_impl_within _ _ _ _).mono ?_); rintro e w' ⟨rfl, rfl⟩) | (go_at_call 17; (with_reducible refine (c_impl_FSum _ _ _ _ _ _ _ HX.out HM.out).mono ?_); rintro e w' ⟨rfl, rfl⟩))
    go_ret
    exact ⟨ret_int (by simp [openAdd, hb]), rfl⟩
set_option maxHeartbeats 400000 in
theorem c_spec_OpenAdd (p : Int) (A : Option Addr) (n c B : Nat) (xs : List Int) (w : World) (hx : SliceI w B A n xs) (hmax : n ≤ maxLen) :
    Calls Try.prog 21 #[.int .i64 p, .slice A n c] w fun e w' => e = .returned (.int .i64 (openAdd p xs)) ∧ w = w' := by
  have HX := Lib.hid hx
  have HM := Lib.hid hmax
  obtain ⟨rfl⟩ : xs.length = n := hx.len
  unfold maxLen at hmax
  clear hx
  cases hb : inB xs.length 1 5
  · go_enter Try.func21, Try.ntmps21
    go_wp2_with (go_at_call 50; (with_reducible refine (c_spec_l01In _ _ _ _).mono ?_); rintro e w' ⟨rfl, rfl⟩)
    go_ret
    exact ⟨ret_int (by simp [openAdd, hb]), rfl⟩
  · go_enter Try.func21, Try.ntmps21
    go_wp2_with (first | (go_at_call 50; (with_reducible refine (c_spec_l01In _ _ _ _).mono ?_); rintro e w' ⟨rfl, rfl⟩) | (go_at_call 15; (with_reducible refine (c_spec_FSum _ _ _ _ _ _ _ HX.out HM.out).mono ?_); rintro e w' ⟨rfl, rfl⟩))
    go_ret
    exact ⟨ret_int (by simp [openAdd, hb]), rfl⟩
end Go.Proofs.Ytagocjdodgolkaa

/- Additive shares open to their value, also after sums, products and additions of constants. No program in sight. -/
import Derived.Test.YtknepofclgjmiaaAlg
import Derived.Test.YtknepofclgjmiaaShares
import Derived.Test.YtknepofclgjmiaaShareAdd
namespace Go.Proofs.Ytknepofclgjmiaa
open Go.RowKit

def isum : List Int → Int
  | [] => 0
  | x :: xs => x + isum xs
theorem isum_app : ∀ xs ys : List Int, isum (xs ++ ys) = isum xs + isum ys
  | [], _ => by simp [isum]
  | x :: xs, ys => by simp only [List.cons_append, isum, isum_app xs ys]; omega
theorem sumGo_isum (p : Int) : ∀ (xs : List Int) (s : Int), (xs.foldl (fun s a => (s + a) % p) s) % p = (s + isum xs) % p
  | [], s => by simp [isum]
  | x :: xs, s => by
    simp only [List.foldl_cons, isum]
    rw [sumGo_isum p xs, Int.add_emod, Int.emod_emod_of_dvd _ (Int.dvd_refl p), ← Int.add_emod, Int.add_assoc]
theorem fsum_isum {p : Int} {xs : List Int} (h : allEl p xs = true) : fsum p xs = isum xs % p := by
  unfold fsum
  rw [if_pos h]
  have hf := fieldOk_range (allEl_iff.1 h).1
  have hb := sumGo_el hf.1 xs
  have e := sumGo_isum p xs 0
  rw [Int.zero_add] at e
  rw [← e]
  exact (Int.emod_eq_of_lt hb.1 (by have := hb.2; unfold sumGo at this; omega)).symm
theorem allEl_at' {p : Int} {xs : List Int} (h : allEl p xs = true) {a : Int} (ha : a ∈ xs) : isEl p a = true := isEl_iff.2 ⟨(allEl_iff.1 h).1, (allEl_iff.1 h).2 a ha⟩
theorem allEl_of {p : Int} {xs : List Int} (hf : fieldOk p = true) (h : ∀ a ∈ xs, isEl p a = true) : allEl p xs = true := allEl_iff.2 ⟨hf, fun a ha => (isEl_iff.1 (h a ha)).2⟩
theorem isum_zip {p : Int} : ∀ xs ys : List Int, xs.length = ys.length → (∀ a ∈ xs, isEl p a = true) → (∀ a ∈ ys, isEl p a = true) → isum (List.zipWith (fadd p) xs ys) % p = (isum xs + isum ys) % p
  | [], [], _, _, _ => by simp [isum]
  | [], _ :: _, h, _, _ => by simp at h
  | _ :: _, [], h, _, _ => by simp at h
  | x :: xs, y :: ys, h, hx, hy => by
    simp only [List.zipWith_cons_cons, isum]
    rw [fadd_eq (hx x (by simp)) (hy y (by simp)), Int.add_emod, isum_zip xs ys (by simpa using h) (fun a ha => hx a (by simp [ha])) (fun a ha => hy a (by simp [ha])), Int.emod_emod_of_dvd _ (Int.dvd_refl p), ← Int.add_emod]
    congr 1; omega
theorem isum_map {p k : Int} (hk : isEl p k = true) : ∀ xs : List Int, (∀ a ∈ xs, isEl p a = true) → isum (xs.map fun x => fmul p x k) % p = isum xs * k % p
  | [], _ => by simp [isum]
  | x :: xs, hx => by
    simp only [List.map_cons, isum]
    rw [fmul_eq (hx x (by simp)) hk, Int.add_emod, isum_map hk xs (fun a ha => hx a (by simp [ha])), Int.emod_emod_of_dvd _ (Int.dvd_refl p), ← Int.add_emod, Int.add_mul]
theorem mem_zip {f : Int → Int → Int} : ∀ xs ys : List Int, ∀ a ∈ List.zipWith f xs ys, ∃ x ∈ xs, ∃ y ∈ ys, a = f x y
  | [], _, a, h => by simp at h
  | _ :: _, [], a, h => by simp at h
  | x :: xs, y :: ys, a, h => by
    simp only [List.zipWith_cons_cons, List.mem_cons] at h
    rcases h with rfl | h
    · exact ⟨x, by simp, y, by simp, rfl⟩
    · obtain ⟨x', hx, y', hy, e⟩ := mem_zip xs ys a h
      exact ⟨x', by simp [hx], y', by simp [hy], e⟩

/-- A is a list of n shares of x -/
def AddShare (p x : Int) (n : Nat) (A : List Int) : Prop := A.length = n ∧ allEl p A = true ∧ isum A % p = x
theorem AddShare.opens {p x : Int} {n : Nat} {A : List Int} (h : AddShare p x n A) (h1 : 1 ≤ n) (h5 : n ≤ 5) : openAdd p A = x := by
  unfold openAdd
  rw [h.1, if_pos (inB_iff.2 (by omega)), fsum_isum h.2.1, h.2.2]
theorem AddShare.share {p x s t : Int} {n : Nat} (hf : fieldOk p = true) (hx : isEl p x = true) (h1 : 1 ≤ n) (h5 : n ≤ 5) (hs : 0 ≤ s ∧ s ≤ 4294967295) (ht : 0 ≤ t ∧ t ≤ 900000) :
    AddShare p x n (shareF p x (n : Int) s t) ∧ shareN p x (n : Int) s t = t + ((n : Int) - 1) := by
  have hb := fieldOk_range hf
  have e : (n : Int) - 1 = ((n - 1 : Nat) : Int) := by omega
  have h2 : tapeLok s t p ((n : Int) - 1) = true := by
    simp only [tapeLok, Bool.and_eq_true, inB_iff, tapeOk_iff, decide_eq_true_eq]; omega
  have hok : shareOk p x (n : Int) s t = true := by
    simp only [shareOk, Bool.and_eq_true, inB_iff, decide_eq_true_eq, tapeLow, tapeOk_iff]
    exact ⟨⟨hx, by omega⟩, by omega⟩
  have hL : tapeLF s t p ((n : Int) - 1) = tapeL s t p (n - 1) := by unfold tapeLF; rw [if_pos h2, e, Int.toNat_natCast]
  have hel : allEl p (tapeL s t p (n - 1)) = true := allEl_of hf fun a ha => by
    simp only [tapeL, List.mem_map, List.mem_range] at ha
    obtain ⟨i, _, rfl⟩ := ha
    exact el_mod hf _
  constructor
  · unfold shareF
    rw [if_pos hok, hL, fsum_isum hel, fsub_eq hx (el_mod hf _)]
    refine ⟨by rw [List.length_append, tapeL_len]; simp; omega, allEl_of hf fun a ha => ?_, ?_⟩
    · rcases List.mem_append.1 ha with h | h
      · exact allEl_at' hel h
      · simp at h; subst h; exact el_mod hf _
    · rw [isum_app]
      show (isum (tapeL s t p (n - 1)) + ((x - isum (tapeL s t p (n - 1)) % p) % p + 0)) % p = x
      generalize isum (tapeL s t p (n - 1)) = u
      rw [Int.add_zero, Int.add_emod, Int.emod_emod_of_dvd _ (Int.dvd_refl p), Int.sub_emod, Int.emod_emod_of_dvd u (Int.dvd_refl p), ← Int.sub_emod, ← Int.add_emod, show u + (x - u) = x by omega, el_same hx]
  · unfold shareN
    rw [if_pos hok]
    unfold tapeLN
    rw [if_pos h2]
theorem AddShare.add {p x y : Int} {n : Nat} {A B : List Int} (ha : AddShare p x n A) (hb : AddShare p y n B) : AddShare p ((x + y) % p) n (addF p A B) := by
  have hl : A.length = B.length := ha.1.trans hb.1.symm
  rw [addF_yes ⟨hl, ha.2.1, hb.2.1⟩]
  refine ⟨by rw [List.length_zipWith, ha.1, hb.1]; omega, allEl_of (allEl_iff.1 ha.2.1).1 fun a h => ?_, ?_⟩
  · obtain ⟨u, hu, v, hv, rfl⟩ := mem_zip _ _ a h
    exact el_fadd (allEl_at' ha.2.1 hu) (allEl_at' hb.2.1 hv)
  · rw [isum_zip A B hl (fun a h => allEl_at' ha.2.1 h) (fun a h => allEl_at' hb.2.1 h), Int.add_emod, ha.2.2, hb.2.2]
theorem AddShare.scale {p x k : Int} {n : Nat} {A : List Int} (ha : AddShare p x n A) (hk : isEl p k = true) : AddShare p (x * k % p) n (scaleF p A k) := by
  unfold scaleF
  rw [if_pos (by simp [hk, ha.2.1])]
  refine ⟨by rw [List.length_map]; exact ha.1, allEl_of (el_field hk) fun a h => ?_, ?_⟩
  · obtain ⟨u, hu, rfl⟩ := List.mem_map.1 h
    exact el_fmul (allEl_at' ha.2.1 hu) hk
  · rw [isum_map hk A (fun a h => allEl_at' ha.2.1 h), ← mod_l, ha.2.2]
theorem AddShare.const {p x k : Int} {n : Nat} {A : List Int} (ha : AddShare p x n A) (hk : isEl p k = true) (h1 : 1 ≤ n) : AddShare p ((x + k) % p) n (addConstF p A k) := by
  have hl := ha.1
  rw [addConst_yes (by omega) hk ha.2.1]
  match A, ha, hl with
  | [], _, hl => simp at hl; omega
  | a :: xs, ha, hl =>
    have hae := allEl_at' ha.2.1 (show a ∈ a :: xs by simp)
    have e : (a :: xs).set 0 (fadd p ((a :: xs).getD 0 0) k) = fadd p a k :: xs := rfl
    rw [e]
    refine ⟨by simpa using hl, allEl_of (el_field hk) fun b hb => ?_, ?_⟩
    · rcases List.mem_cons.1 hb with rfl | hb
      · exact el_fadd hae hk
      · exact allEl_at' ha.2.1 (by simp [hb])
    · have h3 := ha.2.2
      simp only [isum] at h3 ⊢
      rw [fadd_eq hae hk, ← h3, Int.add_emod, Int.emod_emod_of_dvd _ (Int.dvd_refl p), ← Int.add_emod, Int.emod_add_emod]
      congr 1; omega
end Go.Proofs.Ytknepofclgjmiaa

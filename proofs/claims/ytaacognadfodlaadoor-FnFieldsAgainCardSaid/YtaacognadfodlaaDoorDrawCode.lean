/- 'append([]byte{u}, code...)': the drawn code with one byte ahead. -/
import Derived.Test.YtaacognadfodlaaDoorDrawWord
namespace Go.Proofs.YtaacognadfodlaaDoor
open Go.RowKit

theorem byte_info : (Tryd.prog.info? 5).map (fun i => (i.zero, i.size, i.bytes)) = some (some (.int .u8 0), 1, 1) := by kernel_rfl
/-- the bytes of a slice as a list -/
theorem SliceU.list {w : World} {B n : Nat} {A : Option Addr} (h : SliceU w B A n) : ∃ zs : List Int, zs.length = n ∧ (∀ z ∈ zs, 0 ≤ z ∧ z ≤ 255) ∧ (0 < n → ∃ b off, A = some ⟨b, off, none⟩ ∧ b < B ∧ ∀ k, k < n → w.cell? ⟨b, off + k, none⟩ = some (.int .u8 (zs.getD k 0))) := by
  rcases Nat.eq_zero_or_pos n with rfl | hp
  · exact ⟨[], rfl, by simp, fun h => absurd h (by omega)⟩
  · obtain ⟨b, off, e, hb, hc⟩ := h hp
    have H : ∀ k, ∃ v : Int, k < n → 0 ≤ v ∧ v ≤ 255 ∧ w.cell? ⟨b, off + k, none⟩ = some (.int .u8 v) := fun k => by
      by_cases hk : k < n
      · obtain ⟨v, hv⟩ := hc k hk; exact ⟨v, fun _ => hv⟩
      · exact ⟨0, fun h => absurd h hk⟩
    obtain ⟨f, hf⟩ := Classical.skolem.1 H
    refine ⟨(List.range n).map f, by simp, fun z hz => ?_, fun _ => ⟨b, off, e, hb, fun k hk => ?_⟩⟩
    · simp only [List.mem_map, List.mem_range] at hz
      obtain ⟨k, hk, rfl⟩ := hz
      exact ⟨(hf k hk).1, (hf k hk).2.1⟩
    · rw [(hf k hk).2.2]
      simp [hk]
def valsU (zs : List Int) : List Value := zs.map (Value.int .u8)
theorem SliceU.own {w : World} {base g n cap : Nat} {zs : List Int} (h : w.ownsRow base 5 1 (.slice (some ⟨g, 0, none⟩) n cap) n (valsU zs)) (hz : ∀ z ∈ zs, 0 ≤ z ∧ z ≤ 255) : SliceU w w.heap.size (some ⟨g, 0, none⟩) n := fun hn => by
  refine ⟨g, 0, rfl, (h.lt g rfl).2, fun k hk => ?_⟩
  have hl : zs.length = n := by simpa [valsU] using h.1
  have hk' : k < zs.length := by omega
  refine ⟨zs[k], (hz _ (List.getElem_mem hk')).1, (hz _ (List.getElem_mem hk')).2, ?_⟩
  rw [show (0 : Nat) + k = k by omega, h.cellAt k (by omega)]
  simp [valsU, hk']
theorem wpList_append_code (w : World) {ops : Array Oper} {rest : List Oper} {o : Oper} {a : Act} {Q : Exit → Act → World → Prop} (hgd : o.guard = none) (s x : Operand)
    (ho : o.op = .call { callee := .builtin .append, args := #[s, x], argTypes := #[34, 34] })
    (base g cap : Nat) (u : Int) (hu : 0 ≤ u ∧ u ≤ 255) (hs : a.eval s = .slice (some ⟨g, 0, none⟩) 1 cap) (hown : w.ownsRow base 5 1 (.slice (some ⟨g, 0, none⟩) 1 cap) 1 [.int .u8 u])
    (B : Nat) (A : Option Addr) (n c : Nat) (hx : a.eval x = .slice A n c) (hU : SliceU w B A n) (hA : A = none → n = 0 ∧ c = 0) (hn : n ≤ 1048576) (hbase : base ≤ w.heap.size)
    (h : ∀ A' c' w', SliceU w' w'.heap.size A' (n + 1) → w.grownBy w' (some g) → wpList Tryd.prog ops Q rest (a.put o.dst (.slice A' (n + 1) c')) w') : wpList Tryd.prog ops Q (o :: rest) a w := by
  obtain ⟨i0, hi, hz0, hz1, hz2⟩ := info_parts byte_info
  cases A with
  | none =>
    obtain ⟨rfl, rfl⟩ := hA rfl
    refine wpList_append_own_none hgd s x _ ho base 5 i0 1 Tryd.underlying34 hi _ 1 _ hs hown hx ?_
    exact h _ _ _ (SliceU.own (zs := [u]) hown (by simpa using hu)) (World.grownBy.refl _ _)
  | some ad =>
    obtain ⟨zs, hl, hz, hc⟩ := hU.list
    refine wpList_append_own w hgd s x _ ho base 5 i0 (.int .u8 0) 1 1 Tryd.underlying34 hi hz0 hz1 hz2 rfl (by decide) _ 1 _ hs hown ad n c (valsU zs) hx (by simp [valsU, hl]) ?_ (by simp [valsU, Value.oneCell']) (by unfold maxLen; omega) (by omega) hbase ?_
    · intro j v hv
      have hj : j < n := by
        rcases Nat.lt_or_ge j n with hh | hh
        · exact hh
        · rw [List.getElem?_eq_none (by simpa [valsU, hl] using hh)] at hv; cases hv
      obtain ⟨b, off, e, _, hcell⟩ := hc (by omega)
      cases e
      rw [add_plain, hcell j hj, ← hv]
      simp [valsU, hl, hj]
    · intro v' w' hown' hg' _
      obtain ⟨g', cap', rfl, _⟩ := World.ownsRow.form hown' (by omega)
      rw [show 1 + n = n + 1 by omega] at hown' ⊢
      refine h _ _ _ (SliceU.own (zs := u :: zs) (by simpa [valsU] using hown') (fun z hz' => ?_)) hg'
      rcases List.mem_cons.1 hz' with rfl | hm
      · exact hu
      · exact hz z hm
/-- the arguments' bytes -/
theorem IsRow.code {w : World} {a : Option Addr} {len cap : Nat} {zs : List Int} (h : IsRow .u8 w a len cap zs) : SliceU w w.heap.size a len ∧ (a = none → len = 0 ∧ cap = 0) := by
  rcases h with ⟨rfl, rfl, rfl, rfl⟩ | ⟨x, rfl, hl, _, hz, hcell, hwf⟩
  · exact ⟨fun h => absurd h (by omega), fun _ => ⟨rfl, rfl⟩⟩
  · refine ⟨fun hn => ?_, fun h => by cases h⟩
    obtain ⟨b, off, spot⟩ := x
    have h0 := hcell 0 (by omega)
    have hs : spot = none := by simpa [Addr.add] using World.cell?_spot h0
    subst hs
    refine ⟨b, off, rfl, ?_, fun k hk => ?_⟩
    · rcases Nat.lt_or_ge b w.heap.size with hh | hh
      · exact hh
      · have e : ((⟨b, off, none⟩ : Addr).add 0).block = b := rfl
        unfold World.cell? at h0
        rw [e, Array.getElem?_eq_none hh] at h0
        cases h0
    · have hk' := hcell k (by omega)
      rw [add_plain] at hk'
      have hw := hwf (zs.getD k 0) (by rw [List.getD_eq_getElem?_getD, List.getElem?_eq_getElem (by omega)]; exact List.getElem_mem _)
      have hb : 0 ≤ zs.getD k 0 ∧ zs.getD k 0 ≤ 255 := by
        generalize zs.getD k 0 = y at hw
        have e1 : IntKind.u8.min = 0 := by decide
        have e2 : IntKind.u8.max = 255 := by decide
        simp [Lit.wf, e1, e2] at hw
        exact hw
      exact ⟨_, hb.1, hb.2, hk'⟩
theorem SliceU.below {w w' : World} {n : Nat} {A : Option Addr} (h : SliceU w w.heap.size A n) (hb : Below w.heap.size w w') : SliceU w' w.heap.size A n := h.keep fun b o hlt => hb.cell (p := ⟨b, o, none⟩) hlt
theorem SliceU.below' {w w' w'' : World} {n : Nat} {A : Option Addr} (h : SliceU w w''.heap.size A n) (hb : Below w.heap.size w w') (hs : w''.heap.size ≤ w.heap.size) : SliceU w' w''.heap.size A n := h.keep fun b o hlt => hb.cell (p := ⟨b, o, none⟩) (Nat.lt_of_lt_of_le hlt hs)
theorem SliceU.alloc {w : World} {B n : Nat} {A : Option Addr} {o : Obj} (h : SliceU w B A n) (hB : B ≤ w.heap.size) : SliceU (w.alloc o) B A n := h.keep fun b o hlt => World.cell?_alloc_past _ _ _ (by omega)
/-- the world behind the append -/
theorem below_code {w w1 w2 : World} {o : Obj} {g : Nat} (hb : Below w.heap.size w w1) (hg : (w1.alloc o).grownBy w2 (some g)) (hle : w.heap.size ≤ g) : Below w.heap.size w w2 :=
  (hb.alloc hb.size o).grown hg (by have := hb.size; simp; omega) (fun k hk => by cases hk; exact hle)
set_option maxHeartbeats 400000 in
theorem c_laws_big (A : Option Addr) (n c : Nat) (w : World) :
    Calls Tryd.prog 21 #[.slice A n c] w fun e w' => e = .returned (.bool (decide (1048576 < (n : Int)))) ∧ w = w' := by
  go_enter Tryd.func21, Tryd.ntmps21
  go_wp2_with fail
  go_ret
  exact ⟨rfl, rfl⟩
end Go.Proofs.YtaacognadfodlaaDoor

/- The statement FnExactTossCoin: the program's function and the reference's return the same at all arguments, and the program leaves its arguments alone. It has no conditions. -/
import Derived.Test.YtdmaklgpgdcnpaaRows
import Derived.WalkKit
import Derived.ProofKit
import Derived.OpenShut
import Derived.ChangeOld
import Derived.Below
import Derived.Lib.SmallJoins
import Derived.Test.YtdmaklgpgdcnpaaMem
import Derived.Test.YtdmaklgpgdcnpaaList
import Derived.Deep.RegionHeld3
import Derived.Test.YtdmaklgpgdcnpaaShape
import Derived.Test.YtdmaklgpgdcnpaaTossCheat
import Derived.Test.YtdmaklgpgdcnpaaTossCoin
namespace Go.Proofs.Ytdmaklgpgdcnpaa.lawFnExactTossCoin
open Go.ChangeShapes Go.WideShapes Go.ChangeAt Go.RowKit Go.Joins
set_option linter.unusedVariables false

theorem own : ownKnob Try.prog.godebug = none := by kernel_rfl
theorem laidOut : laidOutB Try.prog = true := by kernel_rfl

theorem IsRow.len {w : World} {a : Option Addr} {len cap : Nat} {zs : List Int} (h : IsRow .i64 w a len cap zs) : len ≤ maxLen := by
  rcases h with ⟨_, rfl, _, _⟩ | ⟨x, _, hl, hm, _⟩
  · unfold maxLen; omega
  · omega
set_option maxHeartbeats 8000000 in
theorem walk (w : World) (A0 : Option Addr) (n0 c0 : Nat) (z0 : List Int) (h0 : IsRow .i64 w A0 n0 c0 z0) (A1 : Option Addr) (n1 c1 : Nat) (z1 : List Int) (h1 : IsRow .i64 w A1 n1 c1 z1) (A2 : Option Addr) (n2 c2 : Nat) (z2 : List Int) (h2 : IsRow .i64 w A2 n2 c2 z2) : Calls Try.prog 5 #[.agg #[.slice A0 n0 c0, .slice A1 n1 c1, .slice A2 n2 c2]] w fun e w' => e = .returned (.bool true) ∧ Below w.heap.size w w' := by
  have e0 := IsRow.len h0
  have e1 := IsRow.len h1
  have e2 := IsRow.len h2
  have s0 := h0.slice
  have s1 := h1.slice
  have s2 := h2.slice
  clear h0 h1 h2
  generalize z0.take n0 = xs at s0
  generalize z1.take n1 = ys at s1
  generalize z2.take n2 = zs at s2
  obtain rfl : xs.length = n0 := s0.len
  obtain rfl : ys.length = n1 := s1.len
  obtain rfl : zs.length = n2 := s2.len
  have bel : Below w.heap.size w w := Below.refl _ _
  go_enter Try.func5, Try.ntmps5
  go_wp2_with fail
  refine (c_laws_szToss _ _ _ _ _ _ _ _ _ _ _ e0 e1 e2 (by omega) (by omega)).mono ?_
  rintro e w1 ⟨rfl, hb⟩
  have q1 := hb.size
  simp only [World.size_alloc] at q1
  have bel' := next1 bel hb
  clear bel
  obtain ⟨bel, p0⟩ := bel'
  replace s0 := (SliceI.alloc0 s0).below_le hb (by simp <;> omega)
  replace s1 := (SliceI.alloc0 s1).below_le hb (by simp <;> omega)
  replace s2 := (SliceI.alloc0 s2).below_le hb (by simp <;> omega)
  clear hb
  have c_p0 := p0.cell
  have f_p0 := p0.free
  have z_p0 := p0.lt
  unfold szT
  by_cases big : 1048576 < xs.length + ys.length + zs.length
  · rw [if_pos (by omega)]
    go_wp2_with fail
    go_ret
    exact ⟨rfl, bel⟩
  rw [if_neg (by omega)]
  have m0 : xs.length ≤ 1048576 := by omega
  have m1 : ys.length ≤ 1048576 := by omega
  have m2 : zs.length ≤ 1048576 := by omega
  have hpos : ¬ (1048576 : Int) - (xs.length : Int) - (ys.length : Int) - (zs.length : Int) < 0 := by omega
  go_wp2_with fail
  refine (c_laws_toToss _ _ _ _ _ _ _ _ _ _ _ s0 s1 s2 (by omega) m0 m1 m2).mono ?_
  rintro e w2 ⟨A_t0, c_t0, A_t1, c_t1, A_t2, c_t2, rfl, t0, t1, t2, hb⟩
  clear c_p0 f_p0 z_p0
  have q2 := hb.size
  replace bel := below_next bel hb
  replace s0 := s0.below_le hb (by omega)
  replace s1 := s1.below_le hb (by omega)
  replace s2 := s2.below_le hb (by omega)
  replace p0 := p0.below hb
  clear hb
  have lt_t0 := t0.lt
  have ge_t0 := t0.ge
  have lt_t1 := t1.lt
  have ge_t1 := t1.ge
  have lt_t2 := t2.lt
  have ge_t2 := t2.ge
  have c_p0 := p0.cell
  have f_p0 := p0.free
  have z_p0 := p0.lt
  go_wp2_with fail
  refine (c_spec_TossCoin _ _ _ _ _ _ _ _ _ _ _ t0.slice t1.slice t2.slice (Nat.le_refl _) m0 m1 m2).mono ?_
  rintro e w3 ⟨rfl, hb⟩
  clear c_p0 f_p0 z_p0
  have q3 := hb.size
  replace bel := below_next bel hb
  replace s0 := s0.below_le hb (by omega)
  replace s1 := s1.below_le hb (by omega)
  replace s2 := s2.below_le hb (by omega)
  replace p0 := p0.below hb
  replace t0 := t0.below hb
  replace t1 := t1.below hb
  replace t2 := t2.below hb
  clear hb
  have c_p0 := p0.cell
  have f_p0 := p0.free
  have z_p0 := p0.lt
  clear t0 lt_t0 ge_t0
  clear t1 lt_t1 ge_t1
  clear t2 lt_t2 ge_t2
  go_wp2_with fail
  refine (c_laws_toToss _ _ _ _ _ _ _ _ _ _ _ s0 s1 s2 (by omega) m0 m1 m2).mono ?_
  rintro e w4 ⟨A_x0, c_x0, A_x1, c_x1, A_x2, c_x2, rfl, x0, x1, x2, hb⟩
  clear c_p0 f_p0 z_p0
  have q4 := hb.size
  replace bel := below_next bel hb
  replace s0 := s0.below_le hb (by omega)
  replace s1 := s1.below_le hb (by omega)
  replace s2 := s2.below_le hb (by omega)
  replace p0 := p0.below hb
  clear hb
  have lt_x0 := x0.lt
  have ge_x0 := x0.ge
  have lt_x1 := x1.lt
  have ge_x1 := x1.ge
  have lt_x2 := x2.lt
  have ge_x2 := x2.ge
  have c_p0 := p0.cell
  have f_p0 := p0.free
  have z_p0 := p0.lt
  go_wp2_with fail
  refine (c_impl_TossCoin _ _ _ _ _ _ _ _ _ _ _ (SliceI.alloc0 x0.slice) (SliceI.alloc0 x1.slice) (SliceI.alloc0 x2.slice) (by simp) m0 m1 m2).mono ?_
  rintro e w5 ⟨rfl, hb⟩
  clear c_p0 f_p0 z_p0
  have q5 := hb.size
  simp only [World.size_alloc] at q5
  have bel' := next1 bel hb
  clear bel
  obtain ⟨bel, p1⟩ := bel'
  replace s0 := (SliceI.alloc0 s0).below_le hb (by simp <;> omega)
  replace s1 := (SliceI.alloc0 s1).below_le hb (by simp <;> omega)
  replace s2 := (SliceI.alloc0 s2).below_le hb (by simp <;> omega)
  replace p0 := (p0.alloc _).below hb
  replace x0 := OwnI.below (World.ownsRow.alloc x0 _) hb
  replace x1 := OwnI.below (World.ownsRow.alloc x1 _) hb
  replace x2 := OwnI.below (World.ownsRow.alloc x2 _) hb
  clear hb
  have c_p0 := p0.cell
  have f_p0 := p0.free
  have z_p0 := p0.lt
  have c_p1 := p1.cell
  have f_p1 := p1.free
  have z_p1 := p1.lt
  go_wp2_with fail
  have hs0 := Lib.hid (SliceI.keep (w' := w5.drew) s0 (fun _ _ _ => rfl))
  have hx0 := Lib.hid (SliceI.keep (w' := w5.drew) x0.slice (fun _ _ _ => rfl))
  have hs1 := Lib.hid (SliceI.keep (w' := w5.drew) s1 (fun _ _ _ => rfl))
  have hx1 := Lib.hid (SliceI.keep (w' := w5.drew) x1.slice (fun _ _ _ => rfl))
  have hs2 := Lib.hid (SliceI.keep (w' := w5.drew) s2 (fun _ _ _ => rfl))
  have hx2 := Lib.hid (SliceI.keep (w' := w5.drew) x2.slice (fun _ _ _ => rfl))
  have g0 : w5.cell? ⟨w4.heap.size, 0, none⟩ = _ := p1.cell 0
  have d0 : w5.cell? ⟨w.heap.size, 0, none⟩ = _ := p0.cell 0
  have g1 : w5.cell? ⟨w4.heap.size, 1, none⟩ = _ := p1.cell 1
  have d1 : w5.cell? ⟨w.heap.size, 1, none⟩ = _ := p0.cell 1
  have g2 : w5.cell? ⟨w4.heap.size, 2, none⟩ = _ := p1.cell 2
  have d2 : w5.cell? ⟨w.heap.size, 2, none⟩ = _ := p0.cell 2
  simp at g0 g1 g2 d0 d1 d2
  have hw0 : w.heap.size ≤ w5.drew.heap.size := by show w.heap.size ≤ w5.heap.size; omega
  have BEL := Lib.hid bel.drew
  have P0 := Lib.hid p0
  have P1 := Lib.hid p1
  have hp0 := p0.lt
  have hp1 := p1.lt
  clear s0 s1 s2 x0 x1 x2 c_p0 f_p0 z_p0 c_p1 f_p1 z_p1 p0 p1 lt_x0 ge_x0 lt_x1 ge_x1 lt_x2 ge_x2 bel
  clear q1 q2 q3 q4 q5
  go_region_held3 (fun W => W.cell? ⟨w4.heap.size, 0, none⟩ = some (.slice A_x0 xs.length c_x0) ∧ W.cell? ⟨w4.heap.size, 1, none⟩ = some (.slice A_x1 ys.length c_x1) ∧ W.cell? ⟨w4.heap.size, 2, none⟩ = some (.slice A_x2 zs.length c_x2) ∧ W.cell? ⟨w.heap.size, 0, none⟩ = some (.slice A0 xs.length c0) ∧ W.cell? ⟨w.heap.size, 1, none⟩ = some (.slice A1 ys.length c1) ∧ W.cell? ⟨w.heap.size, 2, none⟩ = some (.slice A2 zs.length c2)) (first | exact ⟨g0, g1, g2, d0, d1, d2⟩ | exact ⟨z1.cell 0, z1.cell 1, z1.cell 2, z0.cell 0, z0.cell 1, z0.cell 2⟩ | exact ⟨r1.cell 0, r1.cell 1, r1.cell 2, r0.cell 0, r0.cell 1, r0.cell 2⟩) (first | (go_at_call 15; (with_reducible refine (c_laws_toToss _ _ _ _ _ _ _ _ _ _ _ hs0.out hs1.out hs2.out hw0 m0 m1 m2).mono ?_); rintro e v1 ⟨U0, e0', U1, e1', U2, e2', rfl, u0, u1, u2, hb⟩; have hu0 := Lib.hid u0.slice; have hu1 := Lib.hid u1.slice; have hu2 := Lib.hid u2.slice; have hy0 := Lib.hid ((hx0.out.below hb).more hb.size); have hy1 := Lib.hid ((hx1.out.below hb).more hb.size); have hy2 := Lib.hid ((hx2.out.below hb).more hb.size); have r0 := (Box.drew P0.out).below hb; have r1 := (Box.drew P1.out).below hb; have bel1 := below_next BEL.out hb; clear u0 u1 u2 hb) | (go_at_call 17; (with_reducible refine (c_laws_eqToss _ _ _ _ _ _ _ _ _ _ _ _ _ _ _ _ _ hy0.out hy1.out hy2.out hu0.out hu1.out hu2.out (Nat.le_refl _) e0 e1 e2).mono ?_); rintro e v2 ⟨rfl, hb⟩; have z0 := r0.below hb; have z1 := r1.below hb; have bel2 := below_next bel1 hb))
  all_goals
    go_wp2_with fail
    go_ret
    exact ⟨rfl, bel2⟩

set_option maxRecDepth 100000 in
theorem lifted (os : Os) (started : os.Started) (H : Type) (enc : TypeId × Value → H) :
    ReturnsInHanded {} Try.checked os 5 .any (Rows.fnExactTossCoinSpec.pre6 enc Try.prog Try.f5 Rows.fnExactTossCoinRow.domain false) (Rows.fnExactTossCoinSpec.post enc Try.prog Try.f5 false true false false) := by
  refine returnsInHanded_of_change (C := Try.checked) own started (by kernel_rfl) Try.func5
    (ChangeSpec.witness6 (enc := enc) (C := Try.checked) false ⟨#[], #[.agg #[.slice none 0 0, .slice none 0 0, .slice none 0 0]], []⟩ 8 (by kernel_rfl) (by kernel_rfl) (by kernel_rfl) (by kernel_rfl)) ?_
  intro W base args ds gs before hval0 hW hcnd _
  have hval : ∀ (j : Nat) t v, Try.f5.params[j]? = some t → args[j]? = some v → Value.okWide Try.prog W .any base t v := hval0
  have hW' := hW
  obtain ⟨p, q, hA0, hV, rfl, hfz, hnd⟩ := hW
  have hA : DataW.TrodAll enc Try.prog W 0 (fun _ => true) true Try.f5.params.toList args.toList ds p := hA0
  rw [Try.params5] at hA hval
  obtain ⟨v0, vs0, d0, ds0, p0, q0, hargs, rfl, rfl, h0, r0⟩ := trodAll_cons hA
  obtain ⟨rfl, rfl, rfl⟩ := trodAll_nil r0
  obtain rfl : args = #[v0] := by cases args; simp_all
  obtain ⟨rfl, rfl⟩ := trodVars_none hV
  have k0 := h0
  have lt0 : ∀ x ∈ p0, x.block < W.heap.size := by obtain ⟨m, hm⟩ := k0; exact DataW.trod_lt m _ _ _ hm
  obtain ⟨x0, x1, x2, y0, y1, y2, m0, hv0, _, _, hy0, hy1, hy2⟩ := open_agg3 Try.underlying24 (by kernel_rfl) (by kernel_rfl) (hval 0 24 v0 rfl rfl) h0
  obtain ⟨a0, l0, c0, zs0, rfl, r0', _⟩ := open_row Try.underlying22 Try.underlying3 (by kernel_rfl) (fun _ => rfl) hy0
  obtain ⟨a1, l1, c1, zs1, rfl, r1', _⟩ := open_row Try.underlying22 Try.underlying3 (by kernel_rfl) (fun _ => rfl) hy1
  obtain ⟨a2, l2, c2, zs2, rfl, r2', _⟩ := open_row Try.underlying22 Try.underlying3 (by kernel_rfl) (fun _ => rfl) hy2
  subst hv0
  clear hA0 hval0
  simp only [List.append_nil] at hW'
  refine (walk (w := W) a0 l0 c0 zs0 r0' a1 l1 c1 zs1 r1' a2 l2 c2 zs2 r2').mono fun e W' ⟨he, bel⟩ => ?_
  subst he
  exact ⟨_, rfl, _, _, _, [], _, [], hW', trodAll_mk1 (shut_bool Try.underlying4 _), (trodAll_cons_mk (Below.trod laidOut (by kernel_rfl) (of_decide_eq_true (by kernel_rfl)) k0 bel lt0) trodAll_mk0), rfl, bel.frame _, fun h => by cases h⟩

theorem over : Rows.fnExactTossCoinRow.holds Try.pinned (OpenSpec.ofChange Rows.fnExactTossCoinSpec) :=
  OpenClaim.holds_of_wide 5 Try.f5 rfl rfl rfl rfl rfl rfl rfl ⟨rfl, rfl, rfl, rfl, rfl⟩ rfl rfl rfl rfl rfl (by kernel_rfl) Try.func5 (by kernel_rfl)
    (of_decide_eq_true (by kernel_rfl)) (by unfold Func.isWrapper; first | (rw [if_pos (by decide +kernel)]; kernel_rfl) | (rw [if_neg (by decide +kernel)]; exact ⟨rfl, rfl⟩))
    (fun os started H enc _ => lifted os started H enc)

/-- The statement. -/
theorem proved : Rows.FnExactTossCoinSaid := over
end Go.Proofs.Ytdmaklgpgdcnpaa.lawFnExactTossCoin

/- The statement FnForked: forked tapes are different and begin at their first word. It has no conditions. -/
import Derived.Test.YtdmaklgpgdcnpaaRows
import Derived.WalkKit
import Derived.ProofKit
import Derived.OpenShut
import Derived.ChangeOld
import Derived.Below
import Derived.Lib.SmallJoins
import Derived.Deep.RegionHeld3
import Derived.Deep.QuietTactic
import Derived.BigQuiet
import Derived.Deep.DeepCutAuto
import Derived.Deep.DrawnRows
import Derived.Test.YtdmaklgpgdcnpaaDrawCode
import Derived.Test.YtdmaklgpgdcnpaaWords
import Derived.Test.YtdmaklgpgdcnpaaAlg
import Derived.Test.YtdmaklgpgdcnpaaTape
import Derived.Test.YtdmaklgpgdcnpaaDrawMore
namespace Go.Proofs.Ytdmaklgpgdcnpaa.lawFnForked
open Go.ChangeShapes Go.WideShapes Go.ChangeAt Go.RowKit Go.Joins
set_option linter.unusedVariables false

theorem own : ownKnob Try.prog.godebug = none := by kernel_rfl
theorem laidOut : laidOutB Try.prog = true := by kernel_rfl

attribute [local go_sem ↓] Go.wp_at_zero Go.wp_at_succ
theorem SliceI.cell_at {w : World} {B n b off : Nat} {xs : List Int} (h : SliceI w B (some ⟨b, off, none⟩) n xs) (k : Nat) (hk : k < n) : w.cell? ⟨b, off + k, none⟩ = some (.int .i64 (xs.getD k 0)) := by
  obtain ⟨b', off', e, _, hc⟩ := h.at_ hk
  cases e
  exact hc
theorem getD_mem {xs : List Int} {k : Nat} (h : k < xs.length) : xs.getD k 0 ∈ xs := by
  rw [List.getD_eq_getElem?_getD, List.getElem?_eq_getElem h]; exact List.getElem_mem _

theorem startD {w w1 : World} {c1 : Array Value} {t1 : TypeId} (hb : Below (w.alloc (.cells c1 t1)).drew.heap.size (w.alloc (.cells c1 t1)).drew w1) : Below w.heap.size w w1 ∧ Box w1 w.heap.size t1 c1 :=
  start1 (((Below.refl (w.alloc (.cells c1 t1)).heap.size (w.alloc (.cells c1 t1))).drew).trans hb)
theorem fork_is {s t q : Int} (hs : 0 ≤ s ∧ s ≤ 4294967295) (ht : 0 ≤ t ∧ t < 60) (h0 : 0 ≤ q) (h1 : q < 10000) : tapeForkS s t q = keyed s 9 q := by
  unfold tapeForkS
  rw [if_pos (by simp only [Bool.and_eq_true, inB_iff, tapeOk_iff]; omega)]
theorem fork_facts {s t q : Int} (hs : 0 ≤ s ∧ s ≤ 4294967295) (ht : 0 ≤ t ∧ t < 60) (h0 : 0 ≤ q) (h1 : q < 10000) :
    isWord (tapeForkS s t q) = true ∧ tapeNx (tapeForkS s t q) 0 = 1 ∧ isWord (tapeV (tapeForkS s t q) 0) = true := by
  have hw : isWord (tapeForkS s t q) = true := by rw [fork_is hs ht h0 h1]; exact keyed_word _ _ _
  have hw2 := isWord_iff.1 hw
  refine ⟨hw, ?_, isWord_iff.2 (tapeV_bounds _ _)⟩
  unfold tapeNx
  rw [if_pos (tapeGo_iff.2 (by omega))]
  rfl
theorem fork_ne {s t q q' : Int} (hs : 0 ≤ s ∧ s ≤ 4294967295) (ht : 0 ≤ t ∧ t < 60) (h : 0 ≤ q ∧ q < 10000) (h' : 0 ≤ q' ∧ q' < 10000) (hne : q ≠ q') : tapeForkS s t q ≠ tapeForkS s t q' := by
  rw [fork_is hs ht h.1 h.2, fork_is hs ht h'.1 h'.2]
  exact fun e => hne (keyed_inj (isWord_iff.2 hs) (by decide) (isWord_iff.2 (by omega)) (isWord_iff.2 (by omega)) e)

set_option maxHeartbeats 2000000 in
theorem walk (w : World) (A : Option Addr) (len cap : Nat) (z : List Int) (h : IsRow .u8 w A len cap z) : Calls Try.prog 12 #[.slice A len cap] w fun e w' => e = .returned (.bool true) ∧ Below w.heap.size w w' := by
  obtain ⟨hU, hA⟩ := h.code
  clear h
  by_cases hbig : 1048576 < (len : Int)
  · go_enter Try.func12, Try.ntmps12
    go_wp2_with (go_at_call 27; (with_reducible refine (c_laws_big _ _ _ _).mono ?_); rintro e w' ⟨rfl, rfl⟩)
    go_ret
    exact ⟨rfl, Below.refl _ _⟩
  have hm : len ≤ 1048576 := by omega
  have bel : Below w.heap.size w w := Below.refl _ _
  have HA := Lib.hid hA
  have HU := Lib.hid hU
  clear hA hU
  have hq0 : w.heap.size ≤ w.heap.size := Nat.le_refl _
  go_enter Try.func12, Try.ntmps12
  go_wp2_with (go_at_call 27; (with_reducible refine (c_laws_big _ _ _ _).mono ?_); rintro e w' ⟨rfl, rfl⟩)
  refine (c_spec_DrawTape _ _ _ _ _ HU.out (by omega) (by omega)).mono ?_
  rintro e w1 ⟨s, t, ⟨⟨s0, s1⟩, t0, t1⟩, rfl, hb⟩
  have hq1 := hb.size
  replace bel := below_next bel hb
  have HU1 := Lib.hid (HU.out.below' hb (by omega))
  clear HU hb
  have HU := HU1
  clear HU1
  go_wp2_with fail
  refine (c_spec_DrawPlaces _ _ _ _ _ (HU.out.alloc (by omega)) (by simp; omega) (by omega)).mono ?_
  rintro e w2 ⟨ps, ⟨hpl, hpr⟩, A_p, c_p, rfl, own, hb⟩
  obtain ⟨bel2, x1⟩ := start1 hb
  have bel := below_next bel bel2
  clear HU HA hb bel2
  have c1 := x1.cell
  have f1 := x1.free
  have z1 := x1.lt
  have hlp : 11 < ps.length := by omega
  have HPR := Lib.hid hpr
  have hsl := own.slice
  obtain ⟨g, off, rfl, hgb, _⟩ := hsl.at_ (k := 0) (by omega)
  obtain ⟨q0, hcell0, hq00, hq01⟩ : ∃ q : Int, w2.cell? ⟨g, off + 0, none⟩ = some (.int .i64 q) ∧ 0 ≤ q ∧ q < 10000 := ⟨_, SliceI.cell_at hsl 0 (by omega), HPR.out _ (getD_mem (by omega))⟩
  obtain ⟨q1, hcell1, hq10, hq11⟩ : ∃ q : Int, w2.cell? ⟨g, off + 1, none⟩ = some (.int .i64 q) ∧ 0 ≤ q ∧ q < 10000 := ⟨_, SliceI.cell_at hsl 1 (by omega), HPR.out _ (getD_mem (by omega))⟩
  simp only [Nat.add_zero] at hcell0
  clear hpl hpr own hsl HPR
  have l0 : 0 < ps.length := by omega
  have l1 : 1 < ps.length := by omega
  generalize ps.length = m at *
  have i0 : (0 : Int) < (m : Int) := by omega
  have i1 : (1 : Int) < (m : Int) := by omega
  have f1' := c1 0
  have f1'' := c1 1
  simp at f1' f1''
  have hne : w1.heap.size < w2.heap.size := z1
  clear c1
  have BEL := Lib.hid bel
  clear bel x1
  go_upto_region 5 with fail
  go_cut [5] from 15 to 19 (fun sa wx => ∃ ga : Nat, sa = .pointer (some ⟨ga, 0, none⟩) ∧ w2.heap.size ≤ ga ∧ Box wx ga 52 #[.int .i64 (tapeForkS s t q0), .int .i64 0] ∧ Below w2.heap.size w2 wx)
  case first =>
    go_region_held3 (fun W => w2.heap.size ≤ W.heap.size ∧ W.cell? ⟨w1.heap.size, 0, none⟩ = some (.int .i64 s) ∧ W.cell? ⟨w1.heap.size, 1, none⟩ = some (.int .i64 t) ∧ W.cell? ⟨g, off, none⟩ = some (.int .i64 q0)) (first | exact ⟨Nat.le_refl _, f1', f1'', hcell0⟩ | exact ⟨by have := hb.size; omega, (hb.cell (p := ⟨w1.heap.size, 0, none⟩) (by simp; omega)).trans (by first | assumption | go_keep), (hb.cell (p := ⟨w1.heap.size, 1, none⟩) (by simp; omega)).trans (by first | assumption | go_keep), (hb.cell (p := ⟨g, off, none⟩) (by simp; omega)).trans (by first | assumption | go_keep)⟩ | exact ⟨by have := hb.size; simp at this ⊢; omega, (World.cell?_alloc_past _ _ _ (by have := hb.size; simp at this; omega)).trans ((hb.cell (p := ⟨w1.heap.size, 0, none⟩) (by simp; omega)).trans f1'), (World.cell?_alloc_past _ _ _ (by have := hb.size; simp at this; omega)).trans ((hb.cell (p := ⟨w1.heap.size, 1, none⟩) (by simp; omega)).trans f1''), (World.cell?_alloc_past _ _ _ (by have := hb.size; simp at this; omega)).trans ((hb.cell (p := ⟨g, off, none⟩) (by simp; omega)).trans hcell0)⟩ | (refine ⟨?_, ?_, ?_, ?_⟩; ((try simp); omega); all_goals (go_keep; done)) | (go_keep; done) | (refine ⟨by (try simp); omega, (World.cell?_of_block ((grown_set (grown_set (World.grownBy.refl w' (some w2.heap.size)) 0 _) 1 _).block w1.heap.size (by omega) (by intro e; injection e; omega))).trans ?_, (World.cell?_of_block ((grown_set (grown_set (World.grownBy.refl w' (some w2.heap.size)) 0 _) 1 _).block w1.heap.size (by omega) (by intro e; injection e; omega))).trans ?_, (World.cell?_of_block ((grown_set (grown_set (World.grownBy.refl w' (some w2.heap.size)) 0 _) 1 _).block g (by omega) (by intro e; injection e; omega))).trans ?_⟩ <;> (first | assumption | (go_keep; done)))) (first | (go_at_call 47; (with_reducible refine (c_impl_TapeFork _ _ _ _).mono ?_); rintro e w' ⟨rfl, hb⟩; (try (obtain ⟨hbel, bx⟩ := startD hb; have cc := bx.cell; have ff := bx.free; have zz := bx.lt))))
    all_goals
      go_wp2_with fail
      go_meet
      first
      | (refine ⟨w'.heap.size, rfl, hb.size, Box.new _ _ _, ?_⟩; (go_grown <;> first | exact hb | exact hb.size | exact (Below.refl _ _).drew.trans hb); done)
      | (refine ⟨w2.heap.size, rfl, Nat.le_refl _, (bx.set 0 _).set 1 _, ?_⟩; (go_grown <;> first | exact hbel | exact hbel.size | omega); done)
  case rest =>
    obtain ⟨ga, rfl, hga, bxa, hbA⟩ := hcut
    have hE : ∃ x, x = wc := ⟨_, rfl⟩
    obtain ⟨wA, hwA⟩ := hE
    subst hwA
    have hzA := bxa.lt
    have hsA := hbA.size
    have g1' := (hbA.cell (p := ⟨w1.heap.size, 0, none⟩) (by simp; omega)).trans f1'
    have g1'' := (hbA.cell (p := ⟨w1.heap.size, 1, none⟩) (by simp; omega)).trans f1''
    have k0 := (hbA.cell (p := ⟨g, off, none⟩) (by simp; omega)).trans hcell0
    have k1 := (hbA.cell (p := ⟨g, off + 1, none⟩) (by simp; omega)).trans hcell1
    have BXA := Lib.hid bxa
    have BELA := Lib.hid (below_next BEL.out hbA)
    clear bxa hbA f1' f1'' hcell0 hcell1 BEL
    go_upto_region 6 with fail
    go_cut [6] from 20 to 24 (fun sa wx => ∃ ga : Nat, sa = .pointer (some ⟨ga, 0, none⟩) ∧ wA.heap.size ≤ ga ∧ Box wx ga 52 #[.int .i64 (tapeForkS s t q1), .int .i64 0] ∧ Below wA.heap.size wA wx)
    case first =>
      go_region_held3 (fun W => wA.heap.size ≤ W.heap.size ∧ W.cell? ⟨w1.heap.size, 0, none⟩ = some (.int .i64 s) ∧ W.cell? ⟨w1.heap.size, 1, none⟩ = some (.int .i64 t) ∧ W.cell? ⟨g, off + 1, none⟩ = some (.int .i64 q1)) (first | exact ⟨Nat.le_refl _, g1', g1'', k1⟩ | exact ⟨by have := hb.size; omega, (hb.cell (p := ⟨w1.heap.size, 0, none⟩) (by simp; omega)).trans (by first | assumption | go_keep), (hb.cell (p := ⟨w1.heap.size, 1, none⟩) (by simp; omega)).trans (by first | assumption | go_keep), (hb.cell (p := ⟨g, off + 1, none⟩) (by simp; omega)).trans (by first | assumption | go_keep)⟩ | exact ⟨by have := hb.size; simp at this ⊢; omega, (World.cell?_alloc_past _ _ _ (by have := hb.size; simp at this; omega)).trans ((hb.cell (p := ⟨w1.heap.size, 0, none⟩) (by simp; omega)).trans g1'), (World.cell?_alloc_past _ _ _ (by have := hb.size; simp at this; omega)).trans ((hb.cell (p := ⟨w1.heap.size, 1, none⟩) (by simp; omega)).trans g1''), (World.cell?_alloc_past _ _ _ (by have := hb.size; simp at this; omega)).trans ((hb.cell (p := ⟨g, off + 1, none⟩) (by simp; omega)).trans k1)⟩ | (refine ⟨?_, ?_, ?_, ?_⟩; ((try simp); omega); all_goals (go_keep; done)) | (go_keep; done) | (refine ⟨by (try simp); omega, (World.cell?_of_block ((grown_set (grown_set (World.grownBy.refl w' (some wA.heap.size)) 0 _) 1 _).block w1.heap.size (by omega) (by intro e; injection e; omega))).trans ?_, (World.cell?_of_block ((grown_set (grown_set (World.grownBy.refl w' (some wA.heap.size)) 0 _) 1 _).block w1.heap.size (by omega) (by intro e; injection e; omega))).trans ?_, (World.cell?_of_block ((grown_set (grown_set (World.grownBy.refl w' (some wA.heap.size)) 0 _) 1 _).block g (by omega) (by intro e; injection e; omega))).trans ?_⟩ <;> (first | assumption | (go_keep; done)))) (first | (go_at_call 47; (with_reducible refine (c_impl_TapeFork _ _ _ _).mono ?_); rintro e w' ⟨rfl, hb⟩; (try (obtain ⟨hbel, bx⟩ := startD hb; have cc := bx.cell; have ff := bx.free; have zz := bx.lt))))
      all_goals
        go_wp2_with fail
        go_meet
        first
        | (refine ⟨w'.heap.size, rfl, hb.size, Box.new _ _ _, ?_⟩; (go_grown <;> first | exact hb | exact hb.size | exact (Below.refl _ _).drew.trans hb); done)
        | (refine ⟨wA.heap.size, rfl, Nat.le_refl _, (bx.set 0 _).set 1 _, ?_⟩; (go_grown <;> first | exact hbel | exact hbel.size | omega); done)
    case rest =>
      obtain ⟨gb, rfl, hgb2, bxb, hbB⟩ := hcut
      have hE : ∃ x, x = wc := ⟨_, rfl⟩
      obtain ⟨wB, hwB⟩ := hE
      subst hwB
      have hzB := bxb.lt
      have hsB := hbB.size
      have bxa := BXA.out.below hbB
      have ca := bxa.cell
      have fa := bxa.free
      have cb := bxb.cell
      have h0 := (hbB.cell (p := ⟨g, off, none⟩) (by simp; omega)).trans k0
      have h1 := (hbB.cell (p := ⟨g, off + 1, none⟩) (by simp; omega)).trans k1
      have BXB := Lib.hid bxb
      have BXA2 := Lib.hid bxa
      have BELB := Lib.hid (below_next BELA.out hbB)
      have hza2 := bxa.lt
      clear bxb bxa hbB g1' g1'' k0 k1 BELA BXA cb
      go_wp2_with fail
      refine (c_impl_TapeWord _ _ _).mono ?_
      rintro e wD ⟨rfl, hb⟩
      have hsD := hb.size
      have bxa := BXA2.out.below hb
      have bxb := BXB.out.below hb
      have m0 := (hb.cell (p := ⟨g, off, none⟩) (by simp; omega)).trans h0
      have m1 := (hb.cell (p := ⟨g, off + 1, none⟩) (by simp; omega)).trans h1
      have BELD := Lib.hid (below_next BELB.out hb)
      clear hb h0 h1 ca fa BXA2 BXB BELB
      have p1 : ga < wD.heap.size := by omega
      have p2 : gb < wD.heap.size := by omega
      have p3 : g < wD.heap.size := by omega
      obtain ⟨ha, hn1, hwd⟩ := fork_facts ⟨s0, s1⟩ ⟨t0, by omega⟩ hq00 hq01
      have HWD := Lib.hid hwd
      have hab : q0 ≠ q1 → tapeForkS s t q0 ≠ tapeForkS s t q1 := fork_ne ⟨s0, s1⟩ ⟨t0, by omega⟩ ⟨hq00, hq01⟩ ⟨hq10, hq11⟩
      have HAB := Lib.hid hab
      clear hab hwd
      generalize hfa : tapeForkS s t q0 = fa at *
      generalize hfb : tapeForkS s t q1 = fb at *
      have HFA := Lib.hid hfa
      have HFB := Lib.hid hfb
      clear hfa hfb
      rw [hn1]
      clear hn1 ha
      generalize tapeV fa 0 = v at *
      have HIW : Hid (∀ W : World, Calls Try.prog 35 #[.int .i64 v] W fun e w' => e = .returned (.bool true) ∧ W = w') := fun W => by have h := c_impl_IsWord v W; rw [HWD.out] at h; exact h
      go_wp2_with fail
      have bn := Box.new wD 52 #[.int .i64 fa, .int .i64 1]
      have ka := (bxa.alloc (.cells #[.int .i64 fa, .int .i64 1] 52)).cell
      have kb := (bxb.alloc (.cells #[.int .i64 fa, .int .i64 1] 52)).cell
      have kn := bn.cell
      have kp0 : (wD.alloc (.cells #[.int .i64 fa, .int .i64 1] 52)).cell? ⟨g, off, none⟩ = some (.int .i64 q0) := (World.cell?_alloc_past _ _ _ p3).trans m0
      have kp1 : (wD.alloc (.cells #[.int .i64 fa, .int .i64 1] 52)).cell? ⟨g, off + 1, none⟩ = some (.int .i64 q1) := (World.cell?_alloc_past _ _ _ p3).trans m1
      have ka0 := ka 0
      have ka1 := ka 1
      have kb0 := kb 0
      have kb1 := kb 1
      have kn1 : (wD.alloc (.cells #[.int .i64 fa, .int .i64 1] 52)).cell? ⟨wD.heap.size, 1, none⟩ = some (.int .i64 1) := kn 1
      simp at ka0 ka1 kb0 kb1
      have BELE := Lib.hid (BELD.out.alloc BELD.out.size (.cells #[.int .i64 fa, .int .i64 1] 52))
      generalize wD.alloc (.cells #[.int .i64 fa, .int .i64 1] 52) = wE at *
      clear ka kb kn bn bxa bxb m0 m1 BELD
      by_cases hq : q0 = q1
      · have hE : fb = fa := by rw [← HFA.out, ← HFB.out, hq]
        subst hE
        subst hq
        clear HAB HFA HFB
        go_quiet ((go_at_call 35; exact Calls.quiet_of_same ((HIW.out _).mono fun _ _ h => ⟨h.1, h.2.symm⟩)))
        go_wp2_with fail
        go_ret
        exact ⟨rfl, below_drewN BELE.out _⟩
      · have hE := HAB.out hq
        have e1 : (q0 == q1) = false := by simpa using hq
        have e2 : (fa == fb) = false := by simpa using hE
        clear HAB HFA HFB
        go_quiet ((go_at_call 35; exact Calls.quiet_of_same ((HIW.out _).mono fun _ _ h => ⟨h.1, h.2.symm⟩)))
        go_wp2_with fail
        go_ret
        exact ⟨rfl, below_drewN BELE.out _⟩

set_option maxRecDepth 100000 in
theorem lifted (os : Os) (started : os.Started) (H : Type) (enc : TypeId × Value → H) :
    ReturnsInHanded {} Try.checked os 12 .any (Rows.fnForkedSpec.pre6 enc Try.prog Try.f12 Rows.fnForkedRow.domain false) (Rows.fnForkedSpec.post enc Try.prog Try.f12 false true false false) := by
  refine returnsInHanded_of_change (C := Try.checked) own started (by kernel_rfl) Try.func12
    (ChangeSpec.witness6 (enc := enc) (C := Try.checked) false ⟨#[], #[.slice none 0 0], []⟩ 8 (by kernel_rfl) (by kernel_rfl) (by kernel_rfl) (by kernel_rfl)) ?_
  intro W base args ds gs before hval0 hW hcnd _
  have hval : ∀ (j : Nat) t v, Try.f12.params[j]? = some t → args[j]? = some v → Value.okWide Try.prog W .any base t v := hval0
  have hW' := hW
  obtain ⟨p, q, hA0, hV, rfl, hfz, hnd⟩ := hW
  have hA : DataW.TrodAll enc Try.prog W 0 (fun _ => true) true Try.f12.params.toList args.toList ds p := hA0
  rw [Try.params12] at hA hval
  obtain ⟨v0, vs0, d0, ds0, p0, q0, hargs, rfl, rfl, h0, r0⟩ := trodAll_cons hA
  obtain ⟨rfl, rfl, rfl⟩ := trodAll_nil r0
  obtain rfl : args = #[v0] := by cases args; simp_all
  obtain ⟨rfl, rfl⟩ := trodVars_none hV
  obtain ⟨a0, len0, cap0, rfl⟩ := okWide_slice Try.underlying39 (hval 0 39 v0 rfl rfl)
  have k0 := h0
  have lt0 : ∀ x ∈ p0, x.block < W.heap.size := by obtain ⟨m, hm⟩ := k0; exact DataW.trod_lt m _ _ _ hm
  obtain ⟨z0, w0⟩ : ∃ zs, IsRow .u8 W a0 len0 cap0 zs := by
    obtain ⟨fuel, hf⟩ := h0
    rcases open_ints Try.underlying39 Try.underlying5 (by kernel_rfl) hf with ⟨hcs, _⟩ | ⟨x, l, c, zs, hcs, _, hl, hm, hz, _, hcell, hwz⟩
    · simp [Value.cells] at hcs
      obtain ⟨rfl, rfl, rfl⟩ := hcs
      exact ⟨[], .inl ⟨rfl, rfl, rfl, rfl⟩⟩
    · simp [Value.cells] at hcs
      obtain ⟨rfl, rfl, rfl⟩ := hcs
      exact ⟨zs, .inr ⟨_, rfl, hl, hm, by simpa using hz, hcell, hwz⟩⟩
  clear hA0 hval0
  simp only [List.append_nil] at hW'
  refine (walk (w := W) a0 len0 cap0 z0 w0).mono fun e W' ⟨he, bel⟩ => ?_
  subst he
  exact ⟨_, rfl, _, _, _, [], _, [], hW', trodAll_mk1 (shut_bool Try.underlying4 _), (trodAll_cons_mk (Below.trod laidOut (by kernel_rfl) (of_decide_eq_true (by kernel_rfl)) k0 bel lt0) trodAll_mk0), rfl, bel.frame _, fun h => by cases h⟩

theorem over : Rows.fnForkedRow.holds Try.pinned (OpenSpec.ofChange Rows.fnForkedSpec) :=
  OpenClaim.holds_of_wide 12 Try.f12 rfl rfl rfl rfl rfl rfl rfl ⟨rfl, rfl, rfl, rfl, rfl⟩ rfl rfl rfl rfl rfl (by kernel_rfl) Try.func12 (by kernel_rfl)
    (of_decide_eq_true (by kernel_rfl)) (by unfold Func.isWrapper; first | (rw [if_pos (by decide +kernel)]; kernel_rfl) | (rw [if_neg (by decide +kernel)]; exact ⟨rfl, rfl⟩))
    (fun os started H enc _ => lifted os started H enc)

/-- The statement. -/
theorem proved : Rows.FnForkedSaid := over
end Go.Proofs.Ytdmaklgpgdcnpaa.lawFnForked

/- The walks of TapeList: a list in new memory, and the tape behind it. -/
import Derived.Test.YtknepofclgjmiaaRows
import Derived.Test.YtknepofclgjmiaaPlain
import Derived.Test.YtknepofclgjmiaaMem
import Derived.Test.YtknepofclgjmiaaWords
import Derived.Test.YtknepofclgjmiaaList
import Derived.Test.YtknepofclgjmiaaTape
import Derived.WalkKit
import Derived.WalkSpells
import Derived.WalkLawsBesides
import Derived.OwnWalk
import Derived.Handy
import Derived.RegionTactic
import Derived.Deep.RegionLaw
import Derived.Deep.AppendLies
import Derived.Maps.AppendAt
import Derived.Deep.Onto
import Derived.Lib.Hide
namespace Go.Proofs.Ytknepofclgjmiaa
open Go.RowKit

def tapeLok (s t n k : Int) : Bool := inB k 0 1000 && inB n 1 65536 && tapeOk s t && decide (t + k ≤ 1000000)
def tapeL (s t n : Int) (k : Nat) : List Int := (List.range k).map fun (i : Nat) => tapeV s (t + (i : Int)) / 256 % n
def tapeLF (s t n k : Int) : List Int := if tapeLok s t n k then tapeL s t n k.toNat else []
def tapeLN (s t n k : Int) : Int := if tapeLok s t n k then t + k else t
theorem tapeL_len (s t n : Int) (k : Nat) : (tapeL s t n k).length = k := by simp [tapeL]
theorem tapeL_succ (s t n : Int) (k : Nat) : vals (tapeL s t n k) ++ [.int .i64 (tapeV s (t + (k : Int)) / 256 % n)] = vals (tapeL s t n (k + 1)) := by
  simp [tapeL, vals, List.range_succ]
theorem tapeLF_len (s t n k : Int) : (tapeLF s t n k).length ≤ 1000 := by
  unfold tapeLF
  split
  · next h =>
    simp only [tapeLok, Bool.and_eq_true, inB_iff] at h
    rw [tapeL_len]; omega
  · simp
/-- A call that hands back the list ys in new memory, and a tape. -/
def GivesLT (w : World) (ys : List Int) (s t : Int) (e : Ending) (w' : World) : Prop :=
  ∃ A c, e = .returned (.tuple #[.slice A ys.length c, .agg #[.int .i64 s, .int .i64 t]]) ∧ OwnI w' w.heap.size A ys.length c ys ∧ Below w.heap.size w w'
theorem GivesLT.of {w w' : World} {lo n : Nat} {v : Value} {ys : List Int} {s t : Int} (h : w'.ownsRow lo 3 1 v n (vals ys)) (hlo : w.heap.size ≤ lo) (hb : Below w.heap.size w w') : GivesLT w ys s t (.returned (.tuple #[v, .agg #[.int .i64 s, .int .i64 t]])) w' := by
  obtain ⟨A, c, he, ho, _⟩ := GivesI.of (w := w) (World.ownsRow.mono h hlo) hb
  simp only [Ending.returned.injEq] at he
  subst he
  exact ⟨A, c, rfl, ho, hb⟩
theorem GivesLT.nil {w w' : World} {s t : Int} (hb : Below w.heap.size w w') : GivesLT w [] s t (.returned (.tuple #[.slice none 0 0, .agg #[.int .i64 s, .int .i64 t]])) w' := ⟨none, 0, rfl, World.ownsRow_nil _ _ _ _, hb⟩
theorem tapeB_in {s t n k : Int} {m : Nat} (h : tapeLok s t n k = true) (hm : (m : Int) < k) : tapeBV s (t + (m : Int)) n = tapeV s (t + (m : Int)) / 256 % n ∧ tapeBN s (t + (m : Int)) n = t + (m : Int) + 1 := by
  simp only [tapeLok, Bool.and_eq_true, decide_eq_true_eq] at h
  obtain ⟨⟨⟨h1, h2⟩, h3⟩, h4⟩ := h
  have h5 := tapeOk_iff.1 h3
  have hg : tapeGo s (t + (m : Int)) = true := tapeGo_iff.2 (by omega)
  simp [tapeBV, tapeBN, h2, tapeNx, hg]
/-- what an append leaves of a block that is not the list's own -/
theorem Box.keptBy {w w' : World} {g : Nat} {t : TypeId} {cs : Array Value} {row : Option Nat} (h : Box w g t cs) (hg : w.grownBy w' row) (hne : some g ≠ row) : Box w' g t cs := (hg.block g h.lt hne).trans h
theorem own_far {w : World} {lo : Nat} {e : TypeId} {v : Value} {n : Nat} {xs : List Value} {p : Addr} {u : Value} (h : w.ownsRow lo e 1 v n xs) (hne : some p.block ≠ v.ownBlock) : (w.setCell p u).ownsRow lo e 1 v n xs :=
  World.ownsRow.kept (row := some p.block) h ⟨rfl, rfl, rfl, by simp, fun k _ hk => Below.heap_setCell w p u k fun e => hk (by rw [e])⟩ (.inr (Ne.symm hne))
theorem start3 {w w1 : World} {c1 c2 c3 : Array Value} {t1 t2 t3 : TypeId} (hb : Below (((w.alloc (.cells c1 t1)).alloc (.cells c2 t2)).alloc (.cells c3 t3)).heap.size (((w.alloc (.cells c1 t1)).alloc (.cells c2 t2)).alloc (.cells c3 t3)) w1) :
    Below w.heap.size w w1 ∧ Box w1 w.heap.size t1 c1 ∧ Box w1 (w.heap.size + 1) t2 c2 ∧ Box w1 (w.heap.size + 2) t3 c3 :=
  ⟨below_next ((((Below.refl _ _).alloc (Nat.le_refl _) _).alloc (by simp) _).alloc (by simp; omega) _) hb, (((Box.new w t1 c1).alloc _).alloc _).below hb, by
    have := ((Box.new (w.alloc (.cells c1 t1)) t2 c2).alloc (.cells c3 t3)).below hb
    simpa using this, by
    have := (Box.new ((w.alloc (.cells c1 t1)).alloc (.cells c2 t2)) t3 c3).below hb
    simpa using this⟩
theorem GivesLT.lit0 {w W : World} {g : Nat} {s t : Int} (hbox : Box W g 3 #[]) (hg : w.heap.size ≤ g) (hb : Below w.heap.size w W) : GivesLT w [] s t (.returned (.tuple #[.slice (some ⟨g, 0, none⟩) 0 0, .agg #[.int .i64 s, .int .i64 t]])) W :=
  ⟨_, 0, rfl, ⟨rfl, .inr ⟨g, 0, #[], rfl, hg, hbox, Nat.le_refl _, by simp [maxLen], rfl, rfl⟩⟩, hb⟩
theorem news_one {W : World} {x : Value} {t : TypeId} {g : Nat} (hg : W.heap.size = g) : ∀ j u, [x][j]? = some u → (W.alloc (.cells #[x] t)).cell? ((⟨g, 0, none⟩ : Addr).add j) = some u := by subst hg; exact cell_one_new W x t
theorem own_ne {w : World} {lo g : Nat} {e : TypeId} {v : Value} {n : Nat} {xs : List Value} (h : w.ownsRow lo e 1 v n xs) (hg : g < lo) : some g ≠ v.ownBlock := fun e => by
  have := (h.lt g e.symm).1; omega
theorem own_ne' {w : World} {lo g : Nat} {e : TypeId} {v : Value} {n : Nat} {xs : List Value} (h : w.ownsRow lo e 1 v n xs) (hg : w.heap.size ≤ g) : some g ≠ v.ownBlock := fun e => by
  have := (h.lt g e.symm).2; omega

set_option maxHeartbeats 4000000 in
theorem c_impl_TapeList (s t n k : Int) (w : World) :
    Calls Try.prog 16 #[.agg #[.int .i64 s, .int .i64 t], .int .i64 n, .int .i64 k] w (GivesLT w (tapeLF s t n k) s (tapeLN s t n k)) := by
  obtain ⟨i0, hi, hz0, hz1, hz2⟩ := info_parts int_info
  have HZ := Lib.hid (And.intro hz1 hz2)
  clear hz1 hz2
  cases h1 : inB k 0 1000
  · skip
    have hno : tapeLok s t n k = false := by simp [tapeLok, h1]
    have e1 := Lib.hid (show tapeLF s t n k = [] by simp [tapeLF, hno])
    have e2 := Lib.hid (show tapeLN s t n k = t by simp [tapeLN, hno])
    clear hno
    go_enter Try.func16, Try.ntmps16
    go_wp2_with (first | (go_at_call 36; (with_reducible refine (c_impl_within _ _ _ _).mono ?_); rintro e w' ⟨rfl, rfl⟩) | (go_at_call 18; (with_reducible refine (c_impl_TapeOk _ _ _).mono ?_); rintro e w1 ⟨rfl, hb⟩; obtain ⟨bel, b1, b2⟩ := start2 hb; have c1 := b1.cell; have c2 := b2.cell; have f1 := b1.free; have f2 := b2.free; have hz := b2.lt; clear hb))
    go_region
    all_goals
      go_wp2
      refine bodyPost_ret (v := .tuple #[.slice none 0 0, .agg #[.int .i64 s, .int .i64 t]]) (by simp [results, Try.results16, go_sem, *]) rfl ?_
      rw [e1.out, e2.out]
      exact GivesLT.nil (by go_grown)
  have hk := inB_iff.1 h1
  have hk0 := hk.1
  have hk1 := hk.2
  clear hk
  cases h2 : inB n 1 65536
  · skip
    have hno : tapeLok s t n k = false := by simp [tapeLok, h2]
    have e1 := Lib.hid (show tapeLF s t n k = [] by simp [tapeLF, hno])
    have e2 := Lib.hid (show tapeLN s t n k = t by simp [tapeLN, hno])
    clear hno
    go_enter Try.func16, Try.ntmps16
    go_wp2_with (first | (go_at_call 36; (with_reducible refine (c_impl_within _ _ _ _).mono ?_); rintro e w' ⟨rfl, rfl⟩) | (go_at_call 18; (with_reducible refine (c_impl_TapeOk _ _ _).mono ?_); rintro e w1 ⟨rfl, hb⟩; obtain ⟨bel, b1, b2⟩ := start2 hb; have c1 := b1.cell; have c2 := b2.cell; have f1 := b1.free; have f2 := b2.free; have hz := b2.lt; clear hb))
    go_region
    all_goals
      go_wp2
      refine bodyPost_ret (v := .tuple #[.slice none 0 0, .agg #[.int .i64 s, .int .i64 t]]) (by simp [results, Try.results16, go_sem, *]) rfl ?_
      rw [e1.out, e2.out]
      exact GivesLT.nil (by go_grown)
  have hn := inB_iff.1 h2
  have hn0 := hn.1
  have hn1 := hn.2
  clear hn
  cases h3 : tapeOk s t
  · skip
    have hno : tapeLok s t n k = false := by simp [tapeLok, h3]
    have e1 := Lib.hid (show tapeLF s t n k = [] by simp [tapeLF, hno])
    have e2 := Lib.hid (show tapeLN s t n k = t by simp [tapeLN, hno])
    clear hno
    go_enter Try.func16, Try.ntmps16
    go_wp2_with (first | (go_at_call 36; (with_reducible refine (c_impl_within _ _ _ _).mono ?_); rintro e w' ⟨rfl, rfl⟩) | (go_at_call 18; (with_reducible refine (c_impl_TapeOk _ _ _).mono ?_); rintro e w1 ⟨rfl, hb⟩; obtain ⟨bel, b1, b2⟩ := start2 hb; have c1 := b1.cell; have c2 := b2.cell; have f1 := b1.free; have f2 := b2.free; have hz := b2.lt; clear hb))
    go_region
    all_goals
      go_wp2
      refine bodyPost_ret (v := .tuple #[.slice none 0 0, .agg #[.int .i64 s, .int .i64 t]]) (by simp [results, Try.results16, go_sem, *]) rfl ?_
      rw [e1.out, e2.out]
      exact GivesLT.nil (by go_grown)
  have hb := tapeOk_iff.1 h3
  have ht0 := hb.2.1
  have ht1 := hb.2.2
  clear hb
  by_cases h4 : 1000000 < t + k
  · skip
    have hno : tapeLok s t n k = false := by simp [tapeLok, h1, h2, h3]; omega
    have e1 := Lib.hid (show tapeLF s t n k = [] by simp [tapeLF, hno])
    have e2 := Lib.hid (show tapeLN s t n k = t by simp [tapeLN, hno])
    clear hno
    go_enter Try.func16, Try.ntmps16
    go_wp2_with (first | (go_at_call 36; (with_reducible refine (c_impl_within _ _ _ _).mono ?_); rintro e w' ⟨rfl, rfl⟩) | (go_at_call 18; (with_reducible refine (c_impl_TapeOk _ _ _).mono ?_); rintro e w1 ⟨rfl, hb⟩; obtain ⟨bel, b1, b2⟩ := start2 hb; have c1 := b1.cell; have c2 := b2.cell; have f1 := b1.free; have f2 := b2.free; have hz := b2.lt; clear hb))
    go_region
    all_goals
      go_wp2
      refine bodyPost_ret (v := .tuple #[.slice none 0 0, .agg #[.int .i64 s, .int .i64 t]]) (by simp [results, Try.results16, go_sem, *]) rfl ?_
      rw [e1.out, e2.out]
      exact GivesLT.nil (by go_grown)
  have hyes : tapeLok s t n k = true := by simp [tapeLok, h1, h2, h3]; omega
  have e1 := Lib.hid (show tapeLF s t n k = tapeL s t n k.toNat by simp [tapeLF, hyes])
  have e2 := Lib.hid (show tapeLN s t n k = t + k by simp [tapeLN, hyes])
  have HY := Lib.hid hyes
  clear hyes
  go_enter Try.func16, Try.ntmps16
  go_wp2_with (first | (go_at_call 36; (with_reducible refine (c_impl_within _ _ _ _).mono ?_); rintro e w' ⟨rfl, rfl⟩) | (go_at_call 18; (with_reducible refine (c_impl_TapeOk _ _ _).mono ?_); rintro e w1 ⟨rfl, hb⟩; obtain ⟨bel, b1, b2⟩ := start2 hb; have c1 := b1.cell; have c2 := b2.cell; have f1 := b1.free; have f2 := b2.free; have hz := b2.lt; clear hb))
  go_loopw [8, 9] (fun v i wr => ∃ m : Nat, (m : Int) ≤ k ∧ i = .int .i64 m ∧ wr.ownsRow (w.heap.size + 2) 3 1 v m (vals (tapeL s t n m)) ∧ Box wr w.heap.size 29 #[.int .i64 s, .int .i64 (t + m)] ∧ Box wr (w.heap.size + 1) 29 #[.int .i64 0, .int .i64 0] ∧ Below w.heap.size w wr) (fun _ i _ => (k - intOf i).toNat)
  case atStart => exact ⟨0, by omega, rfl, World.ownsRow_lit w1 #[] 0 (by omega) (by simp [maxLen]) rfl, by simpa using b1.alloc _, b2.alloc _, bel.alloc bel.size _⟩
  case round =>
    obtain ⟨m, hm, rfl, hown, q1, q2, hbel⟩ := hrel
    have HOWN := Lib.hid hown
    have hsz := hbel.size
    clear hown c1 c2 f1 f2 hz
    by_cases hlt : (m : Int) < k
    · have HT := Lib.hid (fun W => c_impl_TapeBelow s (t + (m : Int)) n W)
      have hv := tapeB_in HY.out hlt
      rw [hv.1, hv.2] at HT
      clear hv
      have hst := Lib.hid (tapeL_succ s t n m)
      generalize tapeV s (t + (m : Int)) / 256 % n = x at HT hst
      have c1 := q1.cell
      have f1 := q1.free
      go_wp2_with (first | (go_at_call 17; (with_reducible refine (HT.out _).mono ?_); rintro e w2 ⟨rfl, hb⟩; have q1' := q1.below hb; have q2' := q2.below hb; have HOWN' := Lib.hid (OwnV.below HOWN.out hb); have hbel' := below_next hbel hb; clear c1 f1 HOWN; have c1 := q1'.cell; have f1 := q1'.free; have z1 := q1'.lt; have hz1 := q2'.lt; clear hb) | (at_builtin; go_loud (refine wpList_append_own _ rfl (.tmp 45) (.tmp 47) 24 rfl (w.heap.size + 2) 3 i0 (.int .i64 0) 1 8 Try.underlying24 hi hz0 HZ.out.1 HZ.out.2 rfl (by decide) _ _ _ rfl (World.ownsRow.alloc (World.ownsRow.alloc HOWN'.out _) _) ⟨_, 0, none⟩ 1 1 [.int .i64 _] rfl rfl (news_one (by simp)) (by simp [Value.oneCell']) (by unfold maxLen; omega) (by omega) (by simp; omega) ?_; intro v' w3 hown3 hgrow3 _; have p1 := Box.keptBy ((q1'.alloc _).alloc _) hgrow3 (own_ne HOWN'.out (by omega)); have p2 := Box.keptBy ((q2'.alloc _).alloc _) hgrow3 (own_ne HOWN'.out (by omega)); have p3 := Box.keptBy ((Box.new w2 _ _).alloc _) hgrow3 (own_ne' HOWN'.out (Nat.le_refl _)); have hb3 := Below.grown ((hbel'.alloc hbel'.size _).alloc (by simp; have := hbel'.size; omega) _) hgrow3 (by have := hbel'.size; simp; omega) (fun k hk => by have := (HOWN'.out.lt k hk).1; omega); clear c1 f1 z1 hgrow3; have c1 := p1.cell; have f1 := p1.free; have c3 := p3.cell)))
      go_roundw
      case rel =>
        have o1 := own_far (p := ⟨w.heap.size, 0, none⟩) (u := .int .i64 s) hown3 (own_ne hown3 (by simp))
        have o2 := own_far (p := ⟨w.heap.size, 1, none⟩) (u := .int .i64 (t + m + 1)) o1 (own_ne o1 (by simp))
        exact ⟨m + 1, by omega, by go_num, by rw [← hst.out]; exact o2, by simpa [Int.add_assoc] using (p1.set 0 _).set 1 _, (p2.far (by simp) _).far (by simp) _, (hb3.setCell (Nat.le_refl _) _).setCell (Nat.le_refl _) _⟩
      case measure => simp [intOf]; omega
    · have hkm : k = (m : Int) := by omega
      have HK := Lib.hid hkm
      have hkn : k.toNat = m := by omega
      rw [hkn] at e1
      clear hkm hkn
      have c1 := q1.cell
      have f2 := q2.free
      have c2 := q2.cell
      go_wp2_with fail
      go_region
      all_goals
        go_wp2
        refine bodyPost_ret (v := .tuple #[u8, .agg #[.int .i64 s, .int .i64 (t + m)]]) (by simp [results, Try.results16, go_sem, *]) rfl ?_
        rw [e1.out, e2.out, HK.out]
        refine GivesLT.of (lo := w.heap.size + 2) (n := m) ?_ (by omega) ?_
        · have h1 := own_far (p := ⟨w.heap.size + 1, 0, none⟩) (u := .int .i64 s) HOWN.out (own_ne HOWN.out (by simp))
          have h2 := own_far (p := ⟨w.heap.size + 1, 1, none⟩) (u := .int .i64 (t + m)) h1 (own_ne h1 (by simp))
          first | exact h2 | exact World.ownsRow.drew h2
        · go_grown
end Go.Proofs.Ytknepofclgjmiaa

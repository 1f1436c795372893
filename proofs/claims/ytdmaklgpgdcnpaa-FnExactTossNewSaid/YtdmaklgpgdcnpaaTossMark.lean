/- Marks and questions over a struct of three lists. -/
import Derived.Test.YtdmaklgpgdcnpaaRows
import Derived.Test.YtdmaklgpgdcnpaaPlain
import Derived.Test.YtdmaklgpgdcnpaaMem
import Derived.Test.YtdmaklgpgdcnpaaWords
import Derived.Test.YtdmaklgpgdcnpaaList
import Derived.Test.YtdmaklgpgdcnpaaCommit
import Derived.WalkKit
import Derived.WalkSpells
import Derived.WalkLawsBesides
import Derived.Handy
import Derived.RegionTactic
import Derived.BigQuiet
import Derived.Deep.QuietTactic
import Derived.Deep.RegionWith
import Derived.Deep.RegionHeld3
import Derived.Deep.Onto
import Derived.Lib.Hide
import Derived.Test.YtdmaklgpgdcnpaaTossNew
namespace Go.Proofs.Ytdmaklgpgdcnpaa
open Go.RowKit
set_option maxHeartbeats 4000000 in
theorem c_laws_markToss (A0 A1 A2 : Option Addr) (c0 c1 c2 lo0 lo1 lo2 : Nat) (xs ys zs : List Int) (k0 : Int) (w : World) (hx : OwnI w lo0 A0 xs.length c0 xs) (hy : OwnI w lo1 A1 ys.length c1 ys) (hz : OwnI w lo2 A2 zs.length c2 zs) (h01 : Ap A0 A1) (h02 : Ap A0 A2) (h12 : Ap A1 A2) (m0 : xs.length ≤ 1048576) (m1 : ys.length ≤ 1048576) (m2 : zs.length ≤ 1048576) (hk0 : 0 ≤ k0) (hk1 : k0 ≤ 1000000000) :
    Calls Try.prog 23 #[.agg #[.slice A0 xs.length c0, .slice A1 ys.length c1, .slice A2 zs.length c2], .int .i64 k0] w fun e w' => e = .returned (.int .i64 (k0 + xs.length + ys.length + zs.length)) ∧ OwnI w' lo0 A0 xs.length c0 (seq k0 xs.length) ∧ OwnI w' lo1 A1 ys.length c1 (seq (k0 + xs.length) ys.length) ∧ OwnI w' lo2 A2 zs.length c2 (seq (k0 + xs.length + ys.length) zs.length) ∧
      ∃ wa wb, (w.alloc (.cells #[.slice A0 xs.length c0, .slice A1 ys.length c1, .slice A2 zs.length c2] 27)).grownBy wa (Value.ownBlock (.slice A0 xs.length c0)) ∧ wa.grownBy wb (Value.ownBlock (.slice A1 ys.length c1)) ∧ wb.grownBy w' (Value.ownBlock (.slice A2 zs.length c2)) := by
  have HX := Lib.hid hx
  have HY := Lib.hid hy
  have HZ := Lib.hid hz
  have H01 := Lib.hid h01
  have H02 := Lib.hid h02
  have H12 := Lib.hid h12
  clear hx hy hz h01 h02 h12
  go_enter Try.func23, Try.ntmps23
  go_wp2_with fail
  refine (c_laws_markIntS _ _ _ _ _ _ _ (World.ownsRow.alloc HX.out _) (by omega) hk0 (by omega)).mono ?_
  rintro e w1 ⟨rfl, o0, hg1⟩
  have HG1 := Lib.hid hg1
  have b1 := Box.marked (Box.new w 27 #[.slice A0 xs.length c0, .slice A1 ys.length c1, .slice A2 zs.length c2]) hg1 (fun b hb => by have := OwnI.lt HX.out b hb; omega)
  have HY1 := Lib.hid (OwnI.marked (World.ownsRow.alloc HY.out _) hg1 (fun a b ea eb => (H01.out b a eb ea).symm))
  have HZ1 := Lib.hid (OwnI.marked (World.ownsRow.alloc HZ.out _) hg1 (fun a b ea eb => (H02.out b a eb ea).symm))
  have O0 := Lib.hid o0
  have k1 := b1.cell
  have f1 := b1.free
  have l1 := b1.lt
  have y1 := OwnI.lt HY.out
  clear hg1 o0
  go_wp2_with fail
  refine (c_laws_markIntS _ _ _ _ _ _ _ HY1.out (by omega) (by omega) (by omega)).mono ?_
  rintro e w2 ⟨rfl, o1, hg2⟩
  have HG2 := Lib.hid hg2
  have b2 := Box.marked b1 hg2 (fun b hb => by have := y1 b hb; omega)
  have O0b := Lib.hid (OwnI.marked O0.out hg2 H01.out)
  have HZ2 := Lib.hid (OwnI.marked HZ1.out hg2 (fun a b ea eb => (H12.out b a eb ea).symm))
  have O1 := Lib.hid o1
  clear hg2 o1 k1 f1 b1 O0 HZ1
  have k2 := b2.cell
  have f2 := b2.free
  have l2 := b2.lt
  go_wp2_with fail
  refine (c_laws_markIntS _ _ _ _ _ _ _ HZ2.out (by omega) (by omega) (by omega)).mono ?_
  rintro e w3 ⟨rfl, o2, hg3⟩
  have HG3 := Lib.hid hg3
  have O0c := Lib.hid (OwnI.marked O0b.out hg3 H02.out)
  have O1c := Lib.hid (OwnI.marked O1.out hg3 H12.out)
  have O2 := Lib.hid o2
  clear hg3 o2
  go_wp2_with fail
  go_ret
  exact ⟨rfl, O0c.out, O1c.out, O2.out, w1, w2, HG1.out, HG2.out, HG3.out⟩
set_option maxHeartbeats 4000000 in
theorem c_laws_heldToss (A0 A1 A2 : Option Addr) (c0 c1 c2 B : Nat) (n0 n1 n2 : Nat) (k0 : Int) (w : World) (hx : SliceI w B A0 n0 (seq k0 n0)) (hy : SliceI w B A1 n1 (seq (k0 + n0) n1)) (hz : SliceI w B A2 n2 (seq (k0 + n0 + n1) n2)) (m0 : n0 ≤ 1048576) (m1 : n1 ≤ 1048576) (m2 : n2 ≤ 1048576) (hk0 : 0 ≤ k0) (hk1 : k0 ≤ 1000000000) :
    Calls Try.prog 24 #[.agg #[.slice A0 n0 c0, .slice A1 n1 c1, .slice A2 n2 c2], .int .i64 k0] w fun e w' => e = .returned (.int .i64 (k0 + n0 + n1 + n2)) ∧ Below w.heap.size w w' := by
  have HX := Lib.hid hx
  have HY := Lib.hid hy
  have HZ := Lib.hid hz
  clear hx hy hz
  have hp1 : ¬ k0 + (n0 : Int) < 0 := by omega
  have hp2 : ¬ k0 + (n0 : Int) + (n1 : Int) < 0 := by omega
  have hp3 : ¬ k0 + (n0 : Int) + (n1 : Int) + (n2 : Int) < 0 := by omega
  go_enter Try.func24, Try.ntmps24
  go_wp2_with fail
  refine (c_laws_heldIntS _ _ _ _ _ _ (SliceI.alloc0 HX.out) (by omega) hk0 (by omega)).mono ?_
  rintro e w' ⟨rfl, rfl⟩
  go_wp2_with fail
  refine (c_laws_heldIntS _ _ _ _ _ _ (SliceI.alloc0 HY.out) (by omega) (by omega) (by omega)).mono ?_
  rintro e w' ⟨rfl, rfl⟩
  go_wp2_with fail
  refine (c_laws_heldIntS _ _ _ _ _ _ (SliceI.alloc0 HZ.out) (by omega) (by omega) (by omega)).mono ?_
  rintro e w' ⟨rfl, rfl⟩
  go_wp2_with fail
  go_ret
  exact ⟨rfl, (Below.refl _ _).alloc (Nat.le_refl _) _⟩
end Go.Proofs.Ytdmaklgpgdcnpaa

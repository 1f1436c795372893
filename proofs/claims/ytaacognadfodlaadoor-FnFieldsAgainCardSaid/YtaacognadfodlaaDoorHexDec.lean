/- The walks of the decoding of a hexadecimal text: the program's (by the library's contracts) and the reference's. -/
import Derived.Test.YtaacognadfodlaaDoorRows
import Derived.Test.YtaacognadfodlaaDoorShelfHexD
import Derived.WalkKit
import Derived.WalkSpells
import Derived.WalkLawsBesides
import Derived.OwnWalk
import Derived.Handy
import Derived.PlainAid
import Derived.Laws.IdiomStrings
import Derived.Lib.HexFns2
import Derived.Deep.OwnRows
import Derived.Lib.Hide
import Derived.RegionTactic
import Derived.Deep.RegionLaw
import Derived.Deep.AppendLies
import Derived.Deep.Onto
import Derived.Lib.ConvBytes
import Derived.Deep.RegionHeld3
namespace Go.Proofs.YtaacognadfodlaaDoor
open Go.RowKit Go.PlainAid Go.Lib

theorem bytes_size (s : ByteArray) : s.data.toList.length = s.size := (Lib.size_eq s).symm
theorem belowNext {w w1 w2 : World} (h : Below w.heap.size w w1) (hb : Below w1.heap.size w1 w2) : Below w.heap.size w w2 := h.trans (hb.mono h.size)
def valI (c : Int) : Int := if 48 ≤ c ∧ c ≤ 57 then c - 48 else if 97 ≤ c ∧ c ≤ 102 then c - 97 + 10 else -1
theorem val_fin : ∀ n : Fin 256, 0 ≤ valI ((n.val : Nat) : Int) → valI ((n.val : Nat) : Int) < 16 ∧ Hx.digit (valI ((n.val : Nat) : Int)).toNat = UInt8.ofNat n.val := by decide +kernel
theorem digit_fin : ∀ d : Fin 16, valI ((Hx.digit d.val).toNat : Int) = (d.val : Int) ∧ Hx.v (Hx.digit d.val) = d.val := by decide +kernel
theorem val_at {c : UInt8} (h : 0 ≤ valI (c.toNat : Int)) : valI (c.toNat : Int) < 16 ∧ Hx.digit (valI (c.toNat : Int)).toNat = c := by
  have := val_fin ⟨c.toNat, c.toNat_lt⟩ h
  simpa using this
theorem digit_at {d : Nat} (h : d < 16) : valI ((Hx.digit d).toNat : Int) = (d : Int) ∧ Hx.v (Hx.digit d) = d := digit_fin ⟨d, h⟩
theorem decode_encode : ∀ l : List UInt8, Hx.decode (Hx.encode l) = (l, .ok)
  | [] => by rw [show Hx.encode [] = [] from rfl, Hx.decode_nil]
  | b :: t => by
    have hb := b.toNat_lt
    have h1 := (digit_at (show b.toNat / 16 < 16 by omega)).2
    have h2 := (digit_at (show b.toNat % 16 < 16 by omega)).2
    rw [Hx.encode_cons, Hx.decode_two, h1, h2, if_neg (by omega), if_neg (by omega), decode_encode t, show b.toNat / 16 * 16 + b.toNat % 16 = b.toNat by omega]
    simp
theorem enc_val {d : List UInt8} {c : UInt8} (h : c ∈ Hx.encode d) : 0 ≤ valI (c.toNat : Int) := by
  unfold Hx.encode at h
  rw [List.mem_flatMap] at h
  obtain ⟨b, _, hc⟩ := h
  have hb := b.toNat_lt
  simp only [List.mem_cons, List.not_mem_nil, or_false] at hc
  rcases hc with rfl | rfl
  · rw [(digit_at (show b.toNat / 16 < 16 by omega)).1]; omega
  · rw [(digit_at (show b.toNat % 16 < 16 by omega)).1]; omega
def decOk (l : List UInt8) : Bool := decide ((Hx.decode l).1.length ≤ 20000) && (Hx.encode (Hx.decode l).1 == l)
def decS (l : List UInt8) : ByteArray := if decOk l then ⟨(Hx.decode l).1.toArray⟩ else ⟨#[]⟩
theorem dec_is {l : List UInt8} (h : decOk l = true) : Hx.encode (Hx.decode l).1 = l ∧ (Hx.decode l).1.length ≤ 20000 := by
  simp only [decOk, Bool.and_eq_true, decide_eq_true_eq, beq_iff_eq] at h
  exact ⟨h.2, h.1⟩
theorem dec_no {l : List UInt8} (h : ∀ d, Hx.encode d = l → ¬ d.length ≤ 20000) : decOk l = false ∧ decS l = ⟨#[]⟩ := by
  have e : decOk l = false := by
    cases hd : decOk l
    · rfl
    · exact absurd (dec_is hd).2 (h _ (dec_is hd).1)
  exact ⟨e, by simp [decS, e]⟩
theorem dec_yes {l d : List UInt8} (h : Hx.encode d = l) (hd : d.length ≤ 20000) : decOk l = true ∧ decS l = ⟨d.toArray⟩ := by
  subst h
  have e := decode_encode d
  have e2 : decOk (Hx.encode d) = true := by simp [decOk, e, hd]
  exact ⟨e2, by simp [decS, e2, e]⟩
theorem dec_bad {l : List UInt8} {i : Nat} {c : UInt8} (hc : l[i]? = some c) (hv : valI (c.toNat : Int) < 0) : decOk l = false ∧ decS l = ⟨#[]⟩ :=
  dec_no fun d hd _ => by
    have := enc_val (d := d) (c := c) (by rw [hd]; exact List.mem_of_getElem? hc)
    omega
theorem dec_long {l : List UInt8} (h : 40000 < l.length ∨ l.length % 2 ≠ 0) : decOk l = false ∧ decS l = ⟨#[]⟩ :=
  dec_no fun d hd hl => by
    have := Hx.encode_length d
    rw [hd] at this
    omega
def bv (l : List UInt8) : List Value := l.map fun b => .int .u8 (b.toNat : Int)
theorem bt_at {s : ByteArray} {k : Nat} (hk : k < s.size) : ∃ c : UInt8, s.data.toList[k]? = some c ∧ bt s k = (c.toNat : Int) := by
  have hl : k < s.data.toList.length := by rw [bytes_size]; exact hk
  exact ⟨s.data.toList[k]'hl, List.getElem?_eq_getElem hl, by unfold bt; rw [dif_pos hk]; rfl⟩
theorem enc_pair {l pre : List UInt8} {k : Nat} {p q : UInt8} (h : Hx.encode pre = l.take (2 * k)) (hp : l[2 * k]? = some p) (hq : l[2 * k + 1]? = some q) (h1 : 0 ≤ valI (p.toNat : Int)) (h2 : 0 ≤ valI (q.toNat : Int)) :
    ∃ b : UInt8, (b.toNat : Int) = 16 * valI (p.toNat : Int) + valI (q.toNat : Int) ∧ Hx.encode (pre ++ [b]) = l.take (2 * (k + 1)) := by
  obtain ⟨a1, a2⟩ := val_at h1
  obtain ⟨b1, b2⟩ := val_at h2
  obtain ⟨x, hx⟩ : ∃ x : Nat, valI (p.toNat : Int) = x := ⟨(valI (p.toNat : Int)).toNat, by omega⟩
  obtain ⟨y, hy⟩ : ∃ y : Nat, valI (q.toNat : Int) = y := ⟨(valI (q.toNat : Int)).toNat, by omega⟩
  rw [hx] at a1 a2
  rw [hy] at b1 b2
  have hb : (UInt8.ofNat (16 * x + y)).toNat = 16 * x + y := by simp; omega
  refine ⟨UInt8.ofNat (16 * x + y), by rw [hb, hx, hy]; omega, ?_⟩
  have e : Hx.encode (pre ++ [UInt8.ofNat (16 * x + y)]) = Hx.encode pre ++ [p, q] := by
    unfold Hx.encode
    rw [List.flatMap_append]
    simp only [List.flatMap_cons, List.flatMap_nil, List.append_nil]
    rw [hb, show (16 * x + y) / 16 = x by omega, show (16 * x + y) % 16 = y by omega]
    rw [Int.toNat_natCast] at a2 b2
    rw [a2, b2]
  rw [e, h, show 2 * (k + 1) = 2 * k + 1 + 1 by omega, List.take_add_one, List.take_add_one, hp, hq]
  simp
set_option maxHeartbeats 400000 in
theorem c_spec_l01Value (x : Int) (w : World) (h0 : 0 ≤ x) (h1 : x ≤ 255) :
    Calls Tryd.prog 27 #[.int .u8 x] w fun e w' => e = .returned (.int .i64 (valI x)) ∧ w = w' := by
  have hw : IntKind.i64.wrap x = x := IntWalk.i64_in _ (by omega)
  by_cases a : 48 ≤ x
  · by_cases b : x ≤ 57
    · have e := Lib.hid (show valI x = x - 48 by simp [valI, a, b])
      go_enter Tryd.func27, Tryd.ntmps27
      go_wp2_with fail
      go_ret
      exact ⟨by rw [e.out]; rfl, rfl⟩
    · by_cases c : 97 ≤ x
      · by_cases d : x ≤ 102
        · have e := Lib.hid (show valI x = x - 97 + 10 by simp [valI, b, c, d])
          go_enter Tryd.func27, Tryd.ntmps27
          go_wp2_with fail
          go_ret
          exact ⟨by rw [e.out]; rfl, rfl⟩
        · have e := Lib.hid (show valI x = -1 by simp [valI, b, d])
          go_enter Tryd.func27, Tryd.ntmps27
          go_wp2_with fail
          go_ret
          exact ⟨by rw [e.out]; rfl, rfl⟩
      · have e := Lib.hid (show valI x = -1 by simp [valI, b, c])
        go_enter Tryd.func27, Tryd.ntmps27
        go_wp2_with fail
        go_ret
        exact ⟨by rw [e.out]; rfl, rfl⟩
  · have e := Lib.hid (show valI x = -1 by unfold valI; rw [if_neg (by omega), if_neg (by omega)])
    have c : ¬ 97 ≤ x := by omega
    go_enter Tryd.func27, Tryd.ntmps27
    go_wp2_with fail
    go_ret
    exact ⟨by rw [e.out]; rfl, rfl⟩
theorem byteInfo : (Tryd.prog.info? 5).map (fun i => (i.zero, i.size, i.bytes)) = some (some (.int .u8 0), 1, 1) := by kernel_rfl
theorem bv_len (l : List UInt8) : (bv l).length = l.length := by simp [bv]
theorem cells_one_new (W : World) (a : Value) (t : TypeId) : ∀ j u, [a][j]? = some u → (W.alloc (.cells #[a] t)).cell? ((⟨W.heap.size, 0, none⟩ : Addr).add j) = some u := by
  intro j u hu
  match j, hu with
  | 0, hu => simp at hu; subst hu; simp [Addr.add, World.cell?_alloc_new]
  | j + 1, hu => simp at hu
theorem pre_len {l pre : List UInt8} {k : Nat} (h : Hx.encode pre = l.take (2 * k)) (hk : 2 * k ≤ l.length) : pre.length = k := by
  have := Hx.encode_length pre
  rw [h, List.length_take] at this
  omega
set_option maxRecDepth 20000 in
set_option maxHeartbeats 8000000 in
theorem c_spec_DecodeHex (s : ByteArray) (w : World) (hs : s.size ≤ 1048576) :
    Calls Tryd.prog 10 #[.string s] w fun e w' => e = .returned (.tuple #[.string (decS s.data.toList), .bool (decOk s.data.toList)]) ∧ Below w.heap.size w w' := by
  by_cases hA : 40000 < s.size
  · obtain ⟨e1, e2⟩ := dec_long (l := s.data.toList) (Or.inl (by rw [bytes_size]; exact hA))
    have E1 := Lib.hid e1
    have E2 := Lib.hid e2
    have hle : (40000 : Int) < (s.size : Int) := by omega
    clear e1 e2
    go_enter Tryd.func10, Tryd.ntmps10
    go_wp2_with fail
    go_ret2
    exact ⟨by rw [E1.out, E2.out]; rfl, Below.refl _ _⟩
  · have hle : ¬ (40000 : Int) < (s.size : Int) := by omega
    have htm : ((s.size : Int)).tmod 2 = (s.size : Int) % 2 := Int.tmod_eq_emod_of_nonneg (by omega)
    by_cases hB : s.size % 2 = 0
    · have hev : (s.size : Int) % 2 = 0 := by omega
      obtain ⟨i0, hi, hz0, hz1, hz2⟩ := info_parts byteInfo
      have HZ := Lib.hid (And.intro hz1 hz2)
      have HB := Lib.hid hB
      clear hz1 hz2
      go_enter Tryd.func10, Tryd.ntmps10
      go_wp2_with fail
      go_loopw [4, 5, 6, 7] (fun v i _ _ wr => ∃ (k g c : Nat) (pre : List UInt8), 2 * k ≤ s.size ∧ i = .int .i64 ((2 * k : Nat) : Int) ∧ v = .slice (some ⟨g, 0, none⟩) k c ∧ wr.ownsRow w.heap.size 5 1 (.slice (some ⟨g, 0, none⟩) k c) k (bv pre) ∧ Hx.encode pre = s.data.toList.take (2 * k) ∧ Below w.heap.size w wr) (fun _ i _ _ _ => s.size - (RowKit.intOf i).toNat)
      case atStart => exact ⟨0, w.heap.size, 0, [], by omega, rfl, rfl, World.ownsRow_lit w #[] 0 (Nat.le_refl _) (by simp [maxLen]) rfl, rfl, (Below.refl _ _).alloc (Nat.le_refl _) _⟩
      case round =>
        obtain ⟨k, g, c, pre, hk, rfl, rfl, hown, hpre, hbr⟩ := hrel
        have HOWN := Lib.hid hown
        have HPRE := Lib.hid hpre
        clear hown hpre
        obtain ⟨m, hm⟩ : ∃ m : Nat, m = 2 * k := ⟨_, rfl⟩
        rw [← hm] at hk HPRE ⊢
        have HM := Lib.hid hm
        clear hm
        by_cases hlt : m < s.size
        · have hlt' : (m : Int) < (s.size : Int) := by omega
          have hlt2 : m + 1 < s.size := by have h1 := HB.out; have h2 := HM.out; omega
          have hlt2' : (m : Int) + 1 < (s.size : Int) := by omega
          have hm0 : (0 : Int) ≤ (m : Int) := by omega
          have hm1 : (0 : Int) ≤ (m : Int) + 1 := by omega
          have hmw : IntKind.i64.wrap ((m : Int) + 1) = (m : Int) + 1 := IntWalk.i64_in _ (by omega)
          have hmn : ((m : Int) + 1).toNat = m + 1 := by omega
          obtain ⟨p, hp, hbp⟩ := bt_at hlt
          obtain ⟨q, hq, hbq⟩ := bt_at hlt2
          have hg := get_bt s
          have b0 := bt_nonneg s m
          have b1 := bt_le s m
          have d0 := bt_nonneg s (m + 1)
          have d1 := bt_le s (m + 1)
          generalize hbk : bt s m = b at b0 b1 hbp
          generalize hdk : bt s (m + 1) = d at d0 d1 hbq
          have HP := Lib.hid hp
          have HQ := Lib.hid hq
          have hvp : valI b < 16 := by
            by_cases h : 0 ≤ valI b
            · rw [hbp] at h ⊢; exact (val_at h).1
            · omega
          have hvq : valI d < 16 := by
            by_cases h : 0 ≤ valI d
            · rw [hbq] at h ⊢; exact (val_at h).1
            · omega
          have HBP := Lib.hid hbp
          have HBQ := Lib.hid hbq
          clear hp hq hbp hbq
          by_cases hA : valI b < 0
          · obtain ⟨e1, e2⟩ := dec_bad HP.out (by rw [← HBP.out]; exact hA)
            have E1 := Lib.hid e1
            have E2 := Lib.hid e2
            clear e1 e2
            go_wp2_with (go_at_call 27; (with_reducible refine (c_spec_l01Value _ _ (by first | exact b0 | exact d0) (by first | exact b1 | exact d1)).mono ?_); rintro e w' ⟨rfl, rfl⟩)
            go_ret2
            exact ⟨by rw [E1.out, E2.out]; rfl, hbr⟩
          · by_cases hD : valI d < 0
            · obtain ⟨e1, e2⟩ := dec_bad HQ.out (by rw [← HBQ.out]; exact hD)
              have E1 := Lib.hid e1
              have E2 := Lib.hid e2
              clear e1 e2
              go_wp2_with (go_at_call 27; (with_reducible refine (c_spec_l01Value _ _ (by first | exact b0 | exact d0) (by first | exact b1 | exact d1)).mono ?_); rintro e w' ⟨rfl, rfl⟩)
              go_ret2
              exact ⟨by rw [E1.out, E2.out]; rfl, hbr⟩
            · obtain ⟨z, hz, hzp⟩ := enc_pair (l := s.data.toList) (k := k) (pre := pre) (p := p) (q := q) (by rw [← HM.out]; exact HPRE.out) (by rw [← HM.out]; exact HP.out) (by rw [← HM.out]; exact HQ.out) (by rw [← HBP.out]; omega) (by rw [← HBQ.out]; omega)
              rw [← HBP.out, ← HBQ.out] at hz
              have HZP := Lib.hid hzp
              have HZZ := Lib.hid hz
              clear hzp
              have hx0 : 0 ≤ valI b := by omega
              have hy0 : 0 ≤ valI d := by omega
              have hw1 : IntKind.i64.wrap (16 * valI b) = 16 * valI b := IntWalk.i64_in _ (by omega)
              have hw2 : IntKind.i64.wrap (16 * valI b + valI d) = 16 * valI b + valI d := IntWalk.i64_in _ (by omega)
              have hw3 : IntKind.u8.wrap (16 * valI b + valI d) = 16 * valI b + valI d := IntWalk.u8_in _ (by omega)
              clear hz
              have h16 : ¬ (16 * valI b + valI d) < 0 := by omega
              go_upto_region 9 with (go_at_call 27; (with_reducible refine (c_spec_l01Value _ _ (by first | exact b0 | exact d0) (by first | exact b1 | exact d1)).mono ?_); rintro e w' ⟨rfl, rfl⟩)
              generalize valI b = x at *
              generalize valI d = y at *
              have hA' : decide (x < 0) = false := by simp; omega
              have hD' : decide (y < 0) = false := by simp; omega
              go_upto_region 11 with fail
              have hkb : k ≤ 20000 := by have := HM.out; omega
              go_wp2_with (refine wpList_append_lies _ rfl (.tmp 39) (.tmp 45) 34 rfl w.heap.size 5 i0 (.int .u8 0) 1 1 Tryd.underlying34 hi hz0 HZ.out.1 HZ.out.2 rfl (by decide) _ k _ rfl (HOWN.out.alloc _) ⟨_, 0, none⟩ 1 1 [.int .u8 (16 * x + y)] rfl rfl (cells_one_new _ _ _) (by simp [Value.oneCell']) (by omega) (by unfold maxLen; omega) (by omega) (by have := hbr.size; simp; omega) _ rfl ?_; intro g2 cap2 w5 hown5 hgrow5 _ _)
              have hb5 : Below w.heap.size w w5 := Below.grown (hbr.alloc hbr.size _) hgrow5 (by have := hbr.size; simp; omega) (fun j hj => (HOWN.out.lt j hj).1)
              have hst : bv pre ++ [.int .u8 (16 * x + y)] = bv (pre ++ [z]) := by simp [bv, HZZ.out]
              rw [hst] at hown5
              have h2 : (m : Int) + 2 = ((2 * (k + 1) : Nat) : Int) := by have := HM.out; omega
              have hw4 : IntKind.i64.wrap ((m : Int) + 2) = (m : Int) + 2 := IntWalk.i64_in _ (by omega)
              have H2 := Lib.hid h2
              clear h2
              go_wp2_with fail
              go_roundw
              case rel => exact ⟨k + 1, g2, cap2, pre ++ [z], by have := HM.out; omega, congrArg (Value.int .i64) H2.out, rfl, hown5, HZP.out, hb5⟩
              case measure => simp [RowKit.intOf]; omega
        · obtain rfl : m = s.size := by omega
          have hpl := pre_len (l := s.data.toList) (pre := pre) (k := k) (by rw [← HM.out]; exact HPRE.out) (by rw [← HM.out, bytes_size]; exact Nat.le_refl _)
          have hpe : Hx.encode pre = s.data.toList := by rw [HPRE.out]; exact List.take_of_length_le (by rw [bytes_size]; exact Nat.le_refl _)
          obtain ⟨e1, e2⟩ := dec_yes hpe (by rw [hpl]; have := HM.out; omega)
          have E1 := Lib.hid e1
          have E2 := Lib.hid e2
          have hO := HOWN.out
          have hconv := run_convert_bytes_back (P := Tryd.prog) wr 34 9 5 ⟨g, 0, none⟩ c pre Tryd.underlying34 Tryd.underlying5 Tryd.underlying9 (fun j hj => by
            have h1 := World.ownsRow.cellAt hO j (by omega)
            have e : ((⟨g, 0, none⟩ : Addr).add j) = ⟨g, j, none⟩ := by unfold Addr.add; split <;> simp_all
            rw [e, h1]
            simp [bv, List.getElem?_eq_getElem hj])
          rw [hpl] at hconv
          have hlt' : ¬ (s.size : Int) < (s.size : Int) := by omega
          clear hO HOWN e1 e2 hpl hpe
          go_wp2_with fail
          go_ret2
          exact ⟨by rw [E1.out, E2.out]; rfl, hbr⟩
    · obtain ⟨e1, e2⟩ := dec_long (l := s.data.toList) (Or.inr (by rw [bytes_size]; exact hB))
      have E1 := Lib.hid e1
      have E2 := Lib.hid e2
      have hod : ¬ (s.size : Int) % 2 = 0 := by omega
      clear e1 e2
      go_enter Tryd.func10, Tryd.ntmps10
      go_wp2_with fail
      go_ret2
      exact ⟨by rw [E1.out, E2.out]; rfl, Below.refl _ _⟩
theorem dec_notok {l : List UInt8} (h : (Hx.decode l).2 ≠ .ok) : decOk l = false ∧ decS l = ⟨#[]⟩ :=
  dec_no fun d hd _ => h (by rw [← hd, decode_encode])
theorem s_of {s : ByteArray} {d : List UInt8} (h : Hx.encode d = s.data.toList) : (⟨(Hx.encode d).toArray⟩ : ByteArray) = s := by
  rw [h]
theorem s_not {s : ByteArray} {d : List UInt8} (h : Hx.encode d ≠ s.data.toList) : (⟨(Hx.encode d).toArray⟩ : ByteArray) ≠ s := by
  intro e
  exact h (by rw [← e])
theorem hex_Decode (s : ByteArray) (w : World) (ev : Value) (hE : w.cell? ⟨0, 0, none⟩ = some ev) (hbig : s.size ≤ 281474976710656) :
    Calls Tryd.prog 28 #[.string s] w fun e w' =>
      e = .returned (.tuple #[.slice (some ⟨w.heap.size, 0, none⟩) (Hx.decode s.data.toList).1.length (s.size / 2), Hx.errVal 64 ev (Hx.decode s.data.toList).2]) ∧
      (∀ i (h : i < (Hx.decode s.data.toList).1.length), w'.cell? ⟨w.heap.size, i, none⟩ = some (.int .u8 (((Hx.decode s.data.toList).1[i]'h).toNat : Int))) ∧ w.heap.size < w'.heap.size ∧ Below w.heap.size w w' := by
  refine (Tryd.hex_DecodeString s w ev hE hbig).mono ?_
  rintro e w' ⟨rfl, hrow, hb⟩
  refine ⟨rfl, fun i hi => ?_, ?_, hb⟩
  · have hlen := Hx.decode_len s.data.toList
    rw [bytes_size] at hlen
    have hc := hrow.cell (i := i) (by omega)
    rw [hc]
    simp only [Hx.rowP]
    rw [if_pos ⟨Nat.zero_le _, by omega⟩, Nat.sub_zero, List.getElem?_eq_getElem hi]
    rfl
  · exact hrow.lt
set_option maxRecDepth 20000 in
set_option maxHeartbeats 4000000 in
theorem c_impl_DecodeHex (s : ByteArray) (w : World) (hs : s.size ≤ 1048576) (hE : ∃ T x, w.cell? ⟨0, 0, none⟩ = some (.iface T x)) :
    Calls Tryd.prog 11 #[.string s] w fun e w' => e = .returned (.tuple #[.string (decS s.data.toList), .bool (decOk s.data.toList)]) ∧ Below w.heap.size w w' := by
  obtain ⟨T, x, hE⟩ := hE
  have HC := Lib.hid (hex_Decode s w _ hE (by omega))
  have hlen := Hx.decode_len s.data.toList
  rw [bytes_size] at hlen
  clear hE
  generalize hd : Hx.decode s.data.toList = dd at HC hlen
  obtain ⟨d, o⟩ := dd
  have HD := Lib.hid hd
  clear hd
  simp only at HC hlen
  cases o with
  | ok =>
    simp only [Hx.errVal] at HC
    by_cases hA : d.length ≤ 20000
    · have hA' : ¬ (20000 : Int) < (d.length : Int) := by omega
      have HENC : Hid (∀ W1 : World, (∀ i (h : i < d.length), W1.cell? ⟨w.heap.size, i, none⟩ = some (.int .u8 ((d[i]'h).toNat : Int))) → w.heap.size < W1.heap.size → Calls Tryd.prog 29 #[.slice (some ⟨w.heap.size, 0, none⟩) d.length (s.size / 2)] W1 fun e w' => e = .returned (.string ⟨(Hx.encode d).toArray⟩) ∧ Below W1.heap.size W1 w') := by
        refine Lib.hid fun W1 h1 h2 => ?_
        exact Tryd.hex_EncodeToString_bytes w.heap.size 0 _ d W1 (fun i hi => by rw [Nat.zero_add]; exact h1 i hi) h2 (by omega)
      by_cases hB : Hx.encode d = s.data.toList
      · obtain ⟨e1, e2⟩ := dec_yes hB hA
        have E1 := Lib.hid e1
        have E2 := Lib.hid e2
        have hse := s_of hB
        clear e1 e2
        go_enter Tryd.func11, Tryd.ntmps11
        go_wp2_with (first | (go_at_call 28; (with_reducible refine HC.out.mono ?_); rintro e w1 ⟨rfl, hcells, hlt, hb1⟩) | (go_at_call 29; (with_reducible refine (HENC.out _ hcells hlt).mono ?_); rintro e w2 ⟨rfl, hb2⟩))
        all_goals
          have hconv := run_convert_bytes_back (P := Tryd.prog) w2 34 9 5 ⟨w.heap.size, 0, none⟩ (s.size / 2) d Tryd.underlying34 Tryd.underlying5 Tryd.underlying9 (fun j hj => by
            have e : ((⟨w.heap.size, 0, none⟩ : Addr).add j) = ⟨w.heap.size, j, none⟩ := by unfold Addr.add; split <;> simp_all
            rw [e, hb2.cell (by exact hlt)]
            exact hcells j hj)
          rw [hconv]
          go_wp2_with fail
          go_ret2
          exact ⟨by rw [E1.out, E2.out]; rfl, belowNext hb1 hb2⟩
      · have e1 : decOk s.data.toList = false := by simp only [decOk, HD.out, Bool.and_eq_false_iff, beq_eq_false_iff_ne, ne_eq, decide_eq_false_iff_not]; exact Or.inr hB
        have e2 : decS s.data.toList = ⟨#[]⟩ := by simp [decS, e1]
        have E1 := Lib.hid e1
        have E2 := Lib.hid e2
        have hse := s_not hB
        have hst : (Hx.encode d == s.toList) = false := by rw [ByteArray.toList_eq]; exact beq_eq_false_iff_ne.2 hB
        clear e1 e2
        go_enter Tryd.func11, Tryd.ntmps11
        go_wp2_with (first | (go_at_call 28; (with_reducible refine HC.out.mono ?_); rintro e w1 ⟨rfl, hcells, hlt, hb1⟩) | (go_at_call 29; (with_reducible refine (HENC.out _ hcells hlt).mono ?_); rintro e w2 ⟨rfl, hb2⟩))
        go_ret2
        exact ⟨by rw [E1.out, E2.out]; rfl, belowNext hb1 hb2⟩
    · have e1 : decOk s.data.toList = false := by simp only [decOk, HD.out, Bool.and_eq_false_iff, beq_eq_false_iff_ne, ne_eq, decide_eq_false_iff_not]; exact Or.inl hA
      have e2 : decS s.data.toList = ⟨#[]⟩ := by simp [decS, e1]
      have E1 := Lib.hid e1
      have E2 := Lib.hid e2
      have hA' : (20000 : Int) < (d.length : Int) := by omega
      clear e1 e2
      go_enter Tryd.func11, Tryd.ntmps11
      go_wp2_with (go_at_call 28; (with_reducible refine HC.out.mono ?_); rintro e w1 ⟨rfl, hcells, hlt, hb1⟩)
      go_ret2
      exact ⟨by rw [E1.out, E2.out]; rfl, hb1⟩
  | bad c =>
    simp only [Hx.errVal] at HC
    obtain ⟨e1, e2⟩ := dec_notok (l := s.data.toList) (by rw [HD.out]; simp)
    have E1 := Lib.hid e1
    have E2 := Lib.hid e2
    clear e1 e2
    go_enter Tryd.func11, Tryd.ntmps11
    go_wp2_with (go_at_call 28; (with_reducible refine HC.out.mono ?_); rintro e w1 ⟨rfl, hcells, hlt, hb1⟩)
    go_ret2
    exact ⟨by rw [E1.out, E2.out]; rfl, hb1⟩
  | odd =>
    simp only [Hx.errVal] at HC
    obtain ⟨e1, e2⟩ := dec_notok (l := s.data.toList) (by rw [HD.out]; simp)
    have E1 := Lib.hid e1
    have E2 := Lib.hid e2
    clear e1 e2
    go_enter Tryd.func11, Tryd.ntmps11
    go_wp2_with (go_at_call 28; (with_reducible refine HC.out.mono ?_); rintro e w1 ⟨rfl, hcells, hlt, hb1⟩)
    go_ret2
    exact ⟨by rw [E1.out, E2.out]; rfl, hb1⟩
end Go.Proofs.YtaacognadfodlaaDoor

/- The walks of the hexadecimal encoding: the program's (by the library's contract) and the reference's. -/
import Derived.Test.YtaacognadfodlaaRows
import Derived.Test.YtaacognadfodlaaShelfE
import Derived.WalkKit
import Derived.WalkSpells
import Derived.WalkLawsBesides
import Derived.OwnWalk
import Derived.Handy
import Derived.RegionTactic
import Derived.Deep.RegionLaw
import Derived.Deep.AppendLies
import Derived.Deep.Onto
import Derived.Lib.ConvBytes
import Derived.Laws.IdiomStrings
import Derived.Lib.Hide
import Derived.PlainAid
import Derived.Deep.RegionHeld3
namespace Go.Proofs.Ytaacognadfodlaa
open Go.RowKit Go.PlainAid

theorem byte_info : (Try.prog.info? 5).map (fun i => (i.zero, i.size, i.bytes)) = some (some (.int .u8 0), 1, 1) := by kernel_rfl
theorem below_next {w w1 w2 : World} (h : Below w.heap.size w w1) (hb : Below w1.heap.size w1 w2) : Below w.heap.size w w2 := h.trans (hb.mono h.size)
def encOk (s : ByteArray) : Bool := decide (s.size ≤ 20000)
def encS (s : ByteArray) : ByteArray := if s.size ≤ 20000 then ⟨(Lib.Hx.encode s.data.toList).toArray⟩ else ⟨#[]⟩
theorem enc_no {s : ByteArray} (h : ¬ s.size ≤ 20000) : encS s = ⟨#[]⟩ ∧ encOk s = false := by simp [encS, encOk, h]
theorem enc_yes {s : ByteArray} (h : s.size ≤ 20000) : encS s = ⟨(Lib.Hx.encode s.data.toList).toArray⟩ ∧ encOk s = true := by simp [encS, encOk, h]
theorem bytes_size (s : ByteArray) : s.data.toList.length = s.size := (Lib.size_eq s).symm
theorem below_bytes (w : World) (e : TypeId) (s : ByteArray) : Below w.heap.size w (Lib.bytesWorld w e s) :=
  ⟨rfl, rfl, rfl, by rw [Lib.bytesWorld_size]; omega, fun i hi => Lib.bytesWorld_at_old w e s i hi⟩

set_option maxHeartbeats 4000000 in
theorem c_impl_EncodeHex (s : ByteArray) (w : World) (hs : s.size ≤ 1048576) :
    Calls Try.prog 5 #[.string s] w fun e w' => e = .returned (.tuple #[.string (encS s), .bool (encOk s)]) ∧ Below w.heap.size w w' := by
  by_cases h : s.size ≤ 20000
  · obtain ⟨e1, e2⟩ := enc_yes h
    have E1 := Lib.hid e1
    have E2 := Lib.hid e2
    have hconv := Lib.run_convert_string_bytes (P := Try.prog) (u := .string) w 9 25 5 s Try.underlying9 Try.underlying25 Try.underlying5
    have hl := bytes_size s
    have HC : Hid (∀ cap, Calls Try.prog 7 #[.slice (some ⟨w.heap.size, 0, none⟩) s.size cap] (Lib.bytesWorld w 5 s) fun e w' => e = .returned (.string ⟨(Lib.Hx.encode s.data.toList).toArray⟩) ∧ Below (Lib.bytesWorld w 5 s).heap.size (Lib.bytesWorld w 5 s) w') := by
      intro cap
      have h1 := Try.hex_EncodeToString_bytes w.heap.size 0 cap s.data.toList (Lib.bytesWorld w 5 s) (fun i hi => by
        rw [Nat.zero_add, Lib.bytesWorld_cell w 5 s i (by omega), List.getD_eq_getElem?_getD, List.getElem?_eq_getElem hi]; rfl) (by rw [Lib.bytesWorld_size]; omega) (by omega)
      rw [hl] at h1
      exact h1
    have HB := Lib.hid (below_bytes w 5 s)
    have hle : ¬ (20000 : Int) < (s.size : Int) := by omega
    clear e1 e2 hl
    generalize Lib.bytesWorld w 5 s = w1 at *
    go_enter Try.func5, Try.ntmps5
    go_wp2_with (go_at_call 7; (with_reducible refine (HC.out _).mono ?_); rintro e w2 ⟨rfl, hb⟩)
    go_ret2
    exact ⟨by rw [E1.out, E2.out]; rfl, below_next HB.out hb⟩
  · obtain ⟨e1, e2⟩ := enc_no h
    have E1 := Lib.hid e1
    have E2 := Lib.hid e2
    have hle : (20000 : Int) < (s.size : Int) := by omega
    clear e1 e2
    go_enter Try.func5, Try.ntmps5
    go_wp2_with fail
    go_ret2
    exact ⟨by rw [E1.out, E2.out]; rfl, Below.refl _ _⟩
theorem cells_two_new (W : World) (a b : Value) (t : TypeId) : ∀ j u, [a, b][j]? = some u → (W.alloc (.cells #[a, b] t)).cell? ((⟨W.heap.size, 0, none⟩ : Addr).add j) = some u := by
  intro j u hu
  match j, hu with
  | 0, hu => simp at hu; subst hu; simp [Addr.add, World.cell?_alloc_new]
  | 1, hu => simp at hu; subst hu; simp [Addr.add, World.cell?_alloc_new]
  | j + 2, hu => simp at hu
def figI (x : Int) : Int := if x < 10 then 48 + x else 87 + x
theorem fig_digit : ∀ d : Nat, d < 16 → ((Lib.Hx.digit d).toNat : Int) = figI (d : Int) := by decide
def bv (l : List UInt8) : List Value := l.map fun b => .int .u8 (b.toNat : Int)
theorem bv_len (l : List UInt8) : (bv l).length = l.length := by simp [bv]
theorem enc_len (s : ByteArray) (k : Nat) (hk : k ≤ s.size) : (Lib.Hx.encode (s.data.toList.take k)).length = 2 * k := by
  rw [Lib.Hx.encode_length, List.length_take, bytes_size]; omega
theorem enc_step {s : ByteArray} {k : Nat} (hk : k < s.size) : bv (Lib.Hx.encode (s.data.toList.take k)) ++ [.int .u8 (figI (bt s k / 16)), .int .u8 (figI (bt s k % 16))] = bv (Lib.Hx.encode (s.data.toList.take (k + 1))) := by
  have hl : k < s.data.toList.length := by rw [bytes_size]; exact hk
  rw [List.take_succ_eq_append_getElem hl]
  have e : bt s k = ((s.data.toList[k]'hl).toNat : Int) := by
    unfold bt; rw [dif_pos hk]; rfl
  generalize s.data.toList[k]'hl = b at e
  have hb := b.toNat_lt
  have e2 : Lib.Hx.encode (s.data.toList.take k ++ [b]) = Lib.Hx.encode (s.data.toList.take k) ++ [Lib.Hx.digit (b.toNat / 16), Lib.Hx.digit (b.toNat % 16)] := by
    unfold Lib.Hx.encode; rw [List.flatMap_append]; simp
  rw [e2, e]
  have h1 : (b.toNat : Int) / 16 = ((b.toNat / 16 : Nat) : Int) := by omega
  have h2 : (b.toNat : Int) % 16 = ((b.toNat % 16 : Nat) : Int) := by omega
  rw [h1, h2, ← fig_digit _ (by omega), ← fig_digit _ (by omega)]
  simp [bv]
set_option maxHeartbeats 400000 in
theorem c_spec_l01Figure (x : Int) (w : World) (h0 : 0 ≤ x) (h1 : x ≤ 15) :
    Calls Try.prog 6 #[.int .i64 x] w fun e w' => e = .returned (.int .u8 (figI x)) ∧ w = w' := by
  by_cases h : x < 10
  · have e := Lib.hid (show figI x = 48 + x by simp [figI, h])
    have hw : IntKind.u8.wrap (48 + x) = 48 + x := IntWalk.u8_in _ (by omega)
    go_enter Try.func6, Try.ntmps6
    go_wp2_with fail
    go_ret
    exact ⟨by rw [e.out]; rfl, rfl⟩
  · have e := Lib.hid (show figI x = 97 + x - 10 by simp [figI, h]; omega)
    have hw : IntKind.u8.wrap (97 + x - 10) = 97 + x - 10 := IntWalk.u8_in _ (by omega)
    go_enter Try.func6, Try.ntmps6
    go_wp2_with fail
    go_ret
    exact ⟨by rw [e.out]; rfl, rfl⟩
set_option maxHeartbeats 8000000 in
theorem c_spec_EncodeHex (s : ByteArray) (w : World) (hs : s.size ≤ 1048576) :
    Calls Try.prog 4 #[.string s] w fun e w' => e = .returned (.tuple #[.string (encS s), .bool (encOk s)]) ∧ Below w.heap.size w w' := by
  by_cases h : s.size ≤ 20000
  · obtain ⟨e1, e2⟩ := enc_yes h
    have E1 := Lib.hid e1
    have E2 := Lib.hid e2
    have hle : ¬ (20000 : Int) < (s.size : Int) := by omega
    obtain ⟨i0, hi, hz0, hz1, hz2⟩ := info_parts byte_info
    have HZ := Lib.hid (And.intro hz1 hz2)
    clear e1 e2 hz1 hz2
    go_enter Try.func4, Try.ntmps4
    go_wp2_with fail
    go_loopw [4, 5] (fun v i wr => ∃ (k g c : Nat), k ≤ s.size ∧ i = .int .i64 k ∧ v = .slice (some ⟨g, 0, none⟩) (2 * k) c ∧ wr.ownsRow w.heap.size 5 1 (.slice (some ⟨g, 0, none⟩) (2 * k) c) (2 * k) (bv (Lib.Hx.encode (s.data.toList.take k))) ∧ Below w.heap.size w wr) (fun _ i _ => s.size - (intOf i).toNat)
    case atStart => exact ⟨0, w.heap.size, 0, by omega, rfl, rfl, World.ownsRow_lit w #[] 0 (Nat.le_refl _) (by simp [maxLen]) rfl, (Below.refl _ _).alloc (Nat.le_refl _) _⟩
    case round =>
      obtain ⟨k, g, c, hk, rfl, rfl, hown, hbr⟩ := hrel
      have HOWN := Lib.hid hown
      clear hown
      by_cases hlt : k < s.size
      · have hlt' : (k : Int) < (s.size : Int) := by omega
        have hk0 : (0 : Int) ≤ (k : Int) := by omega
        have hst := Lib.hid (enc_step hlt)
        have hg := get_bt s
        have hb0 := bt_nonneg s k
        have hb1 := bt_le s k
        generalize hbk : bt s k = b at hst hb0 hb1
        have hwb : IntKind.i64.wrap b = b := IntWalk.i64_in _ (by omega)
        have hq1 : IntKind.i64.wrap (b.tdiv 16) = b / 16 := IntWalk.i64_quo _ _ (by omega)
        have hr1 : b.tmod 16 = b % 16 := Int.tmod_eq_emod_of_nonneg hb0
        have hd0 : 0 ≤ b / 16 := by omega
        have hd1 : b / 16 ≤ 15 := by omega
        have hm0 : 0 ≤ b % 16 := by omega
        have hm1 : b % 16 ≤ 15 := by omega
        go_wp2_with fail
        go_region_held3 (fun _ => True) (exact trivial) (first | (go_at_call 6; (with_reducible refine (c_spec_l01Figure _ _ (by first | exact hd0 | exact hm0) (by first | exact hd1 | exact hm1)).mono ?_); rintro e w' ⟨rfl, rfl⟩) | ((refine step_append_lies _ (by rfl) (.tmp 16) (.tmp 29) 25 (by rfl) w.heap.size 5 i0 (.int .u8 0) 1 1 Try.underlying25 hi hz0 HZ.out.1 HZ.out.2 rfl (by decide) _ (2 * k) _ (by rfl) ((World.ownsRow.drew HOWN.out).alloc _) ⟨_, 0, none⟩ 2 2 [.int .u8 (figI (b / 16)), .int .u8 (figI (b % 16))] (by rfl) rfl (cells_two_new _ _ _ _) (by simp [Value.oneCell']) (by omega) (by unfold maxLen; omega) (by omega) (by have := hbr.size; simp; omega) _ (by rfl) ?_; intro g2 cap2 w5 hown5 hgrow5 _ _)))
        all_goals
          have hb5 : Below w.heap.size w w5 := Below.grown ((Below.drew hbr).alloc (Below.drew hbr).size _) hgrow5 (by have := hbr.size; simp; omega) (fun j hj => (HOWN.out.lt j hj).1)
          go_wp2_with fail
          go_roundw
          case rel => exact ⟨k + 1, g2, cap2, by omega, by go_num, by rfl, by rw [← hst.out]; exact hown5, hb5⟩
          case measure => simp [intOf]; omega
      · obtain rfl : k = s.size := by omega
        have hlen := enc_len s s.size (Nat.le_refl _)
        have htk : s.data.toList.take s.size = s.data.toList := List.take_of_length_le (by rw [bytes_size]; exact Nat.le_refl _)
        rw [htk] at hlen
        have hO := HOWN.out
        rw [htk] at hO
        have hconv := run_convert_bytes_back (P := Try.prog) wr 25 9 5 ⟨g, 0, none⟩ c (Lib.Hx.encode s.data.toList) Try.underlying25 Try.underlying5 Try.underlying9 (fun j hj => by
          have h1 := World.ownsRow.cellAt hO j (by omega)
          have e : ((⟨g, 0, none⟩ : Addr).add j) = ⟨g, j, none⟩ := by unfold Addr.add; split <;> simp_all
          rw [e, h1]
          simp [bv, List.getElem?_eq_getElem hj])
        rw [hlen] at hconv
        have hlt' : ¬ (s.size : Int) < (s.size : Int) := by omega
        clear hO HOWN
        go_wp2_with fail
        go_ret2
        exact ⟨by rw [E1.out, E2.out]; rfl, hbr⟩
  · obtain ⟨e1, e2⟩ := enc_no h
    have E1 := Lib.hid e1
    have E2 := Lib.hid e2
    have hle : (20000 : Int) < (s.size : Int) := by omega
    clear e1 e2
    go_enter Try.func4, Try.ntmps4
    go_wp2_with fail
    go_ret2
    exact ⟨by rw [E1.out, E2.out]; rfl, Below.refl _ _⟩
end Go.Proofs.Ytaacognadfodlaa

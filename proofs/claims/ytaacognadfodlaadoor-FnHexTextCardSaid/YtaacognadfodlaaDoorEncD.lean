/- The walk of the program's hexadecimal encoding (by the library's contract). -/
import Derived.Test.YtaacognadfodlaaDoorHexDec
import Derived.Lib.ConvBytes
namespace Go.Proofs.YtaacognadfodlaaDoor
open Go.RowKit Go.PlainAid
def encOk (s : ByteArray) : Bool := decide (s.size ≤ 20000)
def encS (s : ByteArray) : ByteArray := if s.size ≤ 20000 then ⟨(Lib.Hx.encode s.data.toList).toArray⟩ else ⟨#[]⟩
theorem enc_no {s : ByteArray} (h : ¬ s.size ≤ 20000) : encS s = ⟨#[]⟩ ∧ encOk s = false := by simp [encS, encOk, h]
theorem enc_yes {s : ByteArray} (h : s.size ≤ 20000) : encS s = ⟨(Lib.Hx.encode s.data.toList).toArray⟩ ∧ encOk s = true := by simp [encS, encOk, h]
theorem belowBytesE (w : World) (e : TypeId) (s : ByteArray) : Below w.heap.size w (Lib.bytesWorld w e s) :=
  ⟨rfl, rfl, rfl, by rw [Lib.bytesWorld_size]; omega, fun i hi => Lib.bytesWorld_at_old w e s i hi⟩

set_option maxHeartbeats 4000000 in
theorem c_impl_EncodeHex (s : ByteArray) (w : World) (hs : s.size ≤ 1048576) :
    Calls Tryd.prog 26 #[.string s] w fun e w' => e = .returned (.tuple #[.string (encS s), .bool (encOk s)]) ∧ Below w.heap.size w w' := by
  by_cases h : s.size ≤ 20000
  · obtain ⟨e1, e2⟩ := enc_yes h
    have E1 := Lib.hid e1
    have E2 := Lib.hid e2
    have hconv := Lib.run_convert_string_bytes (P := Tryd.prog) (u := .string) w 9 34 5 s Tryd.underlying9 Tryd.underlying34 Tryd.underlying5
    have hl := bytes_size s
    have HC : Hid (∀ cap, Calls Tryd.prog 29 #[.slice (some ⟨w.heap.size, 0, none⟩) s.size cap] (Lib.bytesWorld w 5 s) fun e w' => e = .returned (.string ⟨(Lib.Hx.encode s.data.toList).toArray⟩) ∧ Below (Lib.bytesWorld w 5 s).heap.size (Lib.bytesWorld w 5 s) w') := by
      intro cap
      have h1 := Tryd.hex_EncodeToString_bytes w.heap.size 0 cap s.data.toList (Lib.bytesWorld w 5 s) (fun i hi => by
        rw [Nat.zero_add, Lib.bytesWorld_cell w 5 s i (by omega), List.getD_eq_getElem?_getD, List.getElem?_eq_getElem hi]; rfl) (by rw [Lib.bytesWorld_size]; omega) (by omega)
      rw [hl] at h1
      exact h1
    have HB := Lib.hid (belowBytesE w 5 s)
    have hle : ¬ (20000 : Int) < (s.size : Int) := by omega
    clear e1 e2 hl
    generalize Lib.bytesWorld w 5 s = w1 at *
    go_enter Tryd.func26, Tryd.ntmps26
    go_wp2_with (go_at_call 29; (with_reducible refine (HC.out _).mono ?_); rintro e w2 ⟨rfl, hb⟩)
    go_ret2
    exact ⟨by rw [E1.out, E2.out]; rfl, belowNext HB.out hb⟩
  · obtain ⟨e1, e2⟩ := enc_no h
    have E1 := Lib.hid e1
    have E2 := Lib.hid e2
    have hle : (20000 : Int) < (s.size : Int) := by omega
    clear e1 e2
    go_enter Tryd.func26, Tryd.ntmps26
    go_wp2_with fail
    go_ret2
    exact ⟨by rw [E1.out, E2.out]; rfl, Below.refl _ _⟩
end Go.Proofs.YtaacognadfodlaaDoor

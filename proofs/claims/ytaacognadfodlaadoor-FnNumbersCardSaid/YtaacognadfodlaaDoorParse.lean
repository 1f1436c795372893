/- The walks of the reading of a number's decimal text: the program's (by the library's contracts) and the reference's. -/
import Derived.Test.YtaacognadfodlaaDoorRows
import Derived.Test.YtaacognadfodlaaDoorShelfAtoi
import Derived.Test.YtaacognadfodlaaDoorDecText
import Derived.WalkKit
import Derived.WalkSpells
import Derived.WalkLawsBesides
import Derived.OwnWalk
import Derived.Handy
import Derived.PlainAid
import Derived.Laws.IdiomStrings
import Derived.Lib.AtoiTie
import Derived.Lib.AtoiAllCases
import Derived.Lib.ItoaNum
import Derived.Lib.ItoaMem
import Derived.Lib.ItoaLen
import Derived.Lib.Hide
import Derived.Deep.RegionHeld3
namespace Go.Proofs.YtaacognadfodlaaDoor
open Go.RowKit Go.PlainAid

theorem bytes_size' (s : ByteArray) : s.data.toList.length = s.size := (Lib.size_eq s).symm
theorem decFrom_snoc (b : UInt8) : ∀ (l : List UInt8) (acc n d : Nat), Lib.decFrom acc l = some n → Lib.digitVal b = some d → Lib.decFrom acc (l ++ [b]) = some (n * 10 + d)
  | [], acc, n, d, h, hd => by
    simp only [Lib.decFrom, Option.some.injEq] at h
    subst h
    simp [Lib.decFrom, hd]
  | a :: t, acc, n, d, h, hd => by
    simp only [Lib.decFrom, List.cons_append] at h ⊢
    cases ha : Lib.digitVal a with
    | none => simp [ha] at h
    | some e =>
      simp only [ha] at h ⊢
      exact decFrom_snoc b t _ n d h hd
theorem fig_val {k : Nat} (h : k < 10) : Lib.digitVal (UInt8.ofNat (48 + k)) = some k := by
  have e : (UInt8.ofNat (48 + k)).toNat = 48 + k := by simp; omega
  unfold Lib.digitVal
  rw [e, if_pos (by omega)]
  simp
theorem dz_val : ∀ (m : Nat), Lib.decFrom 0 (dz m) = some m := by
  intro m
  induction m using Nat.strongRecOn with
  | _ m ih =>
    by_cases h : m = 0
    · subst h; rfl
    · rw [dz_step h, decFrom_snoc _ _ _ _ _ (ih (m / 10) (by omega)) (fig_val (Nat.mod_lt _ (by omega)))]
      congr 1; omega
theorem dec_zero : Lib.decDigits 0 = [48] := by rw [Lib.decDigits]; rfl
theorem dec_val (m : Nat) : Lib.decFrom 0 (Lib.decDigits m) = some m := by
  by_cases h : m = 0
  · subst h; rw [dec_zero]; rfl
  · rw [← dz_pos h]; exact dz_val m
theorem dz_len : ∀ (k m : Nat), m < 10 ^ k → (dz m).length ≤ k
  | 0, m, h => by
    have : m = 0 := by simpa using h
    subst this
    simp [dz]
  | k + 1, m, h => by
    by_cases h0 : m = 0
    · subst h0; simp [dz]
    · rw [dz_step h0, List.length_append]
      have := dz_len k (m / 10) (by rw [Nat.pow_succ] at h; omega)
      simp; omega
theorem dec_len {m : Nat} (h : m ≤ 1000000000) : (Lib.decDigits m).length ≤ 10 := by
  by_cases h0 : m = 0
  · subst h0; rw [dec_zero]; simp
  · rw [← dz_pos h0]; exact dz_len 10 m (by omega)
theorem dec_ne (m : Nat) : Lib.decDigits m ≠ [] := by
  by_cases h0 : m = 0
  · subst h0; rw [dec_zero]; simp
  · rw [← dz_pos h0, dz_step h0]; simp
theorem dec_digit {m : Nat} {b : UInt8} {k : Nat} (h : (Lib.decDigits m)[k]? = some b) : 48 ≤ b.toNat ∧ b.toNat ≤ 57 := by
  obtain ⟨d, hd⟩ := Lib.digit_of_decFrom _ 0 m (dec_val m) k b h
  unfold Lib.digitVal at hd
  split at hd
  · assumption
  · simp at hd
theorem dec_atoi {m : Nat} (h : m ≤ 1000000000) : Lib.atoiAll (Lib.decDigits m) = .ok (m : Int) := by
  rw [Lib.atoiAll_short _ (by have := dec_len h; omega)]
  have e : Lib.atoi (Lib.decDigits m) = some (m : Int) := by
    have hv := dec_val m
    have hd := fun b k => dec_digit (m := m) (b := b) (k := k)
    have hn := dec_ne m
    generalize Lib.decDigits m = l at hv hd hn
    cases l with
    | nil => exact absurd rfl hn
    | cons b r =>
      have h0 := hd b 0 (by simp)
      have n1 : ¬ b = 45 := fun e => by subst e; exact absurd h0.1 (by decide)
      have n2 : ¬ b = 43 := fun e => by subst e; exact absurd h0.1 (by decide)
      simp [Lib.atoi, n1, n2, Lib.decNat, hv]
  rw [e]
  rfl
def pu (l : List UInt8) : Option Nat := match Lib.decFrom 0 l with
  | some m => if m ≤ 1000000000 ∧ Lib.decDigits m = l then some m else none
  | none => none
theorem pu_yes {m : Nat} {l : List UInt8} (h : Lib.decDigits m = l) (hm : m ≤ 1000000000) : pu l = some m := by
  subst h
  unfold pu
  rw [dec_val]
  simp [hm]
theorem pu_no {l : List UInt8} (h : ∀ m, m ≤ 1000000000 → Lib.decDigits m ≠ l) : pu l = none := by
  unfold pu
  split
  · rename_i m hm
    rw [if_neg]
    rintro ⟨h1, h2⟩
    exact h m h1 h2
  · rfl
def puV (l : List UInt8) : Value := match pu l with
  | some m => .tuple #[.int .i64 (m : Int), .bool true]
  | none => .tuple #[.int .i64 0, .bool false]
theorem puV_yes {m : Nat} {l : List UInt8} (h : Lib.decDigits m = l) (hm : m ≤ 1000000000) : puV l = .tuple #[.int .i64 (m : Int), .bool true] := by
  unfold puV; rw [pu_yes h hm]
theorem puV_no {l : List UInt8} (h : ∀ m, m ≤ 1000000000 → Lib.decDigits m ≠ l) : puV l = .tuple #[.int .i64 0, .bool false] := by
  unfold puV; rw [pu_no h]
theorem below_bytes (w : World) (e : TypeId) (s : ByteArray) : Below w.heap.size w (Lib.bytesWorld w e s) :=
  ⟨rfl, rfl, rfl, by rw [Lib.bytesWorld_size]; omega, fun i hi => Lib.bytesWorld_at_old w e s i hi⟩
theorem varBelow {P : Program} {B g : Nat} {W W' : World} {n : String} {cs : Array Value} (h : Below B W W') (hg : P.globalNamed n = some g) (hgB : g < B) (hv : W.var? P n = some cs) : W'.var? P n = some cs := by
  unfold World.var? at hv ⊢
  rw [hg] at hv ⊢
  simp only [Option.bind_some] at hv ⊢
  rw [h.block g hgB]
  exact hv
theorem var_lt {P : Program} {g : Nat} {W : World} {n : String} {cs : Array Value} (hg : P.globalNamed n = some g) (hv : W.var? P n = some cs) : g < W.heap.size := by
  unfold World.var? at hv
  rw [hg] at hv
  rcases Nat.lt_or_ge g W.heap.size with h | h
  · exact h
  · simp [Array.getElem?_eq_none h] at hv
theorem fmt_ne {s : ByteArray} {l : List UInt8} (h : l ≠ s.data.toList) : (l == s.toList) = false := by rw [ByteArray.toList_eq]; exact beq_eq_false_iff_ne.2 h
theorem fmt_eq {s : ByteArray} {l : List UInt8} (h : l = s.data.toList) : (⟨l.toArray⟩ : ByteArray) = s := by rw [h]
@[reducible] def AtoiFacts (w : World) : Prop := (∃ T1 x1, w.cell? ⟨1, 0, none⟩ = some (.iface T1 x1)) ∧ (∃ T2 x2, w.cell? ⟨2, 0, none⟩ = some (.iface T2 x2)) ∧ Lib.TabIs Tryd.prog w "internal/strconv.uint64pow10" .u64 Lib.pow10Tab
set_option maxRecDepth 20000 in
set_option maxHeartbeats 4000000 in
theorem c_impl_ParseUint (s : ByteArray) (w : World) (hs : s.size ≤ 1048576) (hF : AtoiFacts w) :
    Calls Tryd.prog 15 #[.string s] w fun e w' => e = .returned (puV s.data.toList) ∧ Below w.heap.size w w' := by
  obtain ⟨⟨T1, x1, f1⟩, ⟨T2, x2, f2⟩, f3⟩ := hF
  by_cases hok : ∃ v, Lib.atoiAll s.data.toList = .ok v
  · obtain ⟨v, hv⟩ := hok
    have hvb := Lib.atoiAll_bounds hv
    have HC := Lib.hid (Tryd.strconv_Atoi_ok s (by omega) v hv w)
    have HI : Hid (∀ w', Below w.heap.size w w' → Calls Tryd.prog 31 #[.int .i64 v] w' fun e w'' => e = .returned (.string ⟨(Lib.itoa v).toArray⟩) ∧ Below w'.heap.size w' w'') := by
      refine Lib.hid fun w' hb => ?_
      refine (Tryd.strconv_Itoa v hvb.1 hvb.2 w' (varBelow (g := 3) hb (by kernel_rfl) (var_lt (by kernel_rfl) f3) f3)).mono ?_
      rintro e w'' ⟨rfl, k, os, rfl⟩
      exact ⟨rfl, below_grow _ _ _⟩
    have hbb : ∀ w', (w' = w ∨ ∃ t, w' = Lib.bytesWorld w 5 t) → Below w.heap.size w w' := by
      rintro w' (rfl | ⟨t, rfl⟩)
      · exact Below.refl _ _
      · exact below_bytes _ _ _
    have HBB := Lib.hid hbb
    have HV := Lib.hid hv
    clear hbb hv f1 f2 f3
    by_cases hA : v < 0
    · have E := Lib.hid (puV_no (l := s.data.toList) (fun m hm e => by have h1 := dec_atoi hm; rw [e, HV.out] at h1; injection h1 with h1; omega))
      go_enter Tryd.func15, Tryd.ntmps15
      go_wp2_with (go_at_call 32; (with_reducible refine HC.out.mono ?_); rintro e w1 ⟨rfl, hw1⟩)
      go_ret2
      exact ⟨by rw [E.out]; rfl, HBB.out _ hw1⟩
    · by_cases hB : 1000000000 < v
      · have E := Lib.hid (puV_no (l := s.data.toList) (fun m hm e => by have h1 := dec_atoi hm; rw [e, HV.out] at h1; injection h1 with h1; omega))
        go_enter Tryd.func15, Tryd.ntmps15
        go_wp2_with (go_at_call 32; (with_reducible refine HC.out.mono ?_); rintro e w1 ⟨rfl, hw1⟩)
        go_ret2
        exact ⟨by rw [E.out]; rfl, HBB.out _ hw1⟩
      · obtain ⟨m, rfl⟩ : ∃ m : Nat, v = (m : Int) := ⟨v.toNat, by omega⟩
        rw [Lib.itoa_nonneg] at HI
        by_cases hE : Lib.decDigits m = s.data.toList
        · have E := Lib.hid (puV_yes hE (by omega))
          have hse := fmt_eq hE
          go_enter Tryd.func15, Tryd.ntmps15
          go_wp2_with (first | (go_at_call 32; (with_reducible refine HC.out.mono ?_); rintro e w1 ⟨rfl, hw1⟩; have hb1 := HBB.out _ hw1) | (go_at_call 31; (with_reducible refine (HI.out _ hb1).mono ?_); rintro e w2 ⟨rfl, hb2⟩))
          go_ret2
          exact ⟨by rw [E.out]; rfl, belowNx hb1 hb2⟩
        · have E := Lib.hid (puV_no (l := s.data.toList) (fun m' hm e => by have h1 := dec_atoi hm; rw [e, HV.out] at h1; injection h1 with h1; exact hE (by rw [show m = m' by omega]; exact e)))
          have hst := fmt_ne hE
          go_enter Tryd.func15, Tryd.ntmps15
          go_wp2_with (first | (go_at_call 32; (with_reducible refine HC.out.mono ?_); rintro e w1 ⟨rfl, hw1⟩; have hb1 := HBB.out _ hw1) | (go_at_call 31; (with_reducible refine (HI.out _ hb1).mono ?_); rintro e w2 ⟨rfl, hb2⟩))
          go_ret2
          exact ⟨by rw [E.out]; rfl, belowNx hb1 hb2⟩
  · have hno : ∀ v, Lib.atoiAll s.data.toList ≠ .ok v := fun v e => hok ⟨v, e⟩
    have HC := Lib.hid (Tryd.strconv_Atoi_bad s (by omega) hno T1 T2 x1 x2 w f1 f2)
    have E := Lib.hid (puV_no (l := s.data.toList) (fun m hm e => hno _ (by rw [← e]; exact dec_atoi hm)))
    clear hno f1 f2 f3
    go_enter Tryd.func15, Tryd.ntmps15
    go_wp2_with (go_at_call 32; (with_reducible refine HC.out.mono ?_); rintro e w1 ⟨N, v, rfl, hb1⟩)
    go_ret2
    exact ⟨by rw [E.out]; rfl, hb1⟩
theorem spec_no_long {l : List UInt8} (h : 10 < l.length) : puV l = .tuple #[.int .i64 0, .bool false] :=
  puV_no fun m hm e => by have := dec_len hm; rw [e] at this; omega
theorem spec_no_byte {l : List UInt8} {k : Nat} {b : UInt8} (h : l[k]? = some b) (hb : b.toNat < 48 ∨ 57 < b.toNat) : puV l = .tuple #[.int .i64 0, .bool false] :=
  puV_no fun m hm e => by have := dec_digit (m := m) (b := b) (k := k) (by rw [e]; exact h); omega
theorem bt_at' {s : ByteArray} {k : Nat} (hk : k < s.size) : ∃ c : UInt8, s.data.toList[k]? = some c ∧ bt s k = (c.toNat : Int) := by
  have hl : k < s.data.toList.length := by rw [bytes_size']; exact hk
  exact ⟨s.data.toList[k]'hl, List.getElem?_eq_getElem hl, by unfold bt; rw [dif_pos hk]; rfl⟩
theorem val_lt {l : List UInt8} {n : Nat} (h : Lib.decFrom 0 l = some n) (hl : l.length ≤ 10) : n < 10000000000 := by
  have h1 := Lib.decFrom_lt l 0 n h
  have h2 : 10 ^ l.length ≤ 10 ^ 10 := Nat.pow_le_pow_right (by omega) hl
  have h3 : (10 : Nat) ^ 10 = 10000000000 := by decide
  omega
set_option maxRecDepth 20000 in
set_option maxHeartbeats 4000000 in
theorem c_spec_ParseUint (s : ByteArray) (w : World) (hs : s.size ≤ 1048576) :
    Calls Tryd.prog 14 #[.string s] w fun e w' => e = .returned (puV s.data.toList) ∧ Below w.heap.size w w' := by
  by_cases hA : 10 < s.size
  · have E := Lib.hid (spec_no_long (l := s.data.toList) (by rw [bytes_size']; exact hA))
    have hA' : (10 : Int) < (s.size : Int) := by omega
    go_enter Tryd.func14, Tryd.ntmps14
    go_wp2_with fail
    go_ret2
    exact ⟨by rw [E.out]; rfl, Below.refl _ _⟩
  · have hA' : ¬ (10 : Int) < (s.size : Int) := by omega
    go_enter Tryd.func14, Tryd.ntmps14
    go_wp2_with fail
    go_loopw [4, 5] (fun n i wr => ∃ (k m : Nat), k ≤ s.size ∧ i = .int .i64 (k : Int) ∧ n = .int .i64 (m : Int) ∧ Hid (Lib.decFrom 0 (s.data.toList.take k) = some m) ∧ wr = w) (fun _ i _ => s.size - (RowKit.intOf i).toNat)
    case atStart => exact ⟨0, 0, by omega, rfl, rfl, rfl, rfl⟩
    case round =>
      obtain ⟨k, m, hk, rfl, rfl, HM, rfl⟩ := hrel
      have hmb : m < 10000000000 := val_lt HM.out (by rw [List.length_take, bytes_size']; omega)
      by_cases hlt : k < s.size
      · have hlt' : (k : Int) < (s.size : Int) := by omega
        have hk0 : (0 : Int) ≤ (k : Int) := by omega
        obtain ⟨c, hc, hbc⟩ := bt_at' hlt
        have hg := get_bt s
        have b0 := bt_nonneg s k
        have b1 := bt_le s k
        generalize hbk : bt s k = b at b0 b1 hbc
        have HC := Lib.hid hc
        have HB := Lib.hid hbc
        clear hc hbc
        by_cases h48 : b < 48
        · have E := Lib.hid (spec_no_byte HC.out (Or.inl (by have := HB.out; omega)))
          go_wp2_with fail
          go_ret2
          exact ⟨by rw [E.out]; rfl, Below.refl _ _⟩
        · by_cases h57 : 57 < b
          · have E := Lib.hid (spec_no_byte HC.out (Or.inr (by have := HB.out; omega)))
            go_wp2_with fail
            go_ret2
            exact ⟨by rw [E.out]; rfl, Below.refl _ _⟩
          · have hbw : IntKind.i64.wrap b = b := IntWalk.i64_in _ (by omega)
            have hw1 : IntKind.i64.wrap (10 * (m : Int)) = 10 * (m : Int) := IntWalk.i64_in _ (by omega)
            have hw2 : IntKind.i64.wrap (10 * (m : Int) + b) = 10 * (m : Int) + b := IntWalk.i64_in _ (by omega)
            have hw3 : IntKind.i64.wrap (10 * (m : Int) + b - 48) = 10 * (m : Int) + b - 48 := IntWalk.i64_in _ (by omega)
            obtain ⟨m', hm'⟩ : ∃ m' : Nat, 10 * (m : Int) + b - 48 = (m' : Int) := ⟨(10 * (m : Int) + b - 48).toNat, by omega⟩
            have HM' := Lib.hid hm'
            have hst : Lib.decFrom 0 (s.data.toList.take (k + 1)) = some m' := by
              have hcb := HB.out
              rw [Lib.decFrom_take _ k 0 m c (c.toNat - 48) HM.out HC.out (by unfold Lib.digitVal; rw [if_pos (by omega)])]
              congr 1; omega
            have HST := Lib.hid hst
            clear hm' hst
            go_wp2_with fail
            go_roundw
            case rel => exact ⟨k + 1, m', by omega, by go_num, congrArg (Value.int .i64) HM'.out, HST, trivial⟩
            case measure => simp [RowKit.intOf]; omega
      · obtain rfl : k = s.size := by omega
        have hlt' : ¬ (s.size : Int) < (s.size : Int) := by omega
        have hval : Lib.decFrom 0 s.data.toList = some m := by
          have h := HM.out
          rwa [List.take_of_length_le (by rw [bytes_size']; exact Nat.le_refl _)] at h
        have HVAL := Lib.hid hval
        have HI : Hid (∀ w', Calls Tryd.prog 12 #[.int .i64 (m : Int)] w' fun e w'' => e = .returned (.string ⟨(Lib.decDigits m).toArray⟩) ∧ Below w'.heap.size w' w'') := by
          refine Lib.hid fun w' => ?_
          rw [← Lib.itoa_nonneg]
          exact c_spec_FormatInt _ w' (by omega) (by omega)
        clear hval
        by_cases hB : 1000000000 < m
        · have hB' : (1000000000 : Int) < (m : Int) := by omega
          have E := Lib.hid (puV_no (l := s.data.toList) (fun m' hm e => by have h1 := HVAL.out; rw [← e, dec_val] at h1; injection h1 with h1; omega))
          go_wp2_with fail
          go_ret2
          exact ⟨by rw [E.out]; rfl, Below.refl _ _⟩
        · have hB' : ¬ (1000000000 : Int) < (m : Int) := by omega
          by_cases hE : Lib.decDigits m = s.data.toList
          · have E := Lib.hid (puV_yes hE (by omega))
            have hse := fmt_eq hE
            go_wp2_with (go_at_call 12; (with_reducible refine (HI.out _).mono ?_); rintro e w2 ⟨rfl, hb2⟩)
            go_ret2
            exact ⟨by rw [E.out]; rfl, hb2⟩
          · have E := Lib.hid (puV_no (l := s.data.toList) (fun m' hm e => by have h1 := HVAL.out; rw [← e, dec_val] at h1; injection h1 with h1; exact hE (by rw [← h1]; exact e)))
            have hst := fmt_ne hE
            go_wp2_with (go_at_call 12; (with_reducible refine (HI.out _).mono ?_); rintro e w2 ⟨rfl, hb2⟩)
            go_ret2
            exact ⟨by rw [E.out]; rfl, hb2⟩
end Go.Proofs.YtaacognadfodlaaDoor

/- 
  The document's own 'number': what a row of digits says, and whether it is a number.
-/
import Derived.Test.YtlkedogplmnpkaaGreatDoorLexRa
import Derived.Test.YtlkedogplmnpkaaGreatDoorLexN
import Derived.Test.YtlkedogplmnpkaaGreatDoorLexF
import Derived.Test.YtlkedogplmnpkaaGreatDoorLexL
namespace Go.Proofs.YtlkedogplmnpkaaGreatDoor
open Go.RowKit
namespace Lx
theorem valueFrom_lt : ∀ (l : List UInt8) (a : Nat), allDigits l → valueFrom a l < (a + 1) * 10 ^ l.length
  | [], a, _ => by simp [valueFrom]
  | c :: r, a, h => by
    have ih := valueFrom_lt r (10 * a + (c.toNat - 48)) (fun x hx => h x (List.mem_cons_of_mem _ hx))
    have hc := h c (List.mem_cons_self ..)
    have hv : valueFrom a (c :: r) = valueFrom (10 * a + (c.toNat - 48)) r := rfl
    rw [hv, List.length_cons, Nat.pow_succ]
    have h2 : (10 * a + (c.toNat - 48) + 1) * 10 ^ r.length ≤ (10 * a + 10) * 10 ^ r.length := Nat.mul_le_mul_right _ (by omega)
    have h3 : (a + 1) * (10 ^ r.length * 10) = (10 * a + 10) * 10 ^ r.length := by
      rw [show 10 * a + 10 = (a + 1) * 10 from by omega, Nat.mul_assoc, Nat.mul_comm 10]
    omega
theorem valueFrom_pow : ∀ (l : List UInt8) (a : Nat), a * 10 ^ l.length ≤ valueFrom a l
  | [], a => by simp [valueFrom]
  | c :: r, a => by
    have ih := valueFrom_pow r (10 * a + (c.toNat - 48))
    have hv : valueFrom a (c :: r) = valueFrom (10 * a + (c.toNat - 48)) r := rfl
    rw [hv, List.length_cons, Nat.pow_succ]
    have h2 : (10 * a) * 10 ^ r.length ≤ (10 * a + (c.toNat - 48)) * 10 ^ r.length := Nat.mul_le_mul_right _ (by omega)
    have h3 : a * (10 ^ r.length * 10) = (10 * a) * 10 ^ r.length := by rw [Nat.mul_comm 10 a, Nat.mul_assoc, Nat.mul_comm 10]
    omega
theorem value_snoc (l : List UInt8) (c : UInt8) : value (l ++ [c]) = 10 * value l + (c.toNat - 48) := by simp [value, List.foldl_append]
theorem value_lt (l : List UInt8) (h : allDigits l) : value l < 10 ^ l.length := by
  have := valueFrom_lt l 0 h
  simpa [valueFrom, value] using this
/-- More than nineteen digits, the first not nought: too great. -/
theorem value_great (c : UInt8) (r : List UInt8) (hc : 49 ≤ c.toNat) (hr : 19 ≤ r.length) : 9223372036854775807 < value (c :: r) := by
  have h1 := valueFrom_pow r (c.toNat - 48)
  have h2 : (10 : Nat) ^ 19 ≤ 10 ^ r.length := Nat.pow_le_pow_right (by decide) hr
  have h3 : 1 * 10 ^ r.length ≤ (c.toNat - 48) * 10 ^ r.length := Nat.mul_le_mul_right _ (by omega)
  have hv : value (c :: r) = valueFrom (c.toNat - 48) r := by simp [value, valueFrom]
  have h4 : (10 : Nat) ^ 19 = 10000000000000000000 := by decide
  omega
/-- No number: a nought ahead of other digits, or too great. -/
def noNumber (l : List UInt8) : Bool := (decide (1 < l.length) && l.headD 0 == 48) || decide (9223372036854775807 < value l)
end Lx
theorem ret_number {a b : Int} {x y : Bool} (h : a = b) (h2 : x = y) : Ending.returned (.tuple #[.int .i64 a, .bool x]) = .returned (.tuple #[.int .i64 b, .bool y]) := by rw [h, h2]
theorem byte_mem (x : ByteArray) (k : Nat) (h : k < x.size) : x[k] ∈ x.data.toList := List.mem_of_mem_drop (i := k) (by rw [Lx.drop_cons x k h]; exact List.mem_cons_self ..)
theorem take_digits {l : List UInt8} (h : Lx.allDigits l) (k : Nat) : Lx.allDigits (l.take k) := fun c hc => h c (List.mem_of_mem_take hc)

set_option maxHeartbeats 1000000 in
theorem refNumber_calls (x : ByteArray) (w : World) (hx : x.size ≤ 65536) (h0 : 0 < x.size) (hd : Lx.allDigits x.data.toList) :
    Calls Tryz.prog 36 #[.string x] w fun e w' => (∃ v : Int, e = .returned (.tuple #[.int .i64 v, .bool (!Lx.noNumber x.data.toList)]) ∧ (Lx.noNumber x.data.toList = false → v = (Lx.value x.data.toList : Int))) ∧ w = w' := by
  have hfirst : 48 ≤ x[0].toNat ∧ x[0].toNat ≤ 57 := by
    exact hd x[0] (byte_mem x 0 h0)
  by_cases h19 : 19 < x.size
  · have hn : Hid (Lx.noNumber x.data.toList = true) := Lib.hid (by
      unfold Lx.noNumber
      rw [Lx.len, Lx.head x h0]
      by_cases h48 : x[0].toNat = 48
      · rw [byte_is (d := 48) h48]; simp; omega
      · have := Lx.value_great x[0] (x.data.toList.drop 1) (by omega) (by rw [List.length_drop, Lx.len]; omega)
        rw [← sign_cons x h0] at this
        simp [this])
    go_enter Tryz.func36, Tryz.ntmps36
    go_wp2
    go_ret2
    exact ⟨⟨0, ret_number rfl (by rw [hn.out]; rfl), fun h => by rw [hn.out] at h; cases h⟩, rfl⟩
  · by_cases hz : 1 < x.size ∧ x[0].toNat = 48
    · have hn : Hid (Lx.noNumber x.data.toList = true) := Lib.hid (by
        unfold Lx.noNumber
        rw [Lx.len, Lx.head x h0, byte_is (d := 48) hz.2]; simp; omega)
      have h1 := hz.1
      have e48 : ((x[0].toNat : Int) == 48) = true := byte_eq hz.2
      clear hz
      go_enter Tryz.func36, Tryz.ntmps36
      go_wp2
      go_ret2
      exact ⟨⟨0, ret_number rfl (by rw [hn.out]; rfl), fun h => by rw [hn.out] at h; cases h⟩, rfl⟩
    · have hn : Hid (Lx.noNumber x.data.toList = decide (9223372036854775807 < Lx.value x.data.toList)) := Lib.hid (by
        unfold Lx.noNumber
        rw [Lx.len, Lx.head x h0]
        have : (decide (1 < x.size) && x[0] == 48) = false := by
          rw [Bool.eq_false_iff]
          intro e
          simp at e
          exact hz ⟨e.1, by rw [e.2]; rfl⟩
        rw [this, Bool.false_or])
      have hg : ¬ (1 < x.size ∧ ((x[0].toNat : Int) == 48) = true) := by
        rintro ⟨a, b⟩; exact hz ⟨a, by simp at b; omega⟩
      have HD := Lib.hid hd
      have hfin : Lx.value x.data.toList < 10 ^ x.size := by have := Lx.value_lt _ hd; rwa [Lx.len] at this
      have hfin2 : Lx.value x.data.toList < 10000000000000000000 := Nat.lt_of_lt_of_le hfin (Nat.le_trans (Nat.pow_le_pow_right (by decide) (show x.size ≤ 19 by omega)) (by decide))
      obtain ⟨V, hV⟩ : ∃ V, Lx.value x.data.toList = V := ⟨_, rfl⟩
      rw [hV] at hn hfin2
      rw [hV]
      clear hz hd hfin
      have hpre : 1 < x.size → ((x[0].toNat : Int) == 48) = false := fun a => by
        rw [Bool.eq_false_iff]; exact fun b => hg ⟨a, b⟩
      clear hg
      by_cases h1 : 1 < x.size
      all_goals
        first | (have e48 := hpre h1) | skip
        clear hpre
        go_enter Tryz.func36, Tryz.ntmps36
        go_wp2
        go_loop [4, 5] (fun u i => ∃ k a : Nat, k ≤ x.size ∧ i = .int .i64 k ∧ u = .int .u64 a ∧ a < 10000000000000000000 ∧ Hid (Lx.value (x.data.toList.take k) = a)) (fun _ i => x.size - (intOf i).toNat)
        case atStart => exact ⟨0, 0, Nat.zero_le _, rfl, rfl, by decide, Lib.hid rfl⟩
        case round =>
          obtain ⟨k, a, hk, rfl, rfl, ha, hval⟩ := hrel
          by_cases hlt : k < x.size
          · have hc : 48 ≤ x[k].toNat ∧ x[k].toNat ≤ 57 := HD.out x[k] (byte_mem x k hlt)
            have hak : a ≤ 999999999999999999 := by
              have h3 := Lx.value_lt _ (take_digits HD.out k)
              rw [hval.out, List.length_take, Lx.len] at h3
              have h4 : (10 : Nat) ^ (min k x.size) ≤ 10 ^ 18 := Nat.pow_le_pow_right (by decide) (by omega)
              have h5 : (10 : Nat) ^ 18 = 1000000000000000000 := by decide
              omega
            have hnext : Hid (Lx.value (x.data.toList.take (k + 1)) = 10 * a + (x[k].toNat - 48)) := Lib.hid (by rw [Lx.take_snoc x k hlt, Lx.value_snoc, hval.out]; rfl)
            obtain ⟨c, hcc⟩ : ∃ c, x[k].toNat = c := ⟨_, rfl⟩
            rw [hcc] at hnext hc
            go_wp2
            refine ⟨⟨k + 1, 10 * a + (c - 48), by omega, by go_num, by congr 1; omega, by omega, hnext⟩, ?_⟩
            simp [intOf]; omega
          · have haV : a = V := by
              have h3 := hval.out
              rw [List.take_of_length_le (by rw [Lx.len]; omega), hV] at h3
              exact h3.symm
            subst haV
            by_cases hb : 9223372036854775807 < a
            · have hn2 : Hid (Lx.noNumber x.data.toList = true) := Lib.hid (by rw [hn.out]; simpa using hb)
              go_wp2
              go_ret2
              exact ⟨⟨0, ret_number rfl (by rw [hn2.out]; rfl), fun h => by rw [hn2.out] at h; cases h⟩, rfl⟩
            · have hn2 : Hid (Lx.noNumber x.data.toList = false) := Lib.hid (by rw [hn.out]; simpa using hb)
              go_wp2
              go_ret2
              exact ⟨⟨a, ret_number rfl (by rw [hn2.out]; rfl), fun _ => rfl⟩, rfl⟩
end Go.Proofs.YtlkedogplmnpkaaGreatDoor

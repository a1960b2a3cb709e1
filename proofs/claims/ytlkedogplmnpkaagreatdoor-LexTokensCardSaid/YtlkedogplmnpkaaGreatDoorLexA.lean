/-
  The small functions of package lex: letter, digit, named, skip's own test, fault: what each returns; the world stays as it was.
-/
import Derived.Test.YtlkedogplmnpkaaGreatDoorProg
import Derived.Test.YtlkedogplmnpkaaGreatDoorPlain
import Derived.WalkKit
import Derived.WalkLawsBesides
import Derived.Lib.Hide
namespace Go.Proofs.YtlkedogplmnpkaaGreatDoor
open Go.RowKit

theorem ret_bool {a b : Bool} (h : a = b) : Ending.returned (.bool a) = .returned (.bool b) := by rw [h]
theorem or32 : ∀ c : Fin 256, (bits BinOp.or IntKind.u8 (c.val : Int) 32) = ((c.val ||| 32 : Nat) : Int) := by decide +kernel
theorem letter_bits : ∀ c : Fin 256, ((if 97 ≤ (c.val ||| 32) then decide ((c.val ||| 32) ≤ 122) else false) || c.val == 95) = Lx.letter (UInt8.ofNat c.val) := by decide +kernel

theorem letter_calls (c : UInt8) (w : World) :
    Calls Tryz.prog 25 #[.int .u8 (c.toNat : Int)] w fun e w' => e = .returned (.bool (Lx.letter c)) ∧ w = w' := by
  have hlt : c.toNat < 256 := c.toNat_lt
  have hb := or32 ⟨c.toNat, hlt⟩
  have hl := letter_bits ⟨c.toNat, hlt⟩
  simp only [UInt8.ofNat_toNat] at hb hl
  have HL := Lib.hid hl
  obtain ⟨m, hm⟩ : ∃ m, m = c.toNat ||| 32 := ⟨_, rfl⟩
  rw [← hm] at hb
  rw [← hm] at hl
  clear HL hm
  have HL := Lib.hid hl
  clear hl
  by_cases h1 : 97 ≤ m
  · by_cases h2 : m ≤ 122
    all_goals
      go_enter Tryz.func25, Tryz.ntmps25
      go_wp2
      go_ret
      exact ⟨ret_bool (by rw [← HL.out, Bool.eq_iff_iff]; simp [h1, h2] <;> omega), rfl⟩
  · go_enter Tryz.func25, Tryz.ntmps25
    go_wp2
    go_ret
    exact ⟨ret_bool (by rw [← HL.out, Bool.eq_iff_iff]; simp [h1] <;> omega), rfl⟩

theorem digit_calls (c : UInt8) (w : World) :
    Calls Tryz.prog 30 #[.int .u8 (c.toNat : Int)] w fun e w' => e = .returned (.bool (Lx.digit c)) ∧ w = w' := by
  by_cases h1 : 48 ≤ c.toNat
  all_goals
    go_enter Tryz.func30, Tryz.ntmps30
    go_wp2
    go_ret
    exact ⟨ret_bool (by rw [Bool.eq_iff_iff]; simp [Lx.digit, UInt8.le_iff_toNat_le]; omega), rfl⟩

theorem line_calls (c : UInt8) (w : World) :
    Calls Tryz.prog 29 #[.int .u8 (c.toNat : Int)] w fun e w' => e = .returned (.bool (Lx.line c)) ∧ w = w' := by
  go_enter Tryz.func29, Tryz.ntmps29
  go_wp2
  go_ret
  exact ⟨ret_bool (by rw [Bool.eq_iff_iff]; simp [Lx.line, ← UInt8.toNat_inj]; omega), rfl⟩

theorem named_calls (c : UInt8) (w : World) :
    Calls Tryz.prog 27 #[.int .u8 (c.toNat : Int)] w fun e w' => e = .returned (.bool (Lx.named c)) ∧ w = w' := by
  obtain ⟨a, ha⟩ : ∃ a, a = Lx.letter c := ⟨_, rfl⟩
  have HA := Lib.hid ha
  have k1 : ∀ w, Calls Tryz.prog 25 #[.int .u8 (c.toNat : Int)] w fun e w' => e = .returned (.bool a) ∧ w = w' := fun w => by rw [HA.out]; exact letter_calls c w
  have K1 := Lib.hid k1
  clear ha k1
  cases a
  · go_enter Tryz.func27, Tryz.ntmps27
    go_wp2_with (first | (go_at_call 25; refine (K1.out _).mono ?_; rintro e w' ⟨rfl, rfl⟩) | (go_at_call 30; refine (digit_calls _ _).mono ?_; rintro e w' ⟨rfl, rfl⟩))
    go_ret
    exact ⟨ret_bool (by simp [Lx.named, ← HA.out]), rfl⟩
  · go_enter Tryz.func27, Tryz.ntmps27
    go_wp2_with (first | (go_at_call 25; refine (K1.out _).mono ?_; rintro e w' ⟨rfl, rfl⟩) | (go_at_call 30; refine (digit_calls _ _).mono ?_; rintro e w' ⟨rfl, rfl⟩))
    go_ret
    exact ⟨ret_bool (by simp [Lx.named, ← HA.out]), rfl⟩

/-- An error of package lex: its place and its number. -/
def wrong (p n : Int) : Value := .iface 63 (.agg #[.int .i64 p, .int .i64 n])
theorem fault_calls (p n : Int) (w : World) :
    Calls Tryz.prog 14 #[.int .i64 p, .int .i64 n] w fun e w' => e = .returned (wrong p n) ∧ w = w' := by
  go_enter Tryz.func14, Tryz.ntmps14
  go_wp2
  go_ret
  exact ⟨rfl, rfl⟩
end Go.Proofs.YtlkedogplmnpkaaGreatDoor

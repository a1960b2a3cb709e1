/-
  span of package lex, at each of the three tests that are handed to it: how many bytes at the front are so; the world stays as it was.
-/
import Derived.Test.YtlkedogplmnpkaaGreatDoorLexA
import Derived.Test.YtlkedogplmnpkaaGreatDoorAid
namespace Go.Proofs.YtlkedogplmnpkaaGreatDoor
open Go.RowKit
theorem ret_i64 {a b : Int} (h : a = b) : Ending.returned (.int .i64 a) = .returned (.int .i64 b) := by rw [h]

theorem span_named (s : ByteArray) (w : World) (hs : s.size ≤ maxLen) :
    Calls Tryz.prog 26 #[.string s, .func (.func 27) #[] #[]] w fun e w' => e = .returned (.int .i64 (Lx.span Lx.named s.data.toList : Nat)) ∧ w = w' := by
  unfold maxLen at hs
  go_enter Tryz.func26, Tryz.ntmps26
  go_wp2
  go_loop [8] (fun i => ∃ k : Nat, k ≤ s.size ∧ i = .int .i64 k ∧ Hid (Lx.span Lx.named s.data.toList = k + Lx.span Lx.named (s.data.toList.drop k))) (fun i => s.size - (intOf i).toNat)
  case atStart => exact ⟨0, Nat.zero_le _, rfl, Lib.hid (by simp)⟩
  case round =>
    obtain ⟨k, hk, rfl, hsp⟩ := hrel
    by_cases hlt : k < s.size
    · obtain ⟨b, hb⟩ : ∃ b, b = Lx.named s[k] := ⟨_, rfl⟩
      have HB := Lib.hid hb
      have K := Lib.hid (fun w : World => (show Calls Tryz.prog 27 #[.int .u8 (s[k].toNat : Int)] w fun e w' => e = .returned (.bool b) ∧ w = w' by rw [hb]; exact named_calls _ w))
      clear hb
      cases b
      · go_wp2_with (go_at_call 27; refine (K.out _).mono ?_; rintro e w' ⟨rfl, rfl⟩)
        go_ret
        exact ⟨ret_i64 (by rw [hsp.out, Lx.drop_cons s k hlt, Lx.span_miss HB.out.symm]; simp), rfl⟩
      · go_wp2_with (go_at_call 27; refine (K.out _).mono ?_; rintro e w' ⟨rfl, rfl⟩)
        go_round
        case rel => exact ⟨k + 1, by omega, by go_num, Lib.hid (by rw [hsp.out, Lx.drop_cons s k hlt, Lx.span_hit HB.out.symm]; omega)⟩
        case measure => simp [intOf]; omega
    · go_wp2
      go_ret
      exact ⟨ret_i64 (by rw [hsp.out, Lx.drop_end s k (by omega)]; simp [Lx.span]; omega), rfl⟩

theorem span_digit (s : ByteArray) (w : World) (hs : s.size ≤ maxLen) :
    Calls Tryz.prog 26 #[.string s, .func (.func 30) #[] #[]] w fun e w' => e = .returned (.int .i64 (Lx.span Lx.digit s.data.toList : Nat)) ∧ w = w' := by
  unfold maxLen at hs
  go_enter Tryz.func26, Tryz.ntmps26
  go_wp2
  go_loop [8] (fun i => ∃ k : Nat, k ≤ s.size ∧ i = .int .i64 k ∧ Hid (Lx.span Lx.digit s.data.toList = k + Lx.span Lx.digit (s.data.toList.drop k))) (fun i => s.size - (intOf i).toNat)
  case atStart => exact ⟨0, Nat.zero_le _, rfl, Lib.hid (by simp)⟩
  case round =>
    obtain ⟨k, hk, rfl, hsp⟩ := hrel
    by_cases hlt : k < s.size
    · obtain ⟨b, hb⟩ : ∃ b, b = Lx.digit s[k] := ⟨_, rfl⟩
      have HB := Lib.hid hb
      have K := Lib.hid (fun w : World => (show Calls Tryz.prog 30 #[.int .u8 (s[k].toNat : Int)] w fun e w' => e = .returned (.bool b) ∧ w = w' by rw [hb]; exact digit_calls _ w))
      clear hb
      cases b
      · go_wp2_with (go_at_call 30; refine (K.out _).mono ?_; rintro e w' ⟨rfl, rfl⟩)
        go_ret
        exact ⟨ret_i64 (by rw [hsp.out, Lx.drop_cons s k hlt, Lx.span_miss HB.out.symm]; simp), rfl⟩
      · go_wp2_with (go_at_call 30; refine (K.out _).mono ?_; rintro e w' ⟨rfl, rfl⟩)
        go_round
        case rel => exact ⟨k + 1, by omega, by go_num, Lib.hid (by rw [hsp.out, Lx.drop_cons s k hlt, Lx.span_hit HB.out.symm]; omega)⟩
        case measure => simp [intOf]; omega
    · go_wp2
      go_ret
      exact ⟨ret_i64 (by rw [hsp.out, Lx.drop_end s k (by omega)]; simp [Lx.span]; omega), rfl⟩

theorem span_line (s : ByteArray) (w : World) (hs : s.size ≤ maxLen) :
    Calls Tryz.prog 26 #[.string s, .func (.func 29) #[] #[]] w fun e w' => e = .returned (.int .i64 (Lx.span Lx.line s.data.toList : Nat)) ∧ w = w' := by
  unfold maxLen at hs
  go_enter Tryz.func26, Tryz.ntmps26
  go_wp2
  go_loop [8] (fun i => ∃ k : Nat, k ≤ s.size ∧ i = .int .i64 k ∧ Hid (Lx.span Lx.line s.data.toList = k + Lx.span Lx.line (s.data.toList.drop k))) (fun i => s.size - (intOf i).toNat)
  case atStart => exact ⟨0, Nat.zero_le _, rfl, Lib.hid (by simp)⟩
  case round =>
    obtain ⟨k, hk, rfl, hsp⟩ := hrel
    by_cases hlt : k < s.size
    · obtain ⟨b, hb⟩ : ∃ b, b = Lx.line s[k] := ⟨_, rfl⟩
      have HB := Lib.hid hb
      have K := Lib.hid (fun w : World => (show Calls Tryz.prog 29 #[.int .u8 (s[k].toNat : Int)] w fun e w' => e = .returned (.bool b) ∧ w = w' by rw [hb]; exact line_calls _ w))
      clear hb
      cases b
      · go_wp2_with (go_at_call 29; refine (K.out _).mono ?_; rintro e w' ⟨rfl, rfl⟩)
        go_ret
        exact ⟨ret_i64 (by rw [hsp.out, Lx.drop_cons s k hlt, Lx.span_miss HB.out.symm]; simp), rfl⟩
      · go_wp2_with (go_at_call 29; refine (K.out _).mono ?_; rintro e w' ⟨rfl, rfl⟩)
        go_round
        case rel => exact ⟨k + 1, by omega, by go_num, Lib.hid (by rw [hsp.out, Lx.drop_cons s k hlt, Lx.span_hit HB.out.symm]; omega)⟩
        case measure => simp [intOf]; omega
    · go_wp2
      go_ret
      exact ⟨ret_i64 (by rw [hsp.out, Lx.drop_end s k (by omega)]; simp [Lx.span]; omega), rfl⟩
end Go.Proofs.YtlkedogplmnpkaaGreatDoor

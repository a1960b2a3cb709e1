/-
  skip of package lex: the place behind blanks and remarks; the world stays as it was.
-/
import Derived.Test.YtlkedogplmnpkaaGreatDoorLexB
import Derived.Test.YtlkedogplmnpkaaGreatDoorShelf
import Derived.Lib.IndexBytes
namespace Go.Proofs.YtlkedogplmnpkaaGreatDoor
open Go.RowKit

theorem prefix_dashes (c : UInt8) (r : List UInt8) : Lib.hasPrefix (c :: r) [45, 45] = (c == 45 && r.head? == some 45) := by
  unfold Lib.hasPrefix
  cases r with
  | nil => simp [List.isPrefixOf]
  | cons d r' =>
    simp only [List.isPrefixOf, Bool.and_true, List.head?_cons]
    rw [Bool.eq_iff_iff]
    simp
    constructor
    · rintro ⟨a, b⟩; exact ⟨a.symm, b.symm⟩
    · rintro ⟨a, b⟩; exact ⟨a.symm, b.symm⟩
theorem extract_size (s : ByteArray) (k : Nat) : (s.extract k s.size).size = s.size - k := by
  rw [← Lx.len, Lib.extract_to_end, List.length_drop, Lx.len]

theorem skip_calls (s : ByteArray) (a : Int) (w : World) (hs : s.size ≤ maxLen) (h0 : 0 ≤ a) (h1 : a ≤ s.size) :
    Calls Tryz.prog 15 #[.string s, .int .i64 a] w fun e w' => e = .returned (.int .i64 (a + (Lx.skip false (s.data.toList.drop a.toNat) : Nat))) ∧ w = w' := by
  obtain ⟨p, rfl⟩ := Int.eq_ofNat_of_zero_le h0
  rw [Int.toNat_natCast]
  have hM := hs
  unfold maxLen at hs
  go_enter Tryz.func15, Tryz.ntmps15
  go_wp2
  go_loop [1] (fun i => ∃ k : Nat, k ≤ s.size ∧ i = .int .i64 k ∧ Hid (p + Lx.skip false (s.data.toList.drop p) = k + Lx.skip false (s.data.toList.drop k))) (fun i => s.size - (intOf i).toNat)
  case atStart => exact ⟨p, by omega, rfl, Lib.hid rfl⟩
  case round =>
    obtain ⟨k, hk, rfl, hsp⟩ := hrel
    by_cases hlt : k < s.size
    · have hd := Lib.hid (Lx.drop_cons s k hlt)
      by_cases hc : s[k] = 45
      · obtain ⟨b, hb⟩ : ∃ b, b = ((s.data.toList.drop (k + 1)).head? == some 45) := ⟨_, rfl⟩
        have HB := Lib.hid hb
        have HP := Lib.hid (fun w : World => (show Calls Tryz.prog 28 #[.string (s.extract k s.size), .string ⟨#[45, 45]⟩] w fun e w' => e = .returned (.bool b) ∧ w = w' by
          refine (Tryz.strings_HasPrefix _ _ w).mono ?_
          rintro e w' ⟨rfl, rfl⟩
          refine ⟨ret_bool ?_, rfl⟩
          rw [Lib.extract_to_end, hd.out, hc]
          show Lib.hasPrefix _ [45, 45] = b
          rw [prefix_dashes, hb]
          rfl))
        have hx : (s[k].toNat : Int) = 45 := by rw [hc]; rfl
        have hx1 : ((s[k].toNat : Int) == 45) = true := by rw [hx]; rfl
        clear hx hb
        have HC := Lib.hid hc
        clear hc
        have hsz : (s.extract k s.size).size ≤ maxLen := by rw [extract_size]; unfold maxLen; omega
        cases b
        · go_wp2_with (go_at_call 28; refine (HP.out _).mono ?_; rintro e w' ⟨rfl, rfl⟩)
          go_ret
          refine ⟨ret_i64 ?_, rfl⟩
          have h1 := hsp.out
          rw [hd.out, HC.out, Lx.skip_stop (by rfl) (by rw [← HB.out]; rfl)] at h1
          omega
        · have hsl := Lx.span_le Lx.line (s.data.toList.drop k)
          rw [List.length_drop, Lx.len] at hsl
          have hpos : 0 < Lx.span Lx.line (s.data.toList.drop k) := by rw [hd.out, HC.out, Lx.span_hit (by rfl)]; omega
          have hrec := Lib.hid (Lx.skip_remark HB.out.symm)
          have HS := Lib.hid (fun w : World => (show Calls Tryz.prog 26 #[.string (s.extract k s.size), .func (.func 29) #[] #[]] w fun e w' => e = .returned (.int .i64 (Lx.span Lx.line (s.data.toList.drop k) : Nat)) ∧ w = w' by
            refine (span_line _ w hsz).mono ?_
            rintro e w' ⟨rfl, rfl⟩
            rw [Lib.extract_to_end]
            exact ⟨rfl, rfl⟩))
          obtain ⟨m, hm⟩ : ∃ m, m = Lx.span Lx.line (s.data.toList.drop k) := ⟨_, rfl⟩
          rw [← hm] at hsl hpos HS
          have HM := Lib.hid hm
          clear hm
          go_wp2_with (first | (go_at_call 28; refine (HP.out _).mono ?_; rintro e w' ⟨rfl, rfl⟩) | (go_at_call 26; refine (HS.out _).mono ?_; rintro e w' ⟨rfl, rfl⟩))
          go_round
          case rel =>
            refine ⟨k + m, by omega, by go_num, Lib.hid ?_⟩
            have h1 := hsp.out
            have h2 := hrec.out
            rw [← HC.out, ← hd.out, ← HM.out, List.drop_drop] at h2
            omega
          case measure => simp [intOf]; omega
      · have hx1 : ((s[k].toNat : Int) == 45) = false := by
          rw [beq_eq_false_iff_ne]
          intro e
          exact hc (UInt8.toNat_inj.1 (by have : s[k].toNat = 45 := by omega
                                          exact this))
        by_cases hbl : Lx.blank s[k] = true
        · have h2 := Lx.skip_blank (r := s.data.toList.drop (k + 1)) hbl
          rw [← hd.out] at h2
          have H2 := Lib.hid h2
          have hor : s[k] = 32 ∨ s[k] = 9 ∨ s[k] = 10 ∨ s[k] = 13 := by simpa [Lx.blank, or_assoc] using hbl
          have hor1 : s[k].toNat = 32 ∨ s[k].toNat = 9 ∨ s[k].toNat = 10 ∨ s[k].toNat = 13 := by
            rcases hor with h | h | h | h
            · exact .inl (by rw [h]; rfl)
            · exact .inr (.inl (by rw [h]; rfl))
            · exact .inr (.inr (.inl (by rw [h]; rfl)))
            · exact .inr (.inr (.inr (by rw [h]; rfl)))
          have HO := Lib.hid hor1
          clear h2 hbl hor hor1
          go_wp2
          case roundEnd =>
            go_round
            case rel => exact ⟨k + 1, by omega, by go_num, Lib.hid (by have h1 := hsp.out; have h2 := H2.out; omega)⟩
            case measure => simp [intOf]; omega
          case roundEnd =>
            go_round
            case rel => exact ⟨k + 1, by omega, by go_num, Lib.hid (by have h1 := hsp.out; have h2 := H2.out; omega)⟩
            case measure => simp [intOf]; omega
          case roundEnd =>
            go_round
            case rel => exact ⟨k + 1, by omega, by go_num, Lib.hid (by have h1 := hsp.out; have h2 := H2.out; omega)⟩
            case measure => simp [intOf]; omega
          case roundEnd =>
            go_round
            case rel => exact ⟨k + 1, by omega, by go_num, Lib.hid (by have h1 := hsp.out; have h2 := H2.out; omega)⟩
            case measure => simp [intOf]; omega
          · have c1 : ((s[k].toNat : Int) == 32) = false := by assumption
            have c2 : ((s[k].toNat : Int) == 9) = false := by assumption
            have c3 : ((s[k].toNat : Int) == 10) = false := by assumption
            have c4 : ((s[k].toNat : Int) == 13) = false := by assumption
            have h := HO.out
            simp only [beq_eq_false_iff_ne] at c1 c2 c3 c4
            exfalso
            omega
        · have h2 := Lx.skip_stop (c := s[k]) (r := s.data.toList.drop (k + 1)) (by simpa using hbl) (by simp [hc])
          rw [← hd.out] at h2
          have H2 := Lib.hid h2
          have hne : ∀ m : UInt8, s[k] ≠ m → ((s[k].toNat : Int) == (m.toNat : Int)) = false := fun m h => by
            rw [beq_eq_false_iff_ne]
            intro e
            exact h (UInt8.toNat_inj.1 (by omega))
          have b32 : ((s[k].toNat : Int) == 32) = false := hne 32 (fun e => hbl (by rw [e]; rfl))
          have b9 : ((s[k].toNat : Int) == 9) = false := hne 9 (fun e => hbl (by rw [e]; rfl))
          have b10 : ((s[k].toNat : Int) == 10) = false := hne 10 (fun e => hbl (by rw [e]; rfl))
          have b13 : ((s[k].toNat : Int) == 13) = false := hne 13 (fun e => hbl (by rw [e]; rfl))
          clear hne h2 hbl hc
          go_wp2
          go_ret
          exact ⟨ret_i64 (by have h1 := hsp.out; have h2 := H2.out; omega), rfl⟩
    · go_wp2
      go_ret
      exact ⟨ret_i64 (by have := hsp.out; rw [Lx.drop_end s k (by omega)] at this; simp [Lx.skip] at this; omega), rfl⟩
end Go.Proofs.YtlkedogplmnpkaaGreatDoor

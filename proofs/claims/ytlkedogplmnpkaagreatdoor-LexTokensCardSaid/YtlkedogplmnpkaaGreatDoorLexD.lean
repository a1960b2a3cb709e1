/-
  Name of package lex: whether a text is a name.
-/
import Derived.Test.YtlkedogplmnpkaaGreatDoorLexC
namespace Go.Proofs.YtlkedogplmnpkaaGreatDoor
open Go.RowKit

theorem name_eq (s : ByteArray) (h : 0 < s.size) : Lx.name s.data.toList = (decide (s.size ≤ 32) && Lx.letter s[0] && (Lx.span Lx.named s.data.toList == s.size) && !Lx.word s.data.toList) := by
  unfold Lx.name
  have e : (!s.data.toList.isEmpty) = true := by
    have := Lx.ne_nil s h
    revert this
    cases s.data.toList <;> simp
  rw [Lx.head s h, Lx.len, e, Bool.true_and]
theorem name_nil (s : ByteArray) (h : s.size = 0) : Lx.name s.data.toList = false := by
  have e : s.data.toList = [] := List.eq_nil_of_length_eq_zero (by rw [Lx.len]; exact h)
  rw [e]; rfl

theorem name_calls (s : ByteArray) (w : World) (ht : Tabs w) (hs : s.size ≤ maxLen) :
    Calls Tryz.prog 13 #[.string s] w fun e w' => e = .returned (.bool (Lx.name s.data.toList)) ∧ Below w.heap.size w w' := by
  by_cases h0 : s.size = 0
  · have e0 := Lib.hid (name_nil s h0)
    have e1 : s.toList = [] := by rw [Lib.toList_data]; exact List.eq_nil_of_length_eq_zero (by rw [Lx.len]; exact h0)
    clear h0
    go_enter Tryz.func13, Tryz.ntmps13
    go_wp2
    go_ret
    exact ⟨ret_bool (by rw [e0.out]), Below.refl _ _⟩
  · have hpos : 0 < s.size := by omega
    have e0 := Lib.hid (name_eq s hpos)
    have e1 : s.toList.isEmpty = false := by rw [Lib.toList_data]; simpa using Lx.ne_nil s hpos
    have e2 : ¬ s.toList = [] := by rw [Lib.toList_data]; exact Lx.ne_nil s hpos
    clear h0
    go_enter Tryz.func13, Tryz.ntmps13
    go_wp2_with (first | (go_at_call 25; refine (letter_calls _ _).mono ?_; rintro e w' ⟨rfl, rfl⟩) | (go_at_call 26; refine (span_named _ _ hs).mono ?_; rintro e w' ⟨rfl, rfl⟩) | (go_at_call 12; refine (word_calls _ _ ht hs).mono ?_; rintro e w' ⟨rfl, hb⟩))
    all_goals go_ret
    · have h1 : (s.size : Int) ≤ 32 := by assumption
      have h2 : Lx.letter s[0] = true := by assumption
      have h3 : (Lx.span Lx.named s.data.toList : Int) = s.size := by assumption
      refine ⟨ret_bool ?_, by assumption⟩
      have h1' : s.size ≤ 32 := by omega
      have h3' : Lx.span Lx.named s.data.toList = s.size := by omega
      rw [e0.out, h2, h3']
      simp [h1']
    · have h1 : (s.size : Int) ≤ 32 := by assumption
      have h3 : ¬ (Lx.span Lx.named s.data.toList : Int) = s.size := by assumption
      refine ⟨ret_bool ?_, Below.refl _ _⟩
      have h3' : ¬ Lx.span Lx.named s.data.toList = s.size := by omega
      rw [e0.out]
      simp [h3']
    · have h2 : ¬ Lx.letter s[0] = true := by assumption
      refine ⟨ret_bool ?_, Below.refl _ _⟩
      rw [e0.out]
      simp [h2]
    · have h1 : (32 : Int) < s.size := by assumption
      refine ⟨ret_bool ?_, Below.refl _ _⟩
      have h1' : ¬ s.size ≤ 32 := by omega
      rw [e0.out]
      simp [h1']
end Go.Proofs.YtlkedogplmnpkaaGreatDoor

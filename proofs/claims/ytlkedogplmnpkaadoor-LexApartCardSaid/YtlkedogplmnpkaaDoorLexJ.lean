/- 
  The plain law of LexApart: the tokens of a source, set apart by any blanks and remarks, are read again as they are, but for their places; and the places rise.
-/
import Derived.Test.YtlkedogplmnpkaaDoorLexT
namespace Go.Proofs.YtlkedogplmnpkaaDoor
open Go.RowKit
namespace Lx

theorem blank_cases {c : UInt8} (h : blank c = true) : c = 32 ∨ c = 9 ∨ c = 10 ∨ c = 13 := by
  simpa [blank, or_assoc] using h
theorem blank_not {c : UInt8} (h : blank c = true) : named c = false ∧ digit c = false ∧ letter c = false ∧ c ≠ 45 ∧ c ≠ 62 ∧ c ≠ 94 ∧ c ≠ 58 ∧ c ≠ 61 := by
  rcases blank_cases h with rfl | rfl | rfl | rfl <;> decide
/-- What may stand behind a token: nothing, or a blank. -/
def Off (r : List UInt8) : Prop := r = [] ∨ ∃ c q, r = c :: q ∧ blank c = true

theorem span_again (p : UInt8 → Bool) (hp : ∀ c, blank c = true → p c = false) : ∀ (l r : List UInt8), Off r → span p (l.take (span p l) ++ r) = span p l
  | [], r, h => by
    rcases h with rfl | ⟨c, q, rfl, hb⟩
    · rfl
    · simp [span, hp c hb]
  | c :: l, r, h => by
    cases hc : p c with
    | true =>
      rw [span_hit hc, List.take_succ_cons, List.cons_append, span_hit hc, span_again p hp l r h]
    | false =>
      rw [span_miss hc]
      rcases h with rfl | ⟨d, q, rfl, hb⟩
      · rfl
      · simp [span, hp d hb]
theorem sign_two (c d : UInt8) (a b : List UInt8) : sign (c :: d :: a) = sign (c :: d :: b) := rfl
theorem sign_off (c : UInt8) (r : List UInt8) (h : Off r) : sign (c :: r) = sign [c] := by
  have hs : ∀ x, (x = 62 ∨ x = 94 ∨ x = 58 ∨ x = 61) → second r x = second [] x := by
    intro x hx
    rcases h with rfl | ⟨d, q, rfl, hb⟩
    · rfl
    · have := blank_not hb
      unfold second
      have hd : ((d :: q).head? == some x) = false := by
        simp
        rcases hx with rfl | rfl | rfl | rfl
        · exact this.2.2.2.2.1
        · exact this.2.2.2.2.2.1
        · exact this.2.2.2.2.2.2.1
        · exact this.2.2.2.2.2.2.2
      rw [hd]; rfl
  simp only [sign]
  rw [hs 62 (by simp), hs 94 (by simp), hs 58 (by simp), hs 61 (by simp)]
theorem second_one {t : List UInt8} {x : UInt8} (h : second t x = 1) : second t x = second [] x := by rw [h]; rfl
theorem second_or (t : List UInt8) (x : UInt8) : second t x = 1 ∨ second t x = 2 := by unfold second; split <;> simp
theorem sign_one {c : UInt8} {t : List UInt8} (h : sign (c :: t) = 1) : sign [c] = 1 := by
  simp only [sign] at h ⊢
  have e : ∀ x, second [] x = 1 := fun _ => rfl
  simp only [e]
  rcases second_or t 62 with h1 | h1 <;> rcases second_or t 94 with h2 | h2 <;> rcases second_or t 58 with h3 | h3 <;> rcases second_or t 61 with h4 | h4 <;> simp only [h1, h2, h3, h4] at h <;> revert h <;> (repeat' split) <;> first | (simp; done) | simp_all
theorem sign_which (l : List UInt8) : sign l = 0 ∨ sign l = 1 ∨ sign l = 2 := by
  cases l with
  | nil => exact .inl rfl
  | cons c t =>
    simp only [sign]
    rcases second_or t 62 with h1 | h1 <;> rcases second_or t 94 with h2 | h2 <;> rcases second_or t 58 with h3 | h3 <;> rcases second_or t 61 with h4 | h4 <;> simp only [h1, h2, h3, h4] <;> (repeat' split) <;> simp
theorem sign_again {l r : List UInt8} (h0 : sign l ≠ 0) (hr : Off r) : sign (l.take (sign l) ++ r) = sign l := by
  cases l with
  | nil => exact absurd rfl h0
  | cons c t =>
    have hle := sign_le (c :: t)
    rcases sign_which (c :: t) with h | h | h
    · exact absurd h h0
    · rw [h]
      show sign (c :: r) = 1
      rw [sign_off c r hr, sign_one h]
    · cases t with
      | nil => rw [h] at hle; simp at hle
      | cons d u => rw [h]; exact (sign_two c d _ _).trans h
theorem sign_head {c : UInt8} {t : List UInt8} (h : sign (c :: t) ≠ 0) : blank c = false ∧ (c = 45 → sign (c :: t) = 1) := by
  constructor
  · cases hb : blank c with
    | false => rfl
    | true =>
      exfalso
      apply h
      rcases blank_cases hb with rfl | rfl | rfl | rfl <;> rfl
  · rintro rfl; rfl
theorem tok_again {l : List UInt8} (h : l ≠ []) {k m v : Nat} (ht : tok l = .ok (k, m, v)) {r : List UInt8} (hr : Off r) :
    tok (l.take m ++ r) = .ok (k, m, v) ∧ skip false (l.take m ++ r) = 0 := by
  have hp := tok_pos h ht
  obtain ⟨c, t, rfl⟩ := List.exists_cons_of_ne_nil h
  obtain ⟨m', rfl⟩ : ∃ m', m = m' + 1 := ⟨m - 1, by omega⟩
  have hh : ((c :: t).take (m' + 1) ++ r).headD 0 = c := rfl
  have hh0 : (c :: t).headD 0 = c := rfl
  have hcons : (c :: t).take (m' + 1) ++ r = c :: (t.take m' ++ r) := rfl
  have hnb : ∀ p : UInt8 → Bool, (∀ x, blank x = true → p x = false) → p c = true → blank c = false := by
    intro p hp hc
    cases hb : blank c with
    | false => rfl
    | true => rw [hp c hb] at hc; cases hc
  cases hl : letter c with
  | true =>
    have hl' : letter ((c :: t).headD 0) = true := hl
    by_cases h32 : 32 < span named (c :: t)
    · rw [tok_long hl' h32] at ht; cases ht
    · rw [tok_name hl' h32] at ht
      have e1 : span named (c :: t) = m' + 1 := by injection ht with ht; injection ht with _ ht; injection ht
      have hs : span named ((c :: t).take (m' + 1) ++ r) = m' + 1 := by
        have := span_again named (fun x hx => (blank_not hx).1) (c :: t) r hr
        rw [e1] at this; exact this
      have htk : ((c :: t).take (m' + 1) ++ r).take (m' + 1) = (c :: t).take (m' + 1) := by
        rw [List.take_append_of_le_length (by rw [List.length_take]; omega), List.take_take, Nat.min_self]
      constructor
      · rw [tok_name (by rw [hh]; exact hl) (by rw [hs, ← e1]; exact h32), hs, htk, ← ht, e1]
      · rw [hcons]
        refine skip_stop (hnb letter (fun x hx => (blank_not hx).2.2.1) hl) ?_
        have : c ≠ 45 := by rintro rfl; revert hl; decide
        simp [this]
  | false =>
    cases hd : digit c with
    | true =>
      have ht0 := ht
      rw [tok_digits (l := c :: t) hl hd] at ht
      have e1 : span digit (c :: t) = m' + 1 := by
        revert ht; split
        · intro h; cases h
        · intro h; injection h with h; injection h with _ h; injection h
      have hs : span digit ((c :: t).take (m' + 1) ++ r) = m' + 1 := by
        have := span_again digit (fun x hx => (blank_not hx).2.1) (c :: t) r hr
        rw [e1] at this; exact this
      have htk : ((c :: t).take (m' + 1) ++ r).take (m' + 1) = (c :: t).take (m' + 1) := by
        rw [List.take_append_of_le_length (by rw [List.length_take]; omega), List.take_take, Nat.min_self]
      constructor
      · rw [tok_digits (by rw [hh]; exact hl) (by rw [hh]; exact hd), hs, htk, hh]
        rw [e1, hh0] at ht
        exact ht
      · rw [hcons]
        refine skip_stop (hnb digit (fun x hx => (blank_not hx).2.1) hd) ?_
        have : c ≠ 45 := by rintro rfl; revert hd; decide
        simp [this]
    | false =>
      rw [tok_sign (l := c :: t) hl hd] at ht
      by_cases h0 : sign (c :: t) = 0
      · rw [h0] at ht; cases ht
      · have e0 : (sign (c :: t) == 0) = false := by simpa using h0
        rw [e0] at ht
        have e1 : sign (c :: t) = m' + 1 := by injection ht with ht; injection ht with _ ht; injection ht
        have hs : sign ((c :: t).take (m' + 1) ++ r) = m' + 1 := by
          have := sign_again h0 hr
          rw [e1] at this; exact this
        have h2 := sign_head h0
        constructor
        · rw [tok_sign (by rw [hh]; exact hl) (by rw [hh]; exact hd), hs, ← ht, e1]; rfl
        · rw [hcons]
          refine skip_stop h2.1 ?_
          by_cases h45 : c = 45
          · have := h2.2 h45
            have hm : m' = 0 := by omega
            subst hm
            have hne : r.head? ≠ some 45 := by
              rcases hr with rfl | ⟨d, q, rfl, hb⟩
              · simp
              · have := (blank_not hb).2.2.2.1
                simpa using this
            simp [hne]
          · simp [h45]
end Lx
end Go.Proofs.YtlkedogplmnpkaaDoor

/-
  Plain lemmas on the words of the lexer and on the bytes of a string; no program stands in them.
-/
import Derived.Test.YtlkedogplmnpkaaGreatDoorPlain
namespace Go.Proofs.YtlkedogplmnpkaaGreatDoor.Lx

theorem drop_cons (s : ByteArray) (k : Nat) (h : k < s.size) : s.data.toList.drop k = s[k] :: s.data.toList.drop (k + 1) := by
  have h' : k < s.data.toList.length := by simpa using h
  rw [List.drop_eq_getElem_cons h']; rfl
theorem len (s : ByteArray) : s.data.toList.length = s.size := by rw [Array.length_toList]; rfl
theorem drop_end (s : ByteArray) (k : Nat) (h : s.size ≤ k) : s.data.toList.drop k = [] := by
  rw [List.drop_eq_nil_iff, len]; exact h
theorem span_le (p : UInt8 → Bool) : ∀ l, span p l ≤ l.length
  | [] => Nat.le_refl _
  | c :: r => by
    have := span_le p r
    unfold span
    split <;> simp <;> omega
theorem span_hit {p : UInt8 → Bool} {c : UInt8} {r : List UInt8} (h : p c = true) : span p (c :: r) = span p r + 1 := by simp [span, h]
theorem span_miss {p : UInt8 → Bool} {c : UInt8} {r : List UInt8} (h : p c = false) : span p (c :: r) = 0 := by simp [span, h]
theorem head (s : ByteArray) (h : 0 < s.size) : s.data.toList.headD 0 = s[0] := by
  have e := drop_cons s 0 h
  rw [List.drop_zero] at e
  rw [e]; rfl
theorem ne_nil (s : ByteArray) (h : 0 < s.size) : s.data.toList ≠ [] := by
  intro e
  have := len s
  rw [e] at this
  simp at this
  omega
theorem skip_blank {c : UInt8} {r : List UInt8} (h : blank c = true) : skip false (c :: r) = skip false r + 1 := by simp [skip, h]
theorem skip_stop {c : UInt8} {r : List UInt8} (h : blank c = false) (h2 : (c == 45 && r.head? == some 45) = false) : skip false (c :: r) = 0 := by
  unfold skip; rw [h, h2]; rfl
theorem skip_inside : ∀ l : List UInt8, skip true l = span line l + skip false (l.drop (span line l))
  | [] => rfl
  | c :: r => by
    by_cases h : c = 10
    · subst h
      rw [span_miss (by rfl)]
      rw [List.drop_zero, skip_blank (by rfl)]
      simp [skip]
    · have hl : line c = true := by simp [line, h]
      have ih := skip_inside r
      rw [span_hit hl, List.drop_succ_cons]
      simp [skip, h]
      omega
theorem skip_remark {r : List UInt8} (h : (r.head? == some 45) = true) : skip false (45 :: r) = span line (45 :: r) + skip false ((45 :: r).drop (span line (45 :: r))) := by
  have hl : line 45 = true := by rfl
  have hb : blank 45 = false := by rfl
  rw [span_hit hl, List.drop_succ_cons]
  have h1 := skip_inside r
  have h2 : skip false (45 :: r) = skip true r + 1 := by
    show (if blank 45 = true then skip false r + 1 else if ((45 : UInt8) == 45 && r.head? == some 45) = true then skip true r + 1 else 0) = _
    rw [hb, h]
    rfl
  omega
theorem skip_le : ∀ (b : Bool) (l : List UInt8), skip b l ≤ l.length
  | b, [] => by cases b <;> exact Nat.le_refl _
  | true, c :: r => by
    have h1 := skip_le false r
    have h2 := skip_le true r
    unfold skip
    split <;> simp <;> omega
  | false, c :: r => by
    have h1 := skip_le false r
    have h2 := skip_le true r
    unfold skip
    split
    · simp; omega
    · split
      · simp; omega
      · simp
end Go.Proofs.YtlkedogplmnpkaaGreatDoor.Lx

/-
  token of package lex, at every place of a source: the cases joined.
-/
import Derived.Test.YtlkedogplmnpkaaGreatDoorLexG
namespace Go.Proofs.YtlkedogplmnpkaaGreatDoor
open Go.RowKit
namespace Lx
theorem second_le (r : List UInt8) (x : UInt8) : second r x ≤ r.length + 1 := by
  unfold second
  cases r with
  | nil => simp
  | cons d r' => split <;> simp
theorem sign_le : ∀ l : List UInt8, sign l ≤ l.length
  | [] => Nat.le_refl _
  | c :: r => by
    have h1 := second_le r 62
    have h2 := second_le r 94
    have h3 := second_le r 58
    have h4 := second_le r 61
    show sign (c :: r) ≤ r.length + 1
    simp only [sign]
    by_cases e : second r 62 = 2
    · simp only [e]
      repeat' split
      all_goals omega
    · have e' : (second r 62 == 2) = false := by simpa using e
      simp only [e']
      repeat' split
      all_goals first | omega | simp_all
theorem tok_long {l : List UInt8} (hl : letter (l.headD 0) = true) (h : 32 < span named l) : tok l = .error 32 := by
  unfold tok; rw [if_pos hl, if_pos h]
theorem tok_name {l : List UInt8} (hl : letter (l.headD 0) = true) (h : ¬ 32 < span named l) : tok l = .ok (if word (l.take (span named l)) then 3 else 1, span named l, 0) := by
  unfold tok; rw [if_pos hl, if_neg h]
theorem tok_digits {l : List UInt8} (hl : letter (l.headD 0) = false) (hd : digit (l.headD 0) = true) :
    tok l = if (span digit l > 1 && l.headD 0 == 48) || decide (value (l.take (span digit l)) > 9223372036854775807) then .error 31 else .ok (2, span digit l, value (l.take (span digit l))) := by
  unfold tok; rw [hl, if_neg (by simp), if_pos hd]
theorem tok_sign {l : List UInt8} (hl : letter (l.headD 0) = false) (hd : digit (l.headD 0) = false) : tok l = if sign l == 0 then .error 30 else .ok (4, sign l, 0) := by
  unfold tok; rw [hl, if_neg (by simp), hd, if_neg (by simp)]
end Lx

theorem token_at (s : ByteArray) (p : Nat) (w : World) (ht : Tabs w) (hs : s.size ≤ 65536) (hp : p < s.size) (q : ByteArray) (hq : s.extract p s.size = q) (hq0 : 0 < q.size) :
    Calls Tryz.prog 16 #[.string s, .int .i64 p] w (TokPost q.data.toList p w) := by
  have hh := Lx.head q hq0
  cases hl : Lx.letter q[0] with
  | true =>
    have hl' : Lx.letter (q.data.toList.headD 0) = true := by rw [hh]; exact hl
    have hle := Lx.span_le Lx.named q.data.toList
    rw [Lx.len] at hle
    by_cases h32 : 32 < Lx.span Lx.named q.data.toList
    · exact token_long s p w hs hp q hq hq0 hl _ (Lib.hid rfl) hle h32 (Lib.hid (Lx.tok_long hl' h32))
    · have ht' := Lx.tok_name hl' h32
      cases hw : Lx.word (q.data.toList.take (Lx.span Lx.named q.data.toList)) with
      | true => exact token_word_true s p w ht hs hp q hq hq0 hl _ (Lib.hid rfl) hle h32 hw (Lib.hid (by rw [ht', hw]; rfl))
      | false => exact token_word_false s p w ht hs hp q hq hq0 hl _ (Lib.hid rfl) hle h32 hw (Lib.hid (by rw [ht', hw]; rfl))
  | false =>
    have hl' : Lx.letter (q.data.toList.headD 0) = false := by rw [hh]; exact hl
    cases hd : Lx.digit q[0] with
    | true =>
      have hd' : Lx.digit (q.data.toList.headD 0) = true := by rw [hh]; exact hd
      have hle := Lx.span_le Lx.digit q.data.toList
      rw [Lx.len] at hle
      have hcons : q.data.toList = q[0] :: q.data.toList.drop 1 := sign_cons q hq0
      have hpos : 0 < Lx.span Lx.digit q.data.toList := by rw [hcons, Lx.span_hit hd]; omega
      have ht' := Lx.tok_digits hl' hd'
      rw [hh] at ht'
      obtain ⟨v, hv⟩ : ∃ v, Lx.value (q.data.toList.take (Lx.span Lx.digit q.data.toList)) = v := ⟨_, rfl⟩
      rw [hv] at ht'
      by_cases hmax : v ≤ 9223372036854775807
      · have hm : decide (v > 9223372036854775807) = false := by simp; omega
        rw [hm, Bool.or_false] at ht'
        by_cases h1 : 1 < Lx.span Lx.digit q.data.toList
        · by_cases hz : q[0] = 48
          · exact token_zero s p w hs hp q hq hq0 hl hd _ (Lib.hid rfl) hpos hle v (Lib.hid hv) hmax h1 hz (Lib.hid (by rw [ht', if_pos (by simp [h1, hz])]))
          · exact token_int2 s p w hs hp q hq hq0 hl hd _ (Lib.hid rfl) hpos hle v (Lib.hid hv) hmax h1 hz (Lib.hid (by rw [ht', if_neg (by simp [hz])]))
        · exact token_int1 s p w hs hp q hq hq0 hl hd _ (Lib.hid rfl) hpos hle v (Lib.hid hv) hmax h1 (Lib.hid (by rw [ht', if_neg (by simp [h1])]))
      · have hm : decide (v > 9223372036854775807) = true := by simp; omega
        rw [hm, Bool.or_true, if_pos rfl] at ht'
        exact token_range s p w ht hs hp q hq hq0 hl hd _ (Lib.hid rfl) hpos hle v (Lib.hid hv) (by omega) (Lib.hid ht')
    | false =>
      have hd' : Lx.digit (q.data.toList.headD 0) = false := by rw [hh]; exact hd
      have hle := Lx.sign_le q.data.toList
      rw [Lx.len] at hle
      have ht' := Lx.tok_sign hl' hd'
      by_cases h0 : Lx.sign q.data.toList = 0
      · exact token_none s p w hs hp q hq hq0 hl hd _ (Lib.hid rfl) hle h0 (Lib.hid (by rw [ht', h0]; rfl))
      · exact token_sign s p w hs hp q hq hq0 hl hd _ (Lib.hid rfl) hle (by omega) (Lib.hid (by rw [ht', if_neg (by simpa using h0)]))

theorem token_calls (s : ByteArray) (a : Int) (w : World) (ht : Tabs w) (hs : s.size ≤ 65536) (h0 : 0 ≤ a) (h1 : a < s.size) :
    Calls Tryz.prog 16 #[.string s, .int .i64 a] w (TokPost (s.data.toList.drop a.toNat) a w) := by
  obtain ⟨p, rfl⟩ := Int.eq_ofNat_of_zero_le h0
  rw [Int.toNat_natCast, ← Lib.extract_to_end]
  exact token_at s p w ht hs (by omega) _ rfl (by rw [extract_size]; omega)
end Go.Proofs.YtlkedogplmnpkaaGreatDoor

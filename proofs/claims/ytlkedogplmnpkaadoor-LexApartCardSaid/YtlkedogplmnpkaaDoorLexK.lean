/- 
  The plain law of LexApart, second part: a source's tokens behind any blanks and remarks, and the places at which they stand.
-/
import Derived.Test.YtlkedogplmnpkaaDoorLexJ
namespace Go.Proofs.YtlkedogplmnpkaaDoor
open Go.RowKit
namespace Lx

/-- The blanks that a number names. -/
def gap (k : Nat) : List UInt8 :=
  match k % 6 with
  | 0 => [32]
  | 1 => [10]
  | 2 => [9, 32]
  | 3 => [13, 10]
  | 4 => [32, 45, 45, 32, 120, 10]
  | _ => [32, 45, 45, 10, 45, 45, 121, 32, 122, 10]
theorem gap_cases (k : Nat) : gap k = [32] ∨ gap k = [10] ∨ gap k = [9, 32] ∨ gap k = [13, 10] ∨ gap k = [32, 45, 45, 32, 120, 10] ∨ gap k = [32, 45, 45, 10, 45, 45, 121, 32, 122, 10] := by
  unfold gap; split <;> simp
theorem skip_ten (y : List UInt8) : skip true (10 :: y) = skip false y + 1 := rfl
theorem skip_gap (k : Nat) (y : List UInt8) : skip false (gap k ++ y) = (gap k).length + skip false y := by
  rcases gap_cases k with h | h | h | h | h | h <;> rw [h] <;> simp [skip, blank] <;> omega
theorem gap_off (k : Nat) (y : List UInt8) : Off (gap k ++ y) := by
  rcases gap_cases k with h | h | h | h | h | h <;> rw [h] <;> exact .inr ⟨_, _, rfl, rfl⟩
theorem gap_len (k : Nat) : 1 ≤ (gap k).length ∧ (gap k).length ≤ 10 := by
  rcases gap_cases k with h | h | h | h | h | h <;> rw [h] <;> simp

/-- The tokens' texts, each behind its blanks; a line's end behind all. -/
def join : List Nat → List T → List UInt8
  | k :: ks, t :: ts => gap k ++ (t.text ++ join ks ts)
  | _, _ => [10]
theorem join_off : ∀ ks ts, Off (join ks ts)
  | [], _ => .inr ⟨_, _, rfl, rfl⟩
  | _ :: _, [] => .inr ⟨_, _, rfl, rfl⟩
  | k :: _, _ :: _ => gap_off k _

/-- Two lists of tokens, alike but for their places. -/
def Alike : List T → List T → Prop
  | [], [] => True
  | a :: l, b :: r => a.kind = b.kind ∧ a.text = b.text ∧ a.int = b.int ∧ Alike l r
  | _, _ => False
/-- Places that rise, the first above a bound. -/
def Rise : Nat → List T → Prop
  | _, [] => True
  | q, t :: l => q < t.pos ∧ Rise t.pos l
theorem Rise.mono {p q : Nat} (h : p ≤ q) : ∀ {l : List T}, Rise q l → Rise p l
  | [], _ => trivial
  | _ :: _, hr => ⟨Nat.lt_of_le_of_lt h hr.1, hr.2⟩

theorem toks_again : ∀ (f : Nat) (l : List UInt8) (p n : Nat) (ts : List T), toks f l p n = .ok ts → l.length + 1 ≤ f → ∀ (ks : List Nat), ks.length = ts.length → ∀ (f' p' : Nat), ts.length ≤ f' →
    ∃ ts', toks f' ((join ks ts).drop (skip false (join ks ts))) (p' + skip false (join ks ts)) n = .ok ts' ∧ Alike ts' ts ∧ Rise p' ts'
  | 0, l, p, n, ts, h, hf, ks, hk, f', p', hf' => by omega
  | f + 1, l, p, n, ts, h, hf, ks, hk, f', p', hf' => by
    by_cases hl : l = []
    · subst hl
      rw [toks_end] at h
      injection h with h
      subst h
      obtain ⟨k, rfl⟩ : ∃ k, ks = [k] := List.length_eq_one_iff.1 hk
      obtain ⟨f', rfl⟩ : ∃ g, f' = g + 1 := ⟨f' - 1, by simp at hf'; omega⟩
      have hj : join [k] [⟨0, [], 0, p⟩] = gap k ++ [10] := rfl
      have hs : skip false (join [k] [⟨0, [], 0, p⟩]) = (join [k] [⟨0, [], 0, p⟩]).length := by rw [hj, skip_gap, List.length_append]; rfl
      rw [hs, List.drop_length, toks_end]
      refine ⟨_, rfl, ⟨rfl, rfl, rfl, trivial⟩, ?_, trivial⟩
      rw [hj, List.length_append]
      simp
    · cases ht : tok l with
      | error e => rw [toks_bad hl ht] at h; cases h
      | ok x =>
        obtain ⟨k, m, v⟩ := x
        by_cases hn : 16384 ≤ n + 1
        · rw [toks_full hl ht _ _ _ hn] at h; cases h
        · have hm := toks_more hl ht f p n (by omega) []
          rw [after_nil, h] at hm
          cases hr : toks f ((l.drop m).drop (skip false (l.drop m))) (p + m + skip false (l.drop m)) (n + 1) with
          | error e => rw [hr] at hm; cases hm
          | ok ts1 =>
            rw [hr] at hm
            have hts : ts = ⟨k, l.take m, v, p⟩ :: ts1 := by simpa [after] using hm
            subst hts
            have hpos := tok_pos hl ht
            obtain ⟨k0, ks, rfl⟩ := List.exists_cons_of_length_eq_add_one hk
            obtain ⟨f', rfl⟩ : ∃ g, f' = g + 1 := ⟨f' - 1, by simp at hf'; omega⟩
            have hj : join (k0 :: ks) (⟨k, l.take m, v, p⟩ :: ts1) = gap k0 ++ (l.take m ++ join ks ts1) := rfl
            have hag := tok_again hl ht (join_off ks ts1)
            have hlen : (l.take m).length = m := by rw [List.length_take]; omega
            have hne : l.take m ++ join ks ts1 ≠ [] := by
              intro e
              have := congrArg List.length e
              rw [List.length_append, hlen] at this
              simp at this; omega
            have hs : skip false (join (k0 :: ks) (⟨k, l.take m, v, p⟩ :: ts1)) = (gap k0).length := by rw [hj, skip_gap, hag.2]; omega
            rw [hs, hj, List.drop_left]
            have hdrop : (l.take m ++ join ks ts1).drop m = join ks ts1 := List.drop_left' hlen
            have htake : (l.take m ++ join ks ts1).take m = l.take m := List.take_left' hlen
            obtain ⟨ts', h1, h2, h3⟩ := toks_again f _ _ _ ts1 hr (by simp; omega) ks (by simpa using hk) f' (p' + (gap k0).length + m) (by simpa using hf')
            have hm' := toks_more hne hag.1 f' (p' + (gap k0).length) n (by omega) []
            rw [after_nil, hdrop, htake, h1] at hm'
            refine ⟨⟨k, l.take m, v, p' + (gap k0).length⟩ :: ts', hm', ⟨rfl, rfl, rfl, h2⟩, ?_, h3.mono (by show p' + (gap k0).length ≤ _; omega)⟩
            have := (gap_len k0).1
            show p' < p' + (gap k0).length
            omega

theorem toks_sizes : ∀ (f : Nat) (l : List UInt8) (p n : Nat) (ts : List T), toks f l p n = .ok ts → ts.length ≤ l.length + 1 ∧ ∀ ks : List Nat, (join ks ts).length ≤ 10 * ts.length + l.length + 1
  | 0, l, p, n, ts, h => by
    simp only [toks] at h
    injection h with h
    subst h
    refine ⟨by simp, fun ks => ?_⟩
    cases ks <;> simp [join]
  | f + 1, l, p, n, ts, h => by
    by_cases hl : l = []
    · subst hl
      rw [toks_end] at h
      injection h with h
      subst h
      refine ⟨by simp, fun ks => ?_⟩
      cases ks with
      | nil => simp [join]
      | cons k ks =>
        have := (gap_len k).2
        have e : join (k :: ks) [⟨0, [], 0, p⟩] = gap k ++ [10] := by cases ks <;> rfl
        rw [e, List.length_append]; simp; omega
    · cases ht : tok l with
      | error e => rw [toks_bad hl ht] at h; cases h
      | ok x =>
        obtain ⟨k, m, v⟩ := x
        by_cases hn : 16384 ≤ n + 1
        · rw [toks_full hl ht _ _ _ hn] at h; cases h
        · have hm := toks_more hl ht f p n (by omega) []
          rw [after_nil, h] at hm
          cases hr : toks f ((l.drop m).drop (skip false (l.drop m))) (p + m + skip false (l.drop m)) (n + 1) with
          | error e => rw [hr] at hm; cases hm
          | ok ts1 =>
            rw [hr] at hm
            have hts : ts = ⟨k, l.take m, v, p⟩ :: ts1 := by simpa [after] using hm
            subst hts
            have hpos := tok_pos hl ht
            have ih := toks_sizes f _ _ _ ts1 hr
            simp only [List.length_drop] at ih
            refine ⟨by simp; omega, fun ks => ?_⟩
            cases ks with
            | nil => simp [join]
            | cons k0 ks =>
              have h1 := (gap_len k0).2
              have h2 := ih.2 ks
              have e : join (k0 :: ks) (⟨k, l.take m, v, p⟩ :: ts1) = gap k0 ++ (l.take m ++ join ks ts1) := rfl
              rw [e]
              simp only [List.length_append, List.length_take, List.length_cons]
              omega

theorem toks_ne (f : Nat) (l : List UInt8) (p n : Nat) : toks (f + 1) l p n ≠ .ok [] := by
  intro h
  by_cases hl : l = []
  · subst hl; rw [toks_end] at h; injection h with h; cases h
  · cases ht : tok l with
    | error e => rw [toks_bad hl ht] at h; cases h
    | ok x =>
      obtain ⟨k, m, v⟩ := x
      by_cases hn : 16384 ≤ n + 1
      · rw [toks_full hl ht _ _ _ hn] at h; cases h
      · have hm := toks_more hl ht f p n (by omega) []
        rw [after_nil, h] at hm
        cases hr : toks f ((l.drop m).drop (skip false (l.drop m))) (p + m + skip false (l.drop m)) (n + 1) with
        | error e => rw [hr] at hm; cases hm
        | ok ts1 => rw [hr] at hm; simp [after] at hm
theorem join_len : ∀ (ks : List Nat) (ts : List T), ts.length ≤ ks.length → ts.length ≤ (join ks ts).length
  | k :: ks, t :: ts, h => by
    have ih := join_len ks ts (by simpa using h)
    have := (gap_len k).1
    have e : join (k :: ks) (t :: ts) = gap k ++ (t.text ++ join ks ts) := rfl
    rw [e]; simp only [List.length_append, List.length_cons]; omega
  | [], [], _ => by simp
  | _ :: _, [], _ => by simp
  | [], _ :: _, h => by simp at h
/-- A token stands where it says. -/
def Stands (s : List UInt8) (t : T) : Prop := t.pos + t.text.length ≤ s.length ∧ (s.drop t.pos).take t.text.length = t.text
theorem toks_stand (s : List UInt8) : ∀ (f p n : Nat) (ts : List T), toks f (s.drop p) p n = .ok ts → p ≤ s.length → ∀ t ∈ ts, Stands s t
  | 0, p, n, ts, h, hp => by
    simp only [toks] at h
    injection h with h
    subst h
    simp
  | f + 1, p, n, ts, h, hp => by
    by_cases hl : s.drop p = []
    · rw [hl, toks_end] at h
      injection h with h
      subst h
      intro t ht
      obtain rfl := List.mem_singleton.1 ht
      exact ⟨by simpa using hp, by simp⟩
    · cases ht : tok (s.drop p) with
      | error e => rw [toks_bad hl ht] at h; cases h
      | ok x =>
        obtain ⟨k, m, v⟩ := x
        by_cases hn : 16384 ≤ n + 1
        · rw [toks_full hl ht _ _ _ hn] at h; cases h
        · have hm := toks_more hl ht f p n (by omega) []
          rw [after_nil, h] at hm
          have hsk := skip_le false ((s.drop p).drop m)
          have hpos := tok_pos hl ht
          simp only [List.length_drop] at hsk hpos
          obtain ⟨u, hu⟩ : ∃ u, skip false ((s.drop p).drop m) = u := ⟨_, rfl⟩
          rw [hu] at hm hsk
          rw [List.drop_drop, List.drop_drop, show p + (m + u) = p + m + u from by omega] at hm
          cases hr : toks f (s.drop (p + m + u)) (p + m + u) (n + 1) with
          | error e => rw [hr] at hm; cases hm
          | ok ts1 =>
            rw [hr] at hm
            have hts : ts = ⟨k, (s.drop p).take m, v, p⟩ :: ts1 := by simpa [after] using hm
            subst hts
            have hlen : ((s.drop p).take m).length = m := by rw [List.length_take, List.length_drop]; omega
            intro t hmem
            rcases List.mem_cons.1 hmem with rfl | hmem
            · refine ⟨?_, ?_⟩
              · show p + ((s.drop p).take m).length ≤ _
                rw [hlen]; omega
              · show (s.drop p).take ((s.drop p).take m).length = _
                rw [hlen]
            · exact toks_stand s f _ _ ts1 hr (by omega) t hmem
end Lx
end Go.Proofs.YtlkedogplmnpkaaDoor

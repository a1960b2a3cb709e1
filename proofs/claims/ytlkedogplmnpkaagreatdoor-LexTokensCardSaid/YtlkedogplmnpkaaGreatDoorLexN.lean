/-
  strconv.ParseInt at a run of digits, met by the shelf's contracts: the number, or an error where it is too great.
-/
import Derived.Test.YtlkedogplmnpkaaGreatDoorLexC
namespace Go.Proofs.YtlkedogplmnpkaaGreatDoor
open Go.RowKit
namespace Lx
def valueFrom (a : Nat) (l : List UInt8) : Nat := l.foldl (fun v c => 10 * v + (c.toNat - 48)) a
theorem valueFrom_ge : ∀ (l : List UInt8) (a : Nat), a ≤ valueFrom a l
  | [], a => Nat.le_refl _
  | c :: r, a => by
    have := valueFrom_ge r (10 * a + (c.toNat - 48))
    show a ≤ valueFrom (10 * a + (c.toNat - 48)) r
    omega
def allDigits (l : List UInt8) : Prop := ∀ c ∈ l, 48 ≤ c.toNat ∧ c.toNat ≤ 57
theorem parseM : ∀ (l : List UInt8) (a : Nat), allDigits l → a ≤ 18446744073709551615 →
    Lib.parseUintM 18446744073709551615 a l = if valueFrom a l ≤ 18446744073709551615 then .ok (valueFrom a l) else .range
  | [], a, _, ha => by simp [Lib.parseUintM, valueFrom, ha]
  | c :: r, a, h, ha => by
    have hc := h c (by simp)
    have hr : allDigits r := fun x hx => h x (by simp [hx])
    have hv : valueFrom a (c :: r) = valueFrom (10 * a + (c.toNat - 48)) r := rfl
    have hge := valueFrom_ge r (10 * a + (c.toNat - 48))
    rw [hv]
    unfold Lib.parseUintM
    rw [if_pos hc]
    by_cases h1 : 1844674407370955162 ≤ a
    · rw [if_pos h1, if_neg (by omega)]
    · rw [if_neg h1]
      by_cases h2 : 18446744073709551615 < a * 10 + (c.toNat - 48)
      · rw [if_pos h2, if_neg (by omega)]
      · rw [if_neg h2, show a * 10 + (c.toNat - 48) = 10 * a + (c.toNat - 48) from by omega]
        exact parseM r _ hr (by omega)
theorem parseI (l : List UInt8) (hd : allDigits l) (hne : l ≠ []) :
    Lib.parseIntB 64 l = if value l ≤ 9223372036854775807 then .ok (value l : Int) else .range := by
  cases l with
  | nil => exact absurd rfl hne
  | cons c r =>
    have hc := hd c (by simp)
    have hp := parseM (c :: r) 0 hd (by omega)
    have hv : valueFrom 0 (c :: r) = value (c :: r) := rfl
    rw [hv] at hp
    have hu : Lib.parseUintB 64 (c :: r) = if value (c :: r) ≤ 18446744073709551615 then .ok (value (c :: r)) else .range := hp
    unfold Lib.parseIntB
    simp only
    rw [if_neg (by omega : ¬ (c.toNat = 43 ∨ c.toNat = 45)), hu]
    by_cases h1 : value (c :: r) ≤ 9223372036854775807
    · rw [if_pos h1, if_pos (by omega)]
      simp only
      rw [if_neg (by omega), if_neg (by omega), if_neg (by omega)]
    · rw [if_neg h1]
      by_cases h2 : value (c :: r) ≤ 18446744073709551615
      · rw [if_pos h2]
        simp only
        rw [if_pos (by omega)]
      · rw [if_neg h2]
theorem span_digits : ∀ l : List UInt8, allDigits (l.take (span digit l))
  | [] => fun c hc => by simp at hc
  | c :: r => by
    by_cases h : digit c = true
    · rw [span_hit h, List.take_succ_cons]
      intro x hx
      rcases List.mem_cons.1 hx with rfl | hx
      · simpa [digit, UInt8.le_iff_toNat_le] using h
      · exact span_digits r x hx
    · rw [span_miss (by simpa using h)]
      intro x hx
      simp at hx
end Lx

theorem parse_ok (x : ByteArray) (w : World) (hx : x.size ≤ 65536) (hd : Lx.allDigits x.data.toList) (hne : x.data.toList ≠ []) (v : Nat) (hv : Hid (Lx.value x.data.toList = v)) (hmax : v ≤ 9223372036854775807) :
    Calls Tryz.prog 31 #[.string x, .int .i64 10, .int .i64 64] w fun e w' => e = .returned (.tuple #[.int .i64 v, .nilIface]) ∧ Below w.heap.size w w' := by
  have h := Lx.parseI x.data.toList hd hne
  rw [hv.out, if_pos hmax] at h
  refine (Tryz.strconv_ParseInt_10_at64_ok x (by omega) v h w).mono ?_
  rintro e w' ⟨rfl, hw⟩
  refine ⟨rfl, ?_⟩
  rcases hw with rfl | ⟨t, rfl⟩
  · exact Below.refl _ _
  · exact Lib.bytesWorld_below w _ t

def SomeErr (w : World) (e : Ending) (w' : World) : Prop := ∃ v t p, e = .returned (.tuple #[.int .i64 v, .iface t p]) ∧ Below w.heap.size w w'
theorem parse_range (x : ByteArray) (w : World) (ht : Tabs w) (hx : x.size ≤ 65536) (hd : Lx.allDigits x.data.toList) (hne : x.data.toList ≠ []) (v : Nat) (hv : Hid (Lx.value x.data.toList = v)) (hmax : 9223372036854775807 < v) :
    Calls Tryz.prog 31 #[.string x, .int .i64 10, .int .i64 64] w (SomeErr w) := by
  have h := Lx.parseI x.data.toList hd hne
  rw [hv.out, if_neg (by omega)] at h
  obtain ⟨_, tp, p, hvar⟩ := ht
  refine (Tryz.strconv_ParseInt_10_at64_range_var x (by omega) h tp p w hvar).mono ?_
  rintro e w' ⟨N, rfl, _, _, hb⟩
  exact ⟨_, _, _, rfl, hb⟩
end Go.Proofs.YtlkedogplmnpkaaGreatDoor

/- 
  The document's own 'token': at a digit.
-/
import Derived.Test.YtlkedogplmnpkaaGreatDoorLexRc
import Derived.Test.YtlkedogplmnpkaaGreatDoorLexH
namespace Go.Proofs.YtlkedogplmnpkaaGreatDoor
open Go.RowKit

theorem tok_number {l : List UInt8} (hl : Lx.letter (l.headD 0) = false) (hd : Lx.digit (l.headD 0) = true) :
    Lx.tok l = if Lx.noNumber (l.take (Lx.span Lx.digit l)) then .error 31 else .ok (2, Lx.span Lx.digit l, Lx.value (l.take (Lx.span Lx.digit l))) := by
  rw [Lx.tok_digits hl hd]
  have hle := Lx.span_le Lx.digit l
  have hlen : (l.take (Lx.span Lx.digit l)).length = Lx.span Lx.digit l := by rw [List.length_take]; omega
  have hh : (l.take (Lx.span Lx.digit l)).headD 0 = l.headD 0 := by
    cases l with
    | nil => rfl
    | cons c r =>
      have : Lx.digit c = true := hd
      rw [Lx.span_hit this]; rfl
  unfold Lx.noNumber
  rw [hlen, hh]

set_option maxHeartbeats 2000000 in
set_option maxRecDepth 100000 in
theorem refToken_digit (s : ByteArray) (p : Nat) (w : World) (hs : s.size ≤ 65536) (hp : p < s.size) (hl : Lx.letter s[p] = false) (hdg : Lx.digit s[p] = true) :
    Calls Tryz.prog 18 #[.string s, .int .i64 p] w (RefPost (s.data.toList.drop p) p w) := by
  have hhead : Lx.letter ((s.data.toList.drop p).headD 0) = false := by rw [Lx.drop_cons s p hp]; exact hl
  have hhead2 : Lx.digit ((s.data.toList.drop p).headD 0) = true := by rw [Lx.drop_cons s p hp]; exact hdg
  have hT := tok_number hhead hhead2
  have K1 := Lib.hid (fun w : World => (show Calls Tryz.prog 33 #[.int .u8 (s[p].toNat : Int)] w fun e w' => e = .returned (.bool false) ∧ w = w' by rw [← hl]; exact refLetter_calls _ w))
  have K2 := Lib.hid (fun w : World => (show Calls Tryz.prog 34 #[.int .u8 (s[p].toNat : Int)] w fun e w' => e = .returned (.bool true) ∧ w = w' by rw [← hdg]; exact refDigit_calls _ w))
  have hle := Lx.span_le Lx.digit (s.data.toList.drop p)
  have hpos : 0 < Lx.span Lx.digit (s.data.toList.drop p) := by rw [Lx.drop_cons s p hp, Lx.span_hit hdg]; omega
  have hdig := Lx.span_digits (s.data.toList.drop p)
  rw [List.length_drop, Lx.len] at hle
  obtain ⟨n, hn⟩ : ∃ n, Lx.span Lx.digit (s.data.toList.drop p) = n := ⟨_, rfl⟩
  rw [hn] at hT hle hpos hdig
  have HN := Lib.hid hn
  obtain ⟨x, hx⟩ : ∃ x, s.extract p (p + n) = x := ⟨_, rfl⟩
  have hxd0 : x.data.toList = (s.data.toList.drop p).take n := by rw [← hx, drop_extract]
  have hxs : x.size = n := by rw [← Lx.len, hxd0, List.length_take, List.length_drop, Lx.len]; omega
  rw [← hxd0] at hT hdig
  have KN := fun w : World => refNumber_calls x w (by omega) (by omega) hdig
  have hx1 : s.extract p ((p : Int) + (n : Int)).toNat = x := by rw [show ((p : Int) + (n : Int)).toNat = p + n from by omega]; exact hx
  have hxd := Lib.hid hxd0
  obtain ⟨b, hb⟩ : ∃ b, Lx.noNumber x.data.toList = b := ⟨_, rfl⟩
  rw [hb] at hT KN
  obtain ⟨V, hV⟩ : ∃ V, Lx.value x.data.toList = V := ⟨_, rfl⟩
  rw [hV] at hT KN
  have HT := Lib.hid hT
  have HKN := Lib.hid KN
  clear hhead hhead2 hl hdg hn hdig hxd0 hxs hb hT KN hV
  go_enter Tryz.func18, Tryz.ntmps18
  go_wp2_with (first | (go_at_call 33; refine (K1.out _).mono ?_; rintro e w' ⟨rfl, rfl⟩) | (go_at_call 34; refine (K2.out _).mono ?_; rintro e w' ⟨rfl, rfl⟩))
  clear K1 K2
  go_loop [6] (fun i => ∃ k : Nat, k ≤ s.size ∧ p ≤ k ∧ i = .int .i64 k ∧ Hid (p + n = k + Lx.span Lx.digit (s.data.toList.drop k))) (fun i => s.size - (intOf i).toNat)
  case atStart => exact ⟨p, by omega, Nat.le_refl _, rfl, Lib.hid (by rw [HN.out])⟩
  case round =>
    obtain ⟨k, hk, hpk, rfl, hsp⟩ := hrel
    by_cases hlt : k < s.size
    · obtain ⟨y, hy⟩ : ∃ y, Lx.digit s[k] = y := ⟨_, rfl⟩
      have hd := Lib.hid (Lx.drop_cons s k hlt)
      have K4 := Lib.hid (fun w : World => (show Calls Tryz.prog 34 #[.int .u8 (s[k].toNat : Int)] w fun e w' => e = .returned (.bool y) ∧ w = w' by rw [← hy]; exact refDigit_calls _ w))
      cases y
      · have hz : Hid (Lx.span Lx.digit (s.data.toList.drop k) = 0) := Lib.hid (by rw [hd.out, Lx.span_miss hy])
        clear hy
        have hcl : Hid (k = p + n) := Lib.hid (by have h1 := hsp.out; rw [hz.out] at h1; omega)
        obtain rfl := hcl.out
        clear hsp hcl
        cases b
        · have htok : Hid (Lx.tok (s.data.toList.drop p) = .ok (2, n, V)) := Lib.hid (by rw [HT.out]; rfl)
          have KN := Lib.hid (fun w : World => (show Calls Tryz.prog 36 #[.string x] w fun e w' => e = .returned (.tuple #[.int .i64 (V : Int), .bool true]) ∧ w = w' by
            refine (HKN.out w).mono ?_
            rintro e w' ⟨⟨v, he, hv⟩, h⟩
            exact ⟨by rw [he, hv rfl]; rfl, h⟩))
          clear HT HKN
          go_wp2_with (first | (go_at_call 34; refine (K4.out _).mono ?_; rintro e w' ⟨rfl, rfl⟩) | (go_at_call 36; refine (KN.out _).mono ?_; rintro e w' ⟨rfl, rfl⟩))
          exact refToken_end rfl rfl (heap_alloc_new w _) (RefPost.token (k := 2) (v := V) htok hxd.out (boxes w _ _))
        · have htok : Hid (Lx.tok (s.data.toList.drop p) = .error 31) := Lib.hid (by rw [HT.out]; rfl)
          have KN := Lib.hid (fun w : World => (show Calls Tryz.prog 36 #[.string x] w fun e w' => (∃ v : Int, e = .returned (.tuple #[.int .i64 v, .bool false])) ∧ w = w' by
            refine (HKN.out w).mono ?_
            rintro e w' ⟨⟨v, he, _⟩, h⟩
            exact ⟨⟨v, he⟩, h⟩))
          clear HT HKN
          go_wp2_with (first | (go_at_call 34; refine (K4.out _).mono ?_; rintro e w' ⟨rfl, rfl⟩) | (go_at_call 36; refine (KN.out _).mono ?_; rintro e w' ⟨⟨v, rfl⟩, rfl⟩))
          exact refToken_end rfl rfl (heap_alloc_new w _) (RefPost.fault htok (boxes w _ _))
      · have hz : Hid (Lx.span Lx.digit (s.data.toList.drop k) = Lx.span Lx.digit (s.data.toList.drop (k + 1)) + 1) := Lib.hid (by rw [hd.out, Lx.span_hit hy])
        clear hy
        go_wp2_with (go_at_call 34; refine (K4.out _).mono ?_; rintro e w' ⟨rfl, rfl⟩)
        go_round
        case rel => exact ⟨k + 1, by omega, by omega, by go_num, Lib.hid (by rw [hsp.out, hz.out]; omega)⟩
        case measure => simp [intOf]; omega
    · have hz : Hid (Lx.span Lx.digit (s.data.toList.drop k) = 0) := Lib.hid (by rw [Lx.drop_end s k (by omega)]; rfl)
      have hcl : Hid (k = p + n) := Lib.hid (by have h1 := hsp.out; rw [hz.out] at h1; omega)
      obtain rfl := hcl.out
      clear hsp hcl
      cases b
      · have htok : Hid (Lx.tok (s.data.toList.drop p) = .ok (2, n, V)) := Lib.hid (by rw [HT.out]; rfl)
        have KN := Lib.hid (fun w : World => (show Calls Tryz.prog 36 #[.string x] w fun e w' => e = .returned (.tuple #[.int .i64 (V : Int), .bool true]) ∧ w = w' by
          refine (HKN.out w).mono ?_
          rintro e w' ⟨⟨v, he, hv⟩, h⟩
          exact ⟨by rw [he, hv rfl]; rfl, h⟩))
        clear HT HKN
        go_wp2_with (go_at_call 36; refine (KN.out _).mono ?_; rintro e w' ⟨rfl, rfl⟩)
        exact refToken_end rfl rfl (heap_alloc_new w _) (RefPost.token (k := 2) (v := V) htok hxd.out (boxes w _ _))
      · have htok : Hid (Lx.tok (s.data.toList.drop p) = .error 31) := Lib.hid (by rw [HT.out]; rfl)
        have KN := Lib.hid (fun w : World => (show Calls Tryz.prog 36 #[.string x] w fun e w' => (∃ v : Int, e = .returned (.tuple #[.int .i64 v, .bool false])) ∧ w = w' by
          refine (HKN.out w).mono ?_
          rintro e w' ⟨⟨v, he, _⟩, h⟩
          exact ⟨⟨v, he⟩, h⟩))
        clear HT HKN
        go_wp2_with (go_at_call 36; refine (KN.out _).mono ?_; rintro e w' ⟨⟨v, rfl⟩, rfl⟩)
        exact refToken_end rfl rfl (heap_alloc_new w _) (RefPost.fault htok (boxes w _ _))
end Go.Proofs.YtlkedogplmnpkaaGreatDoor

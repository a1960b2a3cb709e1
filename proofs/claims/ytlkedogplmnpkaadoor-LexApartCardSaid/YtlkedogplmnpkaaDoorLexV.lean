/- 
  The law LexNames, walked: true for any text and any place; what was there stays as it was.
-/
import Derived.Test.YtlkedogplmnpkaaDoorLexS
import Derived.Test.YtlkedogplmnpkaaDoorLexU
namespace Go.Proofs.YtlkedogplmnpkaaDoor
open Go.RowKit

set_option maxHeartbeats 1000000 in
theorem lexNames_calls (s : ByteArray) (p : Int) (w : World) (ht : Tabs w) :
    Calls Tryd.prog 3 #[.string s, .int .i64 p] w fun e w' => e = .returned (.bool true) ∧ Below w.heap.size w w' := by
  have KA := Lib.hid (fun (w : World) (ht : Tabs w) => alive_calls w ht)
  by_cases hs : s.size ≤ 4096
  · have hM : s.size ≤ maxLen := by unfold maxLen; omega
    obtain ⟨q, hq⟩ : ∃ q, Lx.place (s.data.toList.take (Lx.clip p s.size)) = q := ⟨_, rfl⟩
    have K1 := fun w : World => lexLine_calls s p w (by omega)
    have K2 := fun w : World => refLine_calls s p w (by omega)
    rw [hq] at K1 K2
    obtain ⟨a, b⟩ := q
    have K1 := Lib.hid K1
    have K2 := Lib.hid K2
    clear hq
    obtain ⟨x, hx⟩ : ∃ x, Lx.word s.data.toList = x := ⟨_, rfl⟩
    have K3 := fun (w : World) (ht : Tabs w) => word_calls s w ht hM
    have K4 := fun (w : World) => refWord_calls s w
    rw [hx] at K3 K4
    have K3 := Lib.hid K3
    have K4 := Lib.hid K4
    clear hx
    obtain ⟨y, hy⟩ : ∃ y, Lx.name s.data.toList = y := ⟨_, rfl⟩
    have K5 := fun (w : World) (ht : Tabs w) => name_calls s w ht hM
    have K6 := fun (w : World) => refName_calls s w (by omega)
    rw [hy] at K5 K6
    have K5 := Lib.hid K5
    have K6 := Lib.hid K6
    clear hy
    go_enter Tryd.func3, Tryd.ntmps3
    go_wp2_with (first
      | (go_at_call 6; refine (K1.out _).mono ?_; rintro e w1 ⟨rfl, h⟩; subst h)
      | (go_at_call 7; refine (K2.out _).mono ?_; rintro e w1 ⟨rfl, h⟩; subst h)
      | (go_at_call 8; refine (K3.out _ ht).mono ?_; rintro e w1 ⟨rfl, hb1⟩; have ht1 := ht.below hb1)
      | (go_at_call 9; refine (K4.out _).mono ?_; rintro e w2 ⟨rfl, hb2⟩; have ht2 := ht1.below hb2)
      | (go_at_call 10; refine (K5.out _ ht2).mono ?_; rintro e w3 ⟨rfl, hb3⟩; have ht3 := ht2.below hb3)
      | (go_at_call 11; refine (K6.out _).mono ?_; rintro e w4 ⟨rfl, hb4⟩; have ht4 := ht3.below hb4)
      | (go_at_call 5; refine (KA.out _ ht4).mono ?_; rintro e w5 ⟨rfl, hb5⟩))
    go_ret
    exact ⟨rfl, hb1.trans ((hb2.trans ((hb3.trans ((hb4.trans (hb5.mono hb4.size)).mono hb3.size)).mono hb2.size)).mono hb1.size)⟩
  · go_enter Tryd.func3, Tryd.ntmps3
    go_wp2_with (go_at_call 5; refine (KA.out _ ht).mono ?_; rintro e w1 ⟨rfl, hb1⟩)
    go_ret
    exact ⟨rfl, hb1⟩
end Go.Proofs.YtlkedogplmnpkaaDoor

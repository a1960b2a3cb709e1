/- 
  The row of LexApart proved, and its tied card: for any source and any blanks the law returns true.
-/
import Derived.Test.YtlkedogplmnpkaaDoorLexW
import Derived.Test.YtlkedogplmnpkaaDoorLexZ
import Derived.ChangeSlices
import Derived.Carry
import Derived.ChangeMaps5
namespace Go.Proofs.YtlkedogplmnpkaaDoor
open Go.ChangeShapes Go.WideShapes Go.RowKit Go.ChangeMaps

set_option maxRecDepth 100000 in
/-- The law, for any source and any blanks. -/
theorem lexApart_calls (src : ByteArray) (A : Option Addr) (m c : Nat) (z : Nat → Nat) (w : World) (ht : Tabs w)
    (hA : m = 0 ∨ ∃ a, A = some a ∧ a.block < w.heap.size ∧ ∀ j, j < m → w.cell? (a.add j) = some (.int .u8 (z j : Int)) ∧ z j < 256) :
    Calls Tryd.prog 4 #[.string src, .slice A m c] w fun e w' => e = .returned (.bool true) ∧ Below w.heap.size w w' := by
  by_cases hs : src.size ≤ 1024
  · cases hts : Lx.tokens src.data.toList with
    | ok ts => exact lexApart_ok src A m c z w ht hs hA ts hts
    | error e =>
      obtain ⟨p, k⟩ := e
      have K1 := Lib.hid (tokens_fault src p k hts w ht)
      clear hts
      go_enter Tryd.func4, Tryd.ntmps4
      go_wp2_with (first | (go_at_call 12; refine K1.out.mono ?_; rintro e w1 ⟨rfl, hb1⟩; have ht1 := ht.below hb1) | (go_at_call 5; refine (alive_calls _ ht1).mono ?_; rintro e w2 ⟨rfl, hb2⟩))
      go_ret
      exact ⟨rfl, hb1.trans (hb2.mono hb1.size)⟩
  · go_enter Tryd.func4, Tryd.ntmps4
    go_wp2_with (go_at_call 5; refine (alive_calls _ ht).mono ?_; rintro e w1 ⟨rfl, hb1⟩)
    go_ret
    exact ⟨rfl, hb1⟩
theorem u8_range {n : Int} (h : (Lit.int .u8 n).wf = true) : 0 ≤ n ∧ n < 256 := by
  have := bounds_u8 h; omega
set_option maxRecDepth 100000 in
theorem lexApart_lifted (os : Os) (started : os.Started) (H : Type) (enc : TypeId × Value → H) :
    ReturnsInHanded {} Tryd.checked os 4 .any (fun w args => (Rows.lexApartSpec.pre enc Tryd.prog Tryd.f4 [] false w args ∧ laidMetH Tryd.prog laid7 w) ∧ sizedMet enc Tryd.prog Tryd.f4 (OpenSpec.ofChange Rows.lexApartSpec) false w args)
      (Rows.lexApartSpec.post enc Tryd.prog Tryd.f4 false true false false) := by
  refine returnsInHanded_of_change_and (C := Tryd.checked) (X := fun w _ => laidMetH Tryd.prog laid7 w) (fun _ _ _ hh h => h.of_heap hh) own started (by kernel_rfl) Tryd.func4
    (ChangeSpec.witness_shaped (enc := enc) (C := Tryd.checked) (os := os) (X := fun w _ => laidMetH Tryd.prog laid7 w) false (World.doorLaid Tryd.prog 86 os) #[.string ⟨#[]⟩, .slice none 0 0] 8 rfl (World.shaped_of_RefB (by kernel_rfl) (by kernel_rfl)) (by kernel_rfl) (by kernel_rfl) (by kernel_rfl) (door_met os _)) ?_
  intro W base args ds gs before hval0 hW _ _ hL _
  have hval : ∀ (j : Nat) t v, Tryd.f4.params[j]? = some t → args[j]? = some v → Value.okWide Tryd.prog W .any base t v := hval0
  have hW' := hW
  obtain ⟨p, q, hA0, hV, rfl, hfz, hnd⟩ := hW
  have hA : DataW.TrodAll enc Tryd.prog W 0 (fun _ => true) true Tryd.f4.params.toList args.toList ds p := hA0
  rw [Tryd.params4] at hA hval
  obtain ⟨v0, v1, d0, d1, p0, p1, rfl, rfl, rfl, h0, h1⟩ := trodAll_two hA
  obtain ⟨rfl, rfl⟩ := trodVars_none hV
  obtain ⟨s, rfl, rfl, rfl, ws⟩ := open_string Tryd.underlying9 (hval 0 9 v0 rfl rfl) h0
  obtain ⟨a0, m, cap, rfl⟩ := okWide_slice Tryd.underlying27 (hval 1 27 v1 rfl rfl)
  have h1k := h1
  obtain ⟨fuel, hf⟩ := h1
  have ht := tabs_of_laid hL
  simp only [List.append_nil, List.nil_append] at hW'
  have hlt : ∀ x ∈ p1, x.block < W.heap.size := fun x hx => by simpa using hW'.lt x (by simpa using hx)
  have e1 : Rows.lexApartSpec.fn H ([.lit (.string s.data.toList), d1] ++ []) = { results := [.lit (.bool true)], args := [.lit (.string s.data.toList), d1] } := by simp [Rows.lexApartSpec]
  have fin : ∀ (z : Nat → Nat), (m = 0 ∨ ∃ a, a0 = some a ∧ a.block < W.heap.size ∧ ∀ j, j < m → W.cell? (a.add j) = some (.int .u8 (z j : Int)) ∧ z j < 256) →
      Calls Tryd.prog 4 #[.string s, .slice a0 m cap] W fun e W' => ∃ v, e = .returned v ∧ Rows.lexApartSpec.post enc Tryd.prog Tryd.f4 false true false false W #[.string s, .slice a0 m cap] v W' := by
    intro z hz
    refine (lexApart_calls s a0 m cap z W ht hz).mono fun e W' ⟨he, hb⟩ => ?_
    subst he
    refine ⟨_, rfl, _, _, _, [], p1, [], hW', ?_, ?_, ?_, hb.frame _, fun h => by cases h⟩
    · rw [e1]; exact trodAll_mk1 (shut_bool Tryd.underlying4 true)
    · rw [e1]; exact trodAll_mk2 (shut_string Tryd.underlying9 ws) (Below.trod laidOut (by kernel_rfl) (of_decide_eq_true (by kernel_rfl)) h1k hb hlt)
    · rw [e1]; rfl
  rcases open_ints Tryd.underlying27 Tryd.underlying5 cellsU8 hf with ⟨hcs, hx⟩ | ⟨a, len', cap', zs, hcs, _, hl, hm, hz, hx, hcell, hwz⟩
  · simp [Value.cells] at hcs
    obtain ⟨rfl, rfl, rfl⟩ := hcs
    exact fin (fun _ => 0) (.inl rfl)
  · simp [Value.cells] at hcs
    obtain ⟨rfl, rfl, rfl⟩ := hcs
    simp only [Prod.mk.injEq] at hx
    obtain ⟨rfl, rfl⟩ := hx
    simp only [if_true] at hz
    refine fin (fun j => (zs.getD j 0).toNat) ?_
    rcases Nat.eq_zero_or_pos m with h0 | h0
    · exact .inl h0
    · refine .inr ⟨a, rfl, ?_, fun j hj => ?_⟩
      · obtain ⟨b, off, spot⟩ := a
        exact hlt (.cell b off) (MemPlace.mem_row.2 ⟨0, by omega, by simp⟩)
      · have hw : (Lit.int .u8 (zs.getD j 0)).wf = true := hwz _ (by rw [List.getD_eq_getElem?_getD, List.getElem?_eq_getElem (by omega)]; exact List.getElem_mem _)
        have hr : 0 ≤ zs.getD j 0 ∧ zs.getD j 0 < 256 := u8_range hw
        have e : (((zs.getD j 0).toNat : Nat) : Int) = zs.getD j 0 := Int.toNat_of_nonneg hr.1
        exact ⟨by rw [e]; exact hcell j (by omega), by omega⟩

theorem lexApart_holds : Rows.LexApartSaid :=
  OpenClaim.holds_of_wide 4 Tryd.f4 rfl rfl rfl rfl rfl rfl rfl ⟨rfl, rfl, rfl, rfl, rfl⟩ rfl rfl rfl rfl rfl (by kernel_rfl) Tryd.func4 (by kernel_rfl)
    (of_decide_eq_true (by kernel_rfl)) (by unfold Func.isWrapper; first | (rw [if_pos (by decide +kernel)]; kernel_rfl) | (rw [if_neg (by decide +kernel)]; exact ⟨rfl, rfl⟩))
    (fun os started H enc _ => lexApart_lifted os started H enc)

theorem lexApart_card : Rows.LexApartCardSaid :=
  Claim7.holds_tied_plain_at .later [] [.data, .data, .data, .sentinel, .sentinel, .listed, .data] true (true, "86a7f981822497cc945efd7c46acf1d587d1d9e8c99a68fb5098d41cb1b9cd4d") true
    lexApart_holds (fun _ h => by cases h) (by kernel_rfl) (fun _ h => by cases h) lexApart_row_tie rfl ⟨rfl, rfl⟩ (by kernel_rfl) rfl
    (fun f fn hf hfn => by
      obtain rfl : f = 4 := Option.some.inj ((show Tryd.prog.funcNamed "carillon/carillonlaw03.LexApart" = some 4 by kernel_rfl).symm.trans hf) |>.symm
      obtain rfl : fn = Tryd.f4 := (Option.some.inj (Tryd.func4.symm.trans hfn)).symm
      exact ⟨by kernel_rfl, fun j t ht => by
        rw [Tryd.params4] at ht
        have hm : t ∈ [9, 27] := by simpa using Array.mem_of_getElem? ht
        have hall : ([9, 27].all fun u => !Tryd.prog.wantsStandIn u) = true := by kernel_rfl
        exact (show Tryd.prog.wantsStandIn t = false by simpa using List.all_eq_true.1 hall t hm)⟩)
    (by kernel_rfl)
end Go.Proofs.YtlkedogplmnpkaaDoor

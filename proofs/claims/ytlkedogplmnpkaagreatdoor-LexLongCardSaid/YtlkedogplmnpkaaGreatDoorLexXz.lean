/- 
  The row of LexLong proved, and its tied card: for any number beside the bounds, and for either text, the law returns true.
-/
import Derived.Test.YtlkedogplmnpkaaGreatDoorLexWz
import Derived.ChangeMaps5
namespace Go.Proofs.YtlkedogplmnpkaaGreatDoor
open Go.ChangeShapes Go.WideShapes Go.RowKit Go.ChangeMaps

theorem i8_range {n : Int} (h : (Lit.int .i8 n).wf = true) : -128 ≤ n ∧ n ≤ 127 := by
  simp [Lit.wf, IntKind.min, IntKind.max, IntKind.signed, IntKind.bits] at h
  omega
/-- The law, at whatever it is handed. -/
theorem lexLong_calls (n : Int) (b : Bool) (w : World) (ht : Tabs w) (hh : Han w) (hr : -128 ≤ n ∧ n ≤ 127) :
    Calls Tryz.prog 4 #[.int .i8 n, .bool b] w fun e w' => e = .returned (.bool true) ∧ Below w.heap.size w w' := by
  cases b with
  | true =>
    obtain ⟨k, hk⟩ : ∃ k : Nat, 16383 + n = (k : Int) := ⟨(16383 + n).toNat, by omega⟩
    by_cases ho : 0 < n
    · exact lexLong_semis_over n k w ht hh hk (by omega) hr.2 ho
    · exact lexLong_semis_under n k w ht hh hk (by omega) hr.2 ho
  | false =>
    obtain ⟨k, hk⟩ : ∃ k : Nat, 65536 + n = (k : Int) := ⟨(65536 + n).toNat, by omega⟩
    by_cases ho : 0 < n
    · exact lexLong_spaces_over n k w ht hh hk (by omega) hr.2 ho
    · exact lexLong_spaces_under n k w ht hh hk (by omega) hr.2 ho
set_option maxRecDepth 100000 in
theorem lexLong_lifted (os : Os) (started : os.Started) (H : Type) (enc : TypeId × Value → H) :
    ReturnsInHanded {} Tryz.checked os 4 .any (fun w args => (Rows.lexLongSpec.pre enc Tryz.prog Tryz.f4 [] false w args ∧ laidMetH Tryz.prog laid7 w) ∧ sizedMet enc Tryz.prog Tryz.f4 (OpenSpec.ofChange Rows.lexLongSpec) false w args)
      (Rows.lexLongSpec.post enc Tryz.prog Tryz.f4 false true false false) := by
  refine returnsInHanded_of_change_and (C := Tryz.checked) (X := fun w _ => laidMetH Tryz.prog laid7 w) (fun _ _ _ hh h => h.of_heap hh) own started (by kernel_rfl) Tryz.func4
    (ChangeSpec.witness_shaped (enc := enc) (C := Tryz.checked) (os := os) (X := fun w _ => laidMetH Tryz.prog laid7 w) false (World.doorLaid Tryz.prog 93 os) #[.int .i8 0, .bool false] 8 rfl (World.shaped_of_RefB (by kernel_rfl) (by kernel_rfl)) (by kernel_rfl) (by kernel_rfl) (by kernel_rfl) (door_met os _)) ?_
  intro W base args ds gs before hval0 hW _ _ hL _
  have hval : ∀ (j : Nat) t v, Tryz.f4.params[j]? = some t → args[j]? = some v → Value.okWide Tryz.prog W .any base t v := hval0
  have hW' := hW
  obtain ⟨p, q, hA0, hV, rfl, hfz, hnd⟩ := hW
  have hA : DataW.TrodAll enc Tryz.prog W 0 (fun _ => true) true Tryz.f4.params.toList args.toList ds p := hA0
  rw [Tryz.params4] at hA hval
  obtain ⟨v0, v1, d0, d1, p0, p1, rfl, rfl, rfl, h0, h1⟩ := trodAll_two hA
  obtain ⟨rfl, rfl⟩ := trodVars_none hV
  obtain ⟨n, rfl, rfl, rfl, hwn⟩ := open_int Tryz.underlying36 (hval 0 36 v0 rfl rfl) h0
  obtain ⟨b, rfl, rfl, rfl⟩ := open_bool Tryz.underlying4 (hval 1 4 v1 rfl rfl) h1
  obtain ⟨ht, hh⟩ := tabs_of_laid hL
  have hr : -128 ≤ n ∧ n ≤ 127 := i8_range hwn
  have e1 : Rows.lexLongSpec.fn H ([.lit (.int .i8 n), .lit (.bool b)] ++ []) = { results := [.lit (.bool true)], args := [.lit (.int .i8 n), .lit (.bool b)] } := by simp [Rows.lexLongSpec]
  refine (lexLong_calls n b W ht hh hr).mono fun e W' ⟨he, hb⟩ => ?_
  subst he
  refine ⟨_, rfl, _, _, _, [], [], [], hW', ?_, ?_, ?_, hb.frame _, fun h => by cases h⟩
  · rw [e1]; exact trodAll_mk1 (shut_bool Tryz.underlying4 true)
  · rw [e1]; exact trodAll_mk2 (shut_int Tryz.underlying36 hwn) (shut_bool Tryz.underlying4 b)
  · rw [e1]; rfl

theorem lexLong_holds : Rows.LexLongSaid :=
  OpenClaim.holds_of_wide 4 Tryz.f4 rfl rfl rfl rfl rfl rfl rfl ⟨rfl, rfl, rfl, rfl, rfl⟩ rfl rfl rfl rfl rfl (by kernel_rfl) Tryz.func4 (by kernel_rfl)
    (of_decide_eq_true (by kernel_rfl)) (by unfold Func.isWrapper; first | (rw [if_pos (by decide +kernel)]; kernel_rfl) | (rw [if_neg (by decide +kernel)]; exact ⟨rfl, rfl⟩))
    (fun os started H enc _ => lexLong_lifted os started H enc)

theorem lexLong_card : Rows.LexLongCardSaid :=
  Claim7.holds_tied_plain_at .later [] [.data, .data, .data, .handle, .sentinel, .sentinel, .listed, .data] true (true, "4c79ec175676d200efe44a0bf5ec1c639678ff4f6b5ac054d891d43274648538") true
    lexLong_holds (fun _ h => by cases h) (by kernel_rfl) (fun _ h => by cases h) lexLong_row_tie rfl ⟨rfl, rfl⟩ (by kernel_rfl) rfl
    (fun f fn hf hfn => by
      obtain rfl : f = 4 := Option.some.inj ((show Tryz.prog.funcNamed "carillon/carillonlaw03.LexLong" = some 4 by kernel_rfl).symm.trans hf) |>.symm
      obtain rfl : fn = Tryz.f4 := (Option.some.inj (Tryz.func4.symm.trans hfn)).symm
      exact ⟨by kernel_rfl, fun j t ht => by
        rw [Tryz.params4] at ht
        have hm : t ∈ [36, 4] := by simpa using Array.mem_of_getElem? ht
        have hall : ([36, 4].all fun u => !Tryz.prog.wantsStandIn u) = true := by kernel_rfl
        exact (show Tryz.prog.wantsStandIn t = false by simpa using List.all_eq_true.1 hall t hm)⟩)
    (by kernel_rfl)
end Go.Proofs.YtlkedogplmnpkaaGreatDoor

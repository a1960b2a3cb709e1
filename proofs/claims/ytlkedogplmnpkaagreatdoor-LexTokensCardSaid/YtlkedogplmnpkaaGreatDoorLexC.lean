/-
  words and Word of package lex: the set of the words; whether a text is one. strings.Fields is met by the shelf's contract.
  What it takes of the world: the two variables of Go's library that package lex comes to read as their initialisers lay them (Tabs).
-/
import Derived.Test.YtlkedogplmnpkaaGreatDoorLexB
import Derived.Test.YtlkedogplmnpkaaGreatDoorShelf
import Derived.Maps.Own
import Derived.Maps.Views
import Derived.Lib.LaidTab
import Derived.Lib.LaidU8
namespace Go.Proofs.YtlkedogplmnpkaaGreatDoor
open Go.RowKit Go.Maps Go.WideMaps

/-- Go's two variables that package lex comes to. -/
def Tabs (w : World) : Prop := Lib.TabIs Tryz.prog w "strings.asciiSpace" .u8 Lib.asciiSpaceTab ∧ ∃ tp p, w.var? Tryz.prog "strconv.ErrRange" = some #[.iface tp p]
theorem gSpace : Tryz.prog.globalNamed "strings.asciiSpace" = some 2 := by kernel_rfl
theorem gRange : Tryz.prog.globalNamed "strconv.ErrRange" = some 5 := by kernel_rfl
theorem var_lt {P : Program} {w : World} {n : String} {g : Nat} {cs : Array Value} (hg : P.globalNamed n = some g) (h : w.var? P n = some cs) : g < w.heap.size := by
  rcases Nat.lt_or_ge g w.heap.size with hl | hl
  · exact hl
  · unfold World.var? at h
    simp only [hg, Option.bind_some] at h
    simp [Array.getElem?_eq_none hl] at h
theorem Tabs.below {w w' : World} (h : Tabs w) (hb : Below w.heap.size w w') : Tabs w' := by
  obtain ⟨h1, tp, p, h2⟩ := h
  exact ⟨var?_below hb gSpace (var_lt gSpace h1) h1, tp, p, var?_below hb gRange (var_lt gRange h2) h2⟩
theorem Tabs.alloc {w : World} (h : Tabs w) (o : Obj) : Tabs (w.alloc o) := h.below ((Below.refl _ _).alloc (Nat.le_refl _) o)

/-- The words, as strings.Fields lays them. -/
def wordCells : Array Value := (Lx.words.map fun l => Value.string ⟨l.toArray⟩).toArray
/-- The text that package lex cuts into its words. -/
def source : List UInt8 := (Lx.words.intersperse [32]).flatten
theorem fields_words : Lib.fields source = Lx.words := by decide +kernel
theorem ascii_words : ∀ b ∈ source, b.toNat < 128 := by decide +kernel
theorem source_len : source.length = 91 := by decide +kernel
theorem fields_calls (s : ByteArray) (hs : s.data.toList = source) (w : World) (ht : Tabs w) :
    Calls Tryz.prog 46 #[.string s] w fun e w' => e = .returned (.slice (some ⟨w.heap.size, 0, none⟩) 20 20) ∧ w.alloc (.cells wordCells 9) = w' := by
  have hl : s.size = 91 := by rw [← Lx.len, hs, source_len]
  refine (Tryz.strings_Fields s w (by omega) (fun j b hj => ?_) ht.1).mono ?_
  · rw [hs] at hj
    exact ascii_words b (List.mem_of_getElem? hj)
  · rintro e w' ⟨rfl, rfl⟩
    rw [hs, fields_words]
    exact ⟨rfl, rfl⟩

theorem keyed9 : Keyed Tryz.prog 9 := string_keyed Tryz.underlying9
/-- The set of the first k words. -/
def setTo {H : Type} (k : Nat) : DataW H := setOf (.lit (.bool true)) ((Lx.words.take k).map Lit.string)
theorem setTo_zero {H : Type} : setTo (H := H) 0 = .map [] := rfl
theorem setTo_step {H : Type} (k : Nat) (h : k < 20) : setTo (H := H) (k + 1) = (setTo k).put (.string (Lx.words.getD k [])) (.lit (.bool true)) := by
  have hl : k < Lx.words.length := h
  unfold setTo
  rw [List.take_succ_eq_append_getElem hl, List.map_append, List.map_singleton, setOf_snoc]
  rw [List.getD_eq_getElem?_getD, List.getElem?_eq_getElem hl]
  rfl
theorem key_string (l : List UInt8) : WideAt.IsKeyLit (Lit.string l) := by
  first | exact trivial | simp [WideAt.IsKeyLit]
theorem atKey_fold {H : Type} (l : List UInt8) : ∀ (acc : List (List UInt8)) (m : DataW H), IsMap m →
    ((acc.map Lit.string).foldl (fun m x => m.put x (.lit (.bool true))) m).atKey (.string l) (.lit (.bool false)) = if acc.contains l then .lit (.bool true) else m.atKey (.string l) (.lit (.bool false))
  | [], m, _ => by simp
  | x :: r, m, hm => by
    rw [List.map_cons, List.foldl_cons, atKey_fold l r _ (hm.put _ _)]
    by_cases h : l = x
    · subst h
      rw [atKey_put_same hm (key_string l)]
      simp
    · rw [atKey_put_other (by intro e; cases e; exact h rfl)]
      simp [h]
theorem atKey_words {H : Type} (l : List UInt8) : (setTo (H := H) 20).atKey (.string l) (.lit (.bool false)) = .lit (.bool (Lx.word l)) := by
  have h : Lx.words.take 20 = Lx.words := by decide +kernel
  unfold setTo setOf Lx.word
  rw [h, atKey_fold l _ _ isMap_empty]
  cases Lx.words.contains l <;> rfl

set_option maxRecDepth 100000 in
theorem words_calls {H : Type} (w : World) (ht : Tabs w) :
    Calls Tryz.prog 24 #[] w fun e w' => e = .returned (.map (some w.heap.size)) ∧ w'.ownsMap Tryz.prog 9 (plainElem Tryz.prog 4) w.heap.size 20 (setTo (H := H) 20) ∧ Below w.heap.size w w' := by
  have hmm := @run_makeMap Tryz.prog
  have hta := ht.alloc (.map #[] 0)
  have hwl : wordCells.size = 20 := by decide +kernel
  go_enter Tryz.func24, Tryz.ntmps24
  go_wp2_with (go_at_call 46; refine (fields_calls _ (by decide +kernel) _ hta).mono ?_; rintro e w' ⟨rfl, rfl⟩)
  go_loopw [7] (fun i wr => ∃ k : Nat, k ≤ 20 ∧ i = .int .i64 k ∧ wr.ownsMap Tryz.prog 9 (plainElem Tryz.prog 4) w.heap.size k (setTo (H := H) k) ∧ wr.heap[w.heap.size + 1]? = some (.cells wordCells 9 (0, 0)) ∧ Below w.heap.size w wr)
    (fun i _ => 20 - (intOf i).toNat)
  case atStart =>
    refine ⟨0, Nat.zero_le _, rfl, (World.ownsMap_made w _ _ _).alloc _, ?_, ((Below.refl _ _).alloc (Nat.le_refl _) _).alloc (by simp) _⟩
    have h := heap_alloc_new (w.alloc (.map #[] 0)) (.cells wordCells 9)
    simpa using h
  case round =>
    obtain ⟨k, hk, rfl, hown, hrow, hnx⟩ := hrel
    by_cases hlt : k < 20
    · obtain ⟨s, hs⟩ : ∃ s : ByteArray, s = ⟨(Lx.words.getD k []).toArray⟩ := ⟨_, rfl⟩
      have hcx : wr.cell? ⟨w.heap.size + 1, k, none⟩ = some (.string s) := by
        rw [cell_of_row wr _ k _ _ _ hrow, hs]
        have hl : k < Lx.words.length := hlt
        simp [wordCells, List.getElem?_eq_getElem hl]
      have hkey : keyOf Tryz.prog 9 (.string s) = some (.string (Lx.words.getD k [])) := by
        rw [hs]
        have hl : ∀ j : Fin 21, (Lx.words.getD j.val []).length ≤ 7 := by decide +kernel
        have h1 := hl ⟨k, by omega⟩
        have hsz : (⟨(Lx.words.getD k []).toArray⟩ : ByteArray).size ≤ maxLen := by
          show (Lx.words.getD k []).toArray.size ≤ maxLen
          rw [List.size_toArray]
          unfold maxLen
          exact Nat.le_trans h1 (by decide)
        have h2 := keyOf_string_mk Tryz.underlying9 hsz
        simpa using h2
      clear hs
      go_wp2_with (first
        | (at_mapUpdate; refine wpList_mapUpdate_own _ rfl _ _ _ 58 rfl 9 4 keyed9 Tryz.underlying58 _ w.heap.size k _ rfl hown (by unfold maxLen; omega) _ _ _ rfl rfl hkey _ [] (plainElem_bool Tryz.underlying4 true) ?_)
        | go_in)
      intro w1 hown1 hgrow1
      have R1 := (setTo_step k hlt).symm ▸ hown1
      have R2 := hnx.grown hgrow1 hnx.size (fun j hj => by cases hj; exact Nat.le_refl _)
      have R3 : w1.heap[w.heap.size + 1]? = some (.cells wordCells 9 (0, 0)) := (hgrow1.block _ (Array.getElem?_eq_some_iff.1 hrow).1 (by simp)).trans hrow
      clear hown1 hgrow1 hown hcx
      go_wp2
      go_roundw
      case rel => exact ⟨k + 1, by omega, by go_num, R1, R3, R2⟩
      case measure => simp [intOf]; omega
    · have : k = 20 := by omega
      subst this
      go_wp2
      go_ret
      exact ⟨rfl, hown, hnx⟩

theorem zeroBool (w : World) : (zeroValue 4).run Tryz.prog w = .ok (.bool false) w := by kernel_rfl
theorem lookup_bool {H : Type} {P : Program} {w : World} {k e t : TypeId} {b n : Nat} {D : DataW H} (h : w.ownsMap P k (plainElem P e) b n D) (K : Keyed P k) (ht : P.underlying t = some (.map k e)) (he : P.underlying e = some .bool)
    (hz : (zeroValue e).run P w = .ok (.bool false) w) {key : Value} {kl : Lit} (hkey : keyOf P k key = some kl) {r : Bool} (hr : D.atKey kl (.lit (.bool false)) = .lit (.bool r)) :
    (Instr.lookup t (.map (some b)) key false).run P w = .ok (.bool r) w := by
  obtain ⟨v, ps, hrun, hv⟩ := h.lookup K ht hz (plainElem_bool he false) hkey
  rw [hr] at hv
  unfold plainElem at hv
  rw [he] at hv
  cases v <;> simp at hv
  rw [hrun, hv.1]

theorem word_calls (s : ByteArray) (w : World) (ht : Tabs w) (hs : s.size ≤ maxLen) :
    Calls Tryz.prog 12 #[.string s] w fun e w' => e = .returned (.bool (Lx.word s.data.toList)) ∧ Below w.heap.size w w' := by
  have hkey := keyOf_string_mk Tryz.underlying9 hs
  go_enter Tryz.func12, Tryz.ntmps12
  go_wp2_with fail
  refine (words_calls (H := Unit) w ht).mono ?_
  rintro e w1 ⟨rfl, hown, hb⟩
  have hlk := lookup_bool hown keyed9 Tryz.underlying58 Tryz.underlying4 (zeroBool w1) hkey (atKey_words s.data.toList)
  clear hown
  go_wp2
  go_ret
  exact ⟨rfl, hb⟩
end Go.Proofs.YtlkedogplmnpkaaGreatDoor

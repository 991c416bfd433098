/- For every number n custodylaw28.CommandNames returns true and the argument reads afterwards as before (the tied card of the seat); no condition beyond those of the given statement. -/
import Derived.Test.YtedegedceeefdaaDoorJLA
import Derived.Test.YtedegedceeefdaaDoorJMA
import Derived.Test.YtedegedceeefdaaDoorJQH
import Derived.Test.YtedegedceeefdaaDoorTie
import Derived.Test.YtedegedceeefdaaDoorCards
set_option linter.all false
set_option linter.unusedVariables false
set_option linter.unusedSimpArgs false
set_option linter.unnecessarySimpa false
set_option linter.deprecated false
/-! Walks: custodylaw28.CommandNames. -/
namespace Go.Proofs.YtedegedceeefdaaDoor
open Go.RowKit Go.Cw Cu
set_option maxRecDepth 100000
set_option maxHeartbeats 2000000
set_option linter.unusedVariables false
set_option linter.unusedSimpArgs false
theorem names_in (k : Nat) (hk : k < 27) : nameOf ((k : Int) + 1) ≠ [] ∧ kindI (nameOf ((k : Int) + 1)) = (k : Int) := by
  have : ∀ j : Fin 27, nameOf ((j.val : Int) + 1) ≠ [] ∧ kindI (nameOf ((j.val : Int) + 1)) = (j.val : Int) := by decide +kernel
  exact this ⟨k, hk⟩
theorem kind_nil : kindI [] = -1 := by decide +kernel
theorem law28_Names (n : Int) (hn : inI64 n) (w : World) (t1 : Tab w 0 rowsV) (t2 : Tab w 4 (uv ks)) (t3 : Tab w 1 (uv ks)) :
    Calls Tryd.prog 8 #[.int .i64 n] w fun e w' => e = .returned (.bool true) ∧ Below w.heap.size w w' := by
  have p1 : 0 < w.heap.size := t1.lt rfl
  have p2 : 4 < w.heap.size := t2.lt rfl
  have p3 : 1 < w.heap.size := t3.lt rfl
  have hname := command_Name n hn w t1
  have hkind := command_Kind (nameOf n) w t1
  have HS := fun w1 (h : Below w.heap.size w w1) => law28_sanity w1 (t1.below h p1) (t2.below h p2) (t3.below h p3)
  clear t1 t2 t3
  rcases isKind_split n with ⟨k, hk27, rfl, hK⟩ | hK
  · obtain ⟨h1, h2⟩ := names_in k hk27
    rw [h2] at hkind
    generalize nameOf ((k : Int) + 1) = s at *
    have HNAME := Shut.mk hname
    have HKIND := Shut.mk hkind
    have HSAN := Shut.mk HS
    have H1 := Shut.mk h1
    clear hname hkind HS h1 h2 hK
    have g1 : decide ((k : Int) + 1 < 1) = false := by simp; omega
    have g2 : decide (27 < (k : Int) + 1) = false := by simp; omega
    have g3 : decide ((0 : Int) ≤ (k : Int)) = true := by simp
    go_enter Tryd.func8, Tryd.ntmps8
    go_wp2_with fail
    refine HNAME.out.mono ?_
    rintro e w1 ⟨rfl, rfl⟩
    go_wp2_with fail
    refine HKIND.out.mono ?_
    rintro e w1 ⟨rfl, hb1⟩
    go_wp2_with fail
    refine (HSAN.out w1 hb1).mono ?_
    rintro e w2 ⟨rfl, hb2⟩
    have g4 : (s == ([] : List UInt8)) = false := by have := H1.out; simp [this]
    go_wp2_with fail
    go_ret
    exact ⟨rfl, hb1.trans (hb2.mono hb1.size)⟩
  · have hs : nameOf n = [] := by unfold nameOf; rw [hK]; rfl
    rw [hs] at hname hkind
    rw [kind_nil] at hkind
    have HNAME := Shut.mk hname
    have HKIND := Shut.mk hkind
    have HSAN := Shut.mk HS
    clear hname hkind HS hs
    by_cases h1 : n < 1
    · have g1 : decide (n < 1) = true := by simp [h1]
      clear hK
      go_enter Tryd.func8, Tryd.ntmps8
      go_wp2_with fail
      refine HNAME.out.mono ?_
      rintro e w1 ⟨rfl, rfl⟩
      go_wp2_with fail
      refine HKIND.out.mono ?_
      rintro e w1 ⟨rfl, hb1⟩
      go_wp2_with fail
      refine (HSAN.out w1 hb1).mono ?_
      rintro e w2 ⟨rfl, hb2⟩
      go_wp2_with fail
      go_ret
      exact ⟨rfl, hb1.trans (hb2.mono hb1.size)⟩
    · have g1 : decide (n < 1) = false := by simp [h1]
      have g2 : decide (27 < n) = true := by unfold isKind at hK; simp at hK; simp; omega
      clear hK
      go_enter Tryd.func8, Tryd.ntmps8
      go_wp2_with fail
      refine HNAME.out.mono ?_
      rintro e w1 ⟨rfl, rfl⟩
      go_wp2_with fail
      refine HKIND.out.mono ?_
      rintro e w1 ⟨rfl, hb1⟩
      go_wp2_with fail
      refine (HSAN.out w1 hb1).mono ?_
      rintro e w2 ⟨rfl, hb2⟩
      go_wp2_with fail
      go_ret
      exact ⟨rfl, hb1.trans (hb2.mono hb1.size)⟩
end Go.Proofs.YtedegedceeefdaaDoor
/-! CommandNames: the lifted proof. -/
namespace Go.Proofs.YtedegedceeefdaaDoor
open Go.ChangeShapes Go.WideShapes Go.ChangeAt Go.WideMaps Go.WideElems Go.RowKit Go.Cw Cu
set_option maxRecDepth 100000
theorem names_lifted (os : Os) (started : os.Started) (H : Type) (enc : TypeId × Value → H) :
    ReturnsInHanded {} Tryd.checked os 8 .any (fun w args => (Rows.commandNamesSpec.pre enc Tryd.prog Tryd.f8 [] false w args ∧ laidMetH Tryd.prog laid28 w) ∧ sizedMet enc Tryd.prog Tryd.f8 (OpenSpec.ofChange Rows.commandNamesSpec) false w args)
      (Rows.commandNamesSpec.post enc Tryd.prog Tryd.f8 false true false false) := by
  refine returnsInHanded_of_change_and (C := Tryd.checked) (X := fun w _ => laidMetH Tryd.prog laid28 w) (fun _ _ _ hh h => h.of_heap hh) own28 started (by kernel_rfl) Tryd.func8
    (ChangeSpec.witness_shaped (enc := enc) (C := Tryd.checked) (os := os) (X := fun w _ => laidMetH Tryd.prog laid28 w) false (World.doorLaid Tryd.prog 61 os) #[.int .i64 0] 8 rfl (World.shaped_of_RefB (by kernel_rfl) (by kernel_rfl)) (by kernel_rfl) (by kernel_rfl) (by kernel_rfl) (door_met28 os _)) ?_
  intro W base args ds gs before hval0 hW _ _ hL _
  have hval : ∀ (j : Nat) t v, Tryd.f8.params[j]? = some t → args[j]? = some v → Value.okWide Tryd.prog W .any base t v := hval0
  have hW' := hW
  obtain ⟨p, q, hA0, hV, rfl, hfz, hnd⟩ := hW
  have hA : DataW.TrodAll enc Tryd.prog W 0 (fun _ => true) true Tryd.f8.params.toList args.toList ds p := hA0
  rw [Tryd.params8] at hA hval
  obtain ⟨v0, d0, rfl, rfl, h0⟩ := trodAll_one hA
  obtain ⟨rfl, rfl⟩ := trodVars_none hV
  obtain ⟨a, rfl, rfl, rfl, wa⟩ := open_int Tryd.underlying3 (hval 0 3 v0 rfl rfl) h0
  obtain ⟨t1, t2, t3⟩ := of_laid28 hL
  clear hA0 hval0
  simp only [List.append_nil] at hW'
  refine (law28_Names a (in_of_wf wa) W t1 t2 t3).mono fun e W' ⟨he, hw⟩ => ?_
  subst he
  exact ⟨_, rfl, _, _, _, [], [], [], hW', trodAll_mk1 (shut_bool Tryd.underlying4 true), trodAll_mk1 (shut_int Tryd.underlying3 wa), rfl, hw.frame _, fun h => by cases h⟩
end Go.Proofs.YtedegedceeefdaaDoor
/-! CommandNames: the row. -/
namespace Go.Proofs.YtedegedceeefdaaDoor
open Go.ChangeShapes Go.WideShapes Go.ChangeAt Go.WideMaps Go.WideElems Go.RowKit Go.Cw Cu
set_option maxRecDepth 100000
theorem commandNames_closed : joinedFacts Tryd.prog 8 Tryd.f8 Rows.commandNamesSpec Rows.commandNamesRow = true :=
  closed_of laid_out maps_rowed no_stops no_stopKnobs stops_heard may_enter lifts_final make_cut plain_keys
    (by as_aux_lemma => kernel_rfl) (by as_aux_lemma => kernel_rfl) (by as_aux_lemma => kernel_rfl)
    rfl rfl (by as_aux_lemma => kernel_rfl) (by as_aux_lemma => kernel_rfl) (by as_aux_lemma => kernel_rfl) (by as_aux_lemma => kernel_rfl)
    (by as_aux_lemma => kernel_rfl) (by as_aux_lemma => kernel_rfl) (by as_aux_lemma => kernel_rfl)
    (by as_aux_lemma => kernel_rfl) (by as_aux_lemma => kernel_rfl)
    (by as_aux_lemma => kernel_rfl) (by as_aux_lemma => kernel_rfl) (by as_aux_lemma => kernel_rfl) (by as_aux_lemma => kernel_rfl)
    rfl rfl rfl rfl rfl rfl (by as_aux_lemma => kernel_rfl)
    (by as_aux_lemma => kernel_rfl) (by as_aux_lemma => kernel_rfl)
theorem commandNames_holds : Rows.CommandNamesSaid :=
  OpenClaim.holds_of_wide 8 Tryd.f8 rfl rfl rfl rfl rfl rfl rfl ⟨rfl, rfl, rfl, rfl, rfl⟩ rfl rfl rfl rfl rfl (by kernel_rfl) Tryd.func8
    commandNames_closed (of_decide_eq_true (by kernel_rfl)) (by unfold Func.isWrapper; first | (rw [if_pos (by decide +kernel)]; kernel_rfl) | (rw [if_neg (by decide +kernel)]; exact ⟨rfl, rfl⟩))
    (fun os started H enc _ => names_lifted os started H enc)
end Go.Proofs.YtedegedceeefdaaDoor
/-! CommandNames: the card. -/
namespace Go.Proofs.YtedegedceeefdaaDoor
open Go.ChangeShapes Go.WideShapes Go.ChangeAt Go.WideMaps Go.WideElems Go.RowKit Go.Cw Cu
set_option maxRecDepth 100000
theorem commandNames_card : Rows.CommandNamesCardSaid :=
  Claim7.holds_tied_plain_at .later [] [.data, .data, .widerDeep] true (true, "063d8e3e1cec467c49fe5ef97593c1e22b4843db90c6cecddc6eb7faab9ccf1f") false
    commandNames_holds (fun _ h => by cases h) (by as_aux_lemma => kernel_rfl) (fun _ h => by cases h) commandNames_row_tie rfl ⟨rfl, rfl⟩ main_is rfl
    (fun f fn hf hfn => by
      obtain rfl : f = 8 := Option.some.inj ((show Tryd.prog.funcNamed "custody/custodylaw28.CommandNames" = some 8 by kernel_rfl).symm.trans hf) |>.symm
      obtain rfl : fn = Tryd.f8 := (Option.some.inj (Tryd.func8.symm.trans hfn)).symm
      exact ⟨by kernel_rfl, fun j t ht => by
        rw [Tryd.params8] at ht
        have hm : t ∈ [3] := by simpa using Array.mem_of_getElem? ht
        have hall : ([3].all fun u => !Tryd.prog.wantsStandIn u) = true := by kernel_rfl
        exact (show Tryd.prog.wantsStandIn t = false by simpa using List.all_eq_true.1 hall t hm)⟩)
    (by as_aux_lemma => kernel_rfl)
#print axioms commandNames_card
end Go.Proofs.YtedegedceeefdaaDoor

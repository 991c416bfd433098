/- Parts of the proof: Ma. -/
import Derived.Test.YtedegedceeefdaaDoorJLA
import Derived.Test.YtedegedceeefdaaDoorRows
import Derived.ProofKit
import Derived.LaidMore
import Derived.OpenShut
import Derived.Stop.Joined
set_option linter.all false
set_option linter.unusedVariables false
set_option linter.unusedSimpArgs false
set_option linter.unnecessarySimpa false
set_option linter.deprecated false
/-! What the laid condition gives the walks. -/
namespace Go.Proofs.YtedegedceeefdaaDoor
open Go.ChangeShapes Go.WideShapes Go.ChangeAt Go.WideMaps Go.WideElems Go.RowKit Go.Cw Cu
set_option maxRecDepth 100000
section
variable {H : Type} {enc : TypeId × Value → H} {P : Program} {w : World} {base : Nat} {spare : Nat → Bool} {held : Bool} {fuel : Nat}
theorem cells_ints {t e : TypeId} {n : Nat} {k : IntKind} {cs : List Value} {zs : List Int} {q : List MemPlace} (ht : P.underlying t = some (.array n e)) (he : P.underlying e = some (.int k)) (hc : P.cellsOf e = 1) (hct : P.cellsOf t = n)
    (h : DataW.trod enc P w base spare held fuel t cs = some (.agg (zs.map fun z => .lit (.int k z)), q)) : cs = zs.map (Value.int k) := by
  obtain ⟨xs, m, rfl, hx, hlen, hn, hel⟩ := DataW.trod_array ht h
  simp only [Prod.mk.injEq, DataW.agg.injEq] at hx
  rw [hct] at hlen
  have hzl : zs.length = n := by have := congrArg List.length hx.1; simp at this; omega
  refine List.ext_getElem? fun i => ?_
  rcases Nat.lt_or_ge i n with hi | hi
  · have h1 := hel i hi
    rw [hc, Nat.mul_one] at h1
    have hxi : xs[i]? = some (xs[i]'(by omega)) := List.getElem?_eq_getElem (by omega)
    rw [hxi] at h1
    obtain ⟨z, e1, e2, _⟩ := DataW.trod_int he h1
    have h3 := congrArg (fun l => l[i]?) hx.1
    simp only [List.getElem?_map, hxi, Option.map_some] at h3
    rw [e2] at h3
    have hzi : zs[i]? = some (zs[i]'(by omega)) := List.getElem?_eq_getElem (by omega)
    rw [hzi] at h3
    simp only [Option.map_some, Option.some.injEq, DataW.lit.injEq, Lit.int.injEq, true_and] at h3
    have hci : cs[i]? = some (.int k z) := by
      have := congrArg (fun l => l[0]?) e1
      simpa using this
    rw [hci, List.getElem?_map, hzi, ← h3]; rfl
  · rw [List.getElem?_eq_none (by omega), List.getElem?_eq_none (by simp; omega)]
end
def rowD (r : Row) : DataW Unit := .agg [.lit (.string r.name), .lit (.int .i64 (r.uses : Int)), .lit (.int .i64 (r.least : Int)), .lit (.int .i64 (r.most : Int))]
theorem rows_laid : (Rows.laid_custody_command_rows : DataW Unit) = .agg (rws.map rowD) := rfl
theorem ks_laid : (Rows.laid_custody_hash_constants : DataW Unit) = .agg ((ks.map fun x : Nat => (x : Int)).map fun z => .lit (.int .u32 z)) := rfl
theorem ks_laid2 : (Rows.laid_custody_custodyref02_constants : DataW Unit) = .agg ((ks.map fun x : Nat => (x : Int)).map fun z => .lit (.int .u32 z)) := rfl
theorem one_row {w : World} {base : Nat} {spare : Nat → Bool} {held : Bool} {fuel : Nat} {enc : TypeId × Value → Unit} {cs : List Value} {r : Row} {q : List MemPlace}
    (h : DataW.trod enc Tryd.prog w base spare held fuel 113 cs = some (rowD r, q)) : cs = rowCells r := by
  have hu : Tryd.prog.underlying 113 = some (.struct (Tryd.prog.fieldsOf 113)) := by kernel_rfl
  obtain ⟨xs, m, rfl, hx, hlen, hn, hel⟩ := DataW.trod_struct hu h
  have hc : Tryd.prog.cellsOf 113 = 4 := by kernel_rfl
  have f0 : ((Tryd.prog.fieldsOf 113)[0]?).map (fun f => (f.type, f.offset)) = some (9, 0) := by kernel_rfl
  have f1 : ((Tryd.prog.fieldsOf 113)[1]?).map (fun f => (f.type, f.offset)) = some (111, 1) := by kernel_rfl
  have f2 : ((Tryd.prog.fieldsOf 113)[2]?).map (fun f => (f.type, f.offset)) = some (3, 2) := by kernel_rfl
  have f3 : ((Tryd.prog.fieldsOf 113)[3]?).map (fun f => (f.type, f.offset)) = some (3, 3) := by kernel_rfl
  have hf : (Tryd.prog.fieldsOf 113).size = 4 := by kernel_rfl
  have c0 : Tryd.prog.cellsOf 9 = 1 := by kernel_rfl
  have c1 : Tryd.prog.cellsOf 111 = 1 := by kernel_rfl
  have c2 : Tryd.prog.cellsOf 3 = 1 := by kernel_rfl
  have u0 : Tryd.prog.underlying 9 = some .string := by kernel_rfl
  have u1 : Tryd.prog.underlying 111 = some (.int .i64) := by kernel_rfl
  have u2 : Tryd.prog.underlying 3 = some (.int .i64) := by kernel_rfl
  rw [hc] at hlen
  rw [hf] at hn
  obtain ⟨F0, hF0, e0⟩ := Option.map_eq_some_iff.1 f0
  obtain ⟨F1, hF1, e1⟩ := Option.map_eq_some_iff.1 f1
  obtain ⟨F2, hF2, e2⟩ := Option.map_eq_some_iff.1 f2
  obtain ⟨F3, hF3, e3⟩ := Option.map_eq_some_iff.1 f3
  simp only [Prod.mk.injEq] at e0 e1 e2 e3
  have h0 := hel 0 F0 hF0
  have h1 := hel 1 F1 hF1
  have h2 := hel 2 F2 hF2
  have h3 := hel 3 F3 hF3
  rw [e0.1, e0.2, c0] at h0
  rw [e1.1, e1.2, c1] at h1
  rw [e2.1, e2.2, c2] at h2
  rw [e3.1, e3.2, c2] at h3
  match xs, hn with
  | [x0, x1, x2, x3], _ =>
    match cs, hlen with
    | [a, b, c, d], _ =>
      simp only [List.getElem?_cons_zero, List.getElem?_cons_succ] at h0 h1 h2 h3
      obtain ⟨s, k0, k1, _⟩ := DataW.trod_string u0 h0
      obtain ⟨z1, l1, m1, _⟩ := DataW.trod_int u1 h1
      obtain ⟨z2, l2, m2, _⟩ := DataW.trod_int u2 h2
      obtain ⟨z3, l3, m3, _⟩ := DataW.trod_int u2 h3
      subst k1 m1 m2 m3
      simp [rowD] at hx
      simp at k0 l1 l2 l3
      subst k0 l1 l2 l3
      obtain ⟨⟨g0, g1, g2, g3⟩, _⟩ := hx
      subst g1 g2 g3
      have hs : s = ⟨r.name.toArray⟩ := by
        obtain ⟨⟨l⟩⟩ := s
        simp at g0
        rw [g0]
      rw [hs]
      rfl
theorem all_rows {w : World} {base : Nat} {spare : Nat → Bool} {held : Bool} {fuel : Nat} {enc : TypeId × Value → Unit} {cs : List Value} {q : List MemPlace}
    (h : DataW.trod enc Tryd.prog w base spare held fuel 114 cs = some (.agg (rws.map rowD), q)) : cs = rowsV := by
  have hu : Tryd.prog.underlying 114 = some (.array 27 113) := by kernel_rfl
  obtain ⟨xs, m, rfl, hx, hlen, hn, hel⟩ := DataW.trod_array hu h
  have hc : Tryd.prog.cellsOf 114 = 108 := by kernel_rfl
  have hc4 : Tryd.prog.cellsOf 113 = 4 := by kernel_rfl
  rw [hc] at hlen
  simp only [Prod.mk.injEq, DataW.agg.injEq] at hx
  have hrl : rowsV.length = 108 := by decide +kernel
  refine List.ext_getElem? fun p => ?_
  rcases Nat.lt_or_ge p 108 with hp | hp
  · obtain ⟨i, j, hj, rfl⟩ : ∃ i j, j < 4 ∧ p = 4 * i + j := ⟨p / 4, p % 4, Nat.mod_lt _ (by omega), by omega⟩
    have hi : i < 27 := by omega
    have h1 := hel i hi
    rw [hc4] at h1
    have hxi : xs[i]? = some (xs[i]'(by omega)) := List.getElem?_eq_getElem (by omega)
    have hri : rws[i]? = some (rws[i]'(by rw [rws_length]; omega)) := List.getElem?_eq_getElem (by rw [rws_length]; omega)
    have h3 := congrArg (fun l => l[i]?) hx.1
    simp only [List.getElem?_map, hxi, hri, Option.map_some, Option.some.injEq] at h3
    rw [hxi] at h1
    have h4 := one_row (r := rws[i]'(by rw [rws_length]; omega)) (q := (xs[i]'(by omega)).2) (h1.trans (by rw [h3]))
    unfold rowsV
    rw [flat_get rowCells 4 (fun _ => rfl) _ _ _ hj, hri]
    show cs[4 * i + j]? = (rowCells _)[j]?
    rw [← h4, List.getElem?_take, if_pos hj, List.getElem?_drop, Nat.mul_comm i 4]
  · rw [List.getElem?_eq_none (by omega), List.getElem?_eq_none (by omega)]
theorem tab_of {P : Program} {w : World} {n : String} {g : Nat} {cs : Array Value} {l : List Value} (hg : P.globalNamed n = some g) (h : w.var? P n = some cs) (he : cs.toList = l) : Tab w g l := by
  intro j v hv
  rw [World.var?_cell hg h j]
  subst he
  simpa using hv
def laid28 : List (String × DataW Unit) := [("custody/custodyref02.constants", Rows.laid_custody_custodyref02_constants), ("custody/hash.constants", Rows.laid_custody_hash_constants), ("custody/command.rows", Rows.laid_custody_command_rows)]
theorem gn1 : Tryd.prog.globalNamed "custody/custodyref02.constants" = some 1 := by kernel_rfl
theorem gn2 : Tryd.prog.globalNamed "custody/hash.constants" = some 4 := by kernel_rfl
theorem gn3 : Tryd.prog.globalNamed "custody/command.rows" = some 0 := by kernel_rfl
theorem gt1 : (Tryd.prog.globals[1]?).map (·.type) = some 212 := by kernel_rfl
theorem gt2 : (Tryd.prog.globals[4]?).map (·.type) = some 212 := by kernel_rfl
theorem gt3 : (Tryd.prog.globals[0]?).map (·.type) = some 114 := by kernel_rfl
theorem uv_int : (ks.map fun x : Nat => (x : Int)).map (Value.int .u32) = uv ks := by simp [uv]
theorem of_laid28 {W : World} (h : laidMetH Tryd.prog laid28 W) : Tab W 0 rowsV ∧ Tab W 4 (uv ks) ∧ Tab W 1 (uv ks) := by
  rw [MakeChecks.laidMetH_plain _ _ _ (by kernel_rfl)] at h
  obtain ⟨ps, ⟨g0, t0, cs0, f0, p0, q0, hg0, ht0, hv0, hd0, ⟨g1, t1, cs1, f1, p1, q1, hg1, ht1, hv1, hd1, ⟨g2, t2, cs2, f2, p2, q2, hg2, ht2, hv2, hd2, _, _⟩, _⟩, _⟩, _, _⟩ := h
  obtain rfl := Option.some.inj (gn1.symm.trans hg0)
  obtain rfl := Option.some.inj (gn2.symm.trans hg1)
  obtain rfl := Option.some.inj (gn3.symm.trans hg2)
  obtain rfl := Option.some.inj (gt1.symm.trans ht0)
  obtain rfl := Option.some.inj (gt2.symm.trans ht1)
  obtain rfl := Option.some.inj (gt3.symm.trans ht2)
  have hu : Tryd.prog.underlying 212 = some (.array 64 182) := by kernel_rfl
  have he : Tryd.prog.underlying 182 = some (.int .u32) := by kernel_rfl
  have hc : Tryd.prog.cellsOf 182 = 1 := by kernel_rfl
  have hct : Tryd.prog.cellsOf 212 = 64 := by kernel_rfl
  refine ⟨tab_of hg2 hv2 ?_, tab_of hg1 hv1 ?_, tab_of hg0 hv0 ?_⟩
  · exact all_rows hd2
  · rw [← uv_int]; exact cells_ints hu he hc hct hd1
  · rw [← uv_int]; exact cells_ints hu he hc hct hd0
theorem in_of_wf {a : Int} (h : (Lit.int IntKind.i64 a).wf = true) : inI64 a := by
  have h2 := h
  simp [Lit.wf, IntKind.min, IntKind.max, IntKind.bits, IntKind.signed] at h2
  exact ⟨by omega, by omega⟩
theorem own28 : ownKnob Tryd.prog.godebug = none := by kernel_rfl
theorem door_met28 (os : Os) (args : Array Value) : laidMetH Tryd.prog laid28 ((World.doorLaid Tryd.prog 61 os).forCall (fun _ _ => 0) ⟨#[], args, []⟩).memory :=
  laidMetH_of_parts3 (fuel := 8) (laidMet_of_run' 8 (by kernel_rfl) (by kernel_rfl)) (by kernel_rfl) (by kernel_rfl)
end Go.Proofs.YtedegedceeefdaaDoor

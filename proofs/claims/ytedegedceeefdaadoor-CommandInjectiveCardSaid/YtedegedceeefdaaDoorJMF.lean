/- Parts of the proof: Mf. -/
import Derived.Test.YtedegedceeefdaaDoorJMA
import Derived.Test.YtedegedceeefdaaDoorJLC
import Derived.Test.YtedegedceeefdaaDoorJQH
set_option linter.all false
set_option linter.unusedVariables false
set_option linter.unusedSimpArgs false
set_option linter.unnecessarySimpa false
set_option linter.deprecated false
/-! Commands that came in. -/
namespace Go.Proofs.YtedegedceeefdaaDoor
open Go.ChangeShapes Go.WideShapes Go.ChangeAt Go.WideMaps Go.WideElems Go.RowKit Go.Cw Cu
set_option maxRecDepth 100000
section
variable {H : Type} {enc : TypeId × Value → H} {w : World} {base : Nat} {sp : Nat → Bool} {hd : Bool}
theorem open_cmd {fuel : Nat} {cs : List Value} {x : DataW H × List MemPlace} (h : DataW.trod enc Tryd.prog w base sp hd fuel 24 cs = some x) :
    ∃ (c : Cmd) (A : Option Addr) (n cap : Nat), cs = cmdV c A n cap ∧ Rd w A n 1 (iv c.list) ∧ InC c := by
  have hu : Tryd.prog.underlying 24 = some (.struct (Tryd.prog.fieldsOf 24)) := by kernel_rfl
  have hct : Tryd.prog.cellsOf 24 = 8 := by kernel_rfl
  obtain ⟨m, hlen, hp⟩ := struct_parts hu h
  rw [hct] at hlen
  obtain ⟨y0, h0⟩ := field_part hp (i := 0) (T := 3) (off := 0) (s := 1) (by kernel_rfl) (by kernel_rfl)
  obtain ⟨k0, e0, _, wk0⟩ := DataW.trod_int (P := Tryd.prog) (t := 3) (k := .i64) (by kernel_rfl) h0
  obtain ⟨y1, h1⟩ := field_part hp (i := 1) (T := 3) (off := 1) (s := 1) (by kernel_rfl) (by kernel_rfl)
  obtain ⟨k1, e1, _, wk1⟩ := DataW.trod_int (P := Tryd.prog) (t := 3) (k := .i64) (by kernel_rfl) h1
  obtain ⟨y2, h2⟩ := field_part hp (i := 2) (T := 3) (off := 2) (s := 1) (by kernel_rfl) (by kernel_rfl)
  obtain ⟨k2, e2, _, wk2⟩ := DataW.trod_int (P := Tryd.prog) (t := 3) (k := .i64) (by kernel_rfl) h2
  obtain ⟨y3, h3⟩ := field_part hp (i := 3) (T := 3) (off := 3) (s := 1) (by kernel_rfl) (by kernel_rfl)
  obtain ⟨k3, e3, _, wk3⟩ := DataW.trod_int (P := Tryd.prog) (t := 3) (k := .i64) (by kernel_rfl) h3
  obtain ⟨y4, h4⟩ := field_part hp (i := 4) (T := 3) (off := 4) (s := 1) (by kernel_rfl) (by kernel_rfl)
  obtain ⟨k4, e4, _, wk4⟩ := DataW.trod_int (P := Tryd.prog) (t := 3) (k := .i64) (by kernel_rfl) h4
  obtain ⟨y5, h5⟩ := field_part hp (i := 5) (T := 3) (off := 5) (s := 1) (by kernel_rfl) (by kernel_rfl)
  obtain ⟨k5, e5, _, wk5⟩ := DataW.trod_int (P := Tryd.prog) (t := 3) (k := .i64) (by kernel_rfl) h5
  obtain ⟨y6, h6⟩ := field_part hp (i := 6) (T := 9) (off := 6) (s := 1) (by kernel_rfl) (by kernel_rfl)
  obtain ⟨s, e6, _, ws⟩ := DataW.trod_string (P := Tryd.prog) (t := 9) (by kernel_rfl) h6
  obtain ⟨y7, h7⟩ := field_part hp (i := 7) (T := 22) (off := 7) (s := 1) (by kernel_rfl) (by kernel_rfl)
  obtain ⟨Al, nl, cl, l, e7, rl, ll, ml, wl⟩ := open_i64s (P := Tryd.prog) (t := 22) (e := 3) (by kernel_rfl) (by kernel_rfl) (by kernel_rfl) h7
  have e : cs = [.int .i64 k0] ++ ([.int .i64 k1] ++ ([.int .i64 k2] ++ ([.int .i64 k3] ++ ([.int .i64 k4] ++ ([.int .i64 k5] ++ ([.string s] ++ ([.slice Al nl cl]))))))) := by
    conv => lhs; rw [show cs = cs.drop 0 from rfl, cut cs 0 1, cut cs 1 1, cut cs 2 1, cut cs 3 1, cut cs 4 1, cut cs 5 1, cut cs 6 1, cut cs 7 1, List.drop_of_length_le (show cs.length ≤ 8 by omega)]
    rw [e0, e1, e2, e3, e4, e5, e6, e7]
    simp only [List.append_nil]
  refine ⟨⟨k0, k1, k2, k3, k4, k5, sb s, l⟩, Al, nl, cl, e, rl, ⟨?_, fun x hx => wl x hx, ?_, ?_⟩⟩
  · intro x hx
    simp only [nums, List.mem_cons, List.not_mem_nil, or_false] at hx
    rcases hx with rfl | rfl | rfl | rfl | rfl | rfl
    · exact in_of_wf wk0
    · exact in_of_wf wk1
    · exact in_of_wf wk2
    · exact in_of_wf wk3
    · exact in_of_wf wk4
    · exact in_of_wf wk5
  · have := ws; simp only [maxLen] at this; rw [sb_length]; omega
  · have := rl.max; rw [ll]; omega
theorem arg_cmd {v : Value} {d : DataW H} {ps : List MemPlace} {b0 : Nat} (ho : Value.okWide Tryd.prog w .any b0 24 v) (h : DataW.Trod enc Tryd.prog w base sp hd 24 v d ps) :
    ∃ (c : Cmd) (A : Option Addr) (n cap : Nat), v = .agg (cmdV c A n cap).toArray ∧ Rd w A n 1 (iv c.list) ∧ InC c := by
  obtain ⟨cs, rfl, _⟩ := okWide_struct (show Tryd.prog.underlying 24 = some (.struct (Tryd.prog.fieldsOf 24)) by kernel_rfl) ho
  obtain ⟨fuel, hf⟩ := h
  obtain ⟨c, A, n, cap, e, hr, hc⟩ := open_cmd hf
  refine ⟨c, A, n, cap, ?_, hr, hc⟩
  rw [← e]; simp [Value.cells]
theorem arg_bytes {v : Value} {d : DataW H} {ps : List MemPlace} {b0 : Nat} (ho : Value.okWide Tryd.prog w .any b0 33 v) (h : DataW.Trod enc Tryd.prog w base sp hd 33 v d ps) :
    ∃ (A : Option Addr) (n c : Nat) (xs : List UInt8), v = .slice A n c ∧ Rd w A n 1 (bv xs) ∧ n ≤ c := by
  obtain ⟨a, l, c, rfl⟩ := okWide_slice Tryd.underlying33 ho
  obtain ⟨fuel, hf⟩ := h
  obtain ⟨A, n, c, xs, e, hr, hl, hc⟩ := open_bytes Tryd.underlying33 Tryd.underlying5 (by kernel_rfl) hf
  simp [Value.cells] at e
  obtain ⟨rfl, rfl, rfl⟩ := e
  exact ⟨_, _, _, xs, rfl, hr, hc⟩

end
end Go.Proofs.YtedegedceeefdaaDoor

/- Parts of the proof: Me, Ma. -/
import Derived.Test.YtedegedceeefdaaDoorJKK
import Derived.Test.YtedegedceeefdaaDoorRows
import Derived.ProofKit
import Derived.LaidMore
import Derived.OpenShut
import Derived.Carry
import Derived.ChangeMaps5
import Derived.Stop.Joined
import Derived.Test.YtedegedceeefdaaDoorJLA
set_option linter.all false
set_option linter.unusedVariables false
set_option linter.unusedSimpArgs false
set_option linter.unnecessarySimpa false
set_option linter.deprecated false
/-! What a law's row wants: the arguments opened, and read again behind the call. -/
namespace Go.Cw
open Go.ChangeShapes Go.WideShapes Go.ChangeAt Go.WideMaps Go.WideElems Go.RowKit
set_option maxRecDepth 100000
section
variable {H : Type} {enc : TypeId × Value → H} {P : Program}
theorem trodAll_stays (hl : laidOutB P = true) {W W' : World} (hb : Below W.heap.size W W') : ∀ {ts : List TypeId} {vs : List Value} {ds : List (DataW H)} {ps : List MemPlace},
    (∀ t ∈ ts, P.readableRec t = true ∧ t < P.types.size) → DataW.TrodAll enc P W 0 (fun _ => true) true ts vs ds ps → (∀ x ∈ ps, x.block < W.heap.size) →
    DataW.TrodAll enc P W' 0 (fun b => decide (b < W.heap.size)) true ts vs ds ps
  | [], [], [], _, _, h, _ => h
  | [], [], _ :: _, _, _, h, _ => h.elim
  | [], _ :: _, [], _, _, h, _ => h.elim
  | [], _ :: _, _ :: _, _, _, h, _ => h.elim
  | _ :: _, [], [], _, _, h, _ => h.elim
  | _ :: _, [], _ :: _, _, _, h, _ => h.elim
  | _ :: _, _ :: _, [], _, _, h, _ => h.elim
  | t :: ts, v :: vs, d :: ds, ps, ht, h, hlt => by
    obtain ⟨p, q, h1, h2, e⟩ := h
    have h3 := ht t (by simp)
    exact ⟨p, q, Below.trod hl h3.1 h3.2 h1 hb (fun x hx => hlt x (by rw [e]; simp [hx])), trodAll_stays hl hb (fun t' ht' => ht t' (by simp [ht'])) h2 (fun x hx => hlt x (by rw [e]; simp [hx])), e⟩
/-- A law's post: it returned true, and below the heap's old end nothing has turned. -/
theorem law_post {f : Func} {s : ChangeSpec} {tb : TypeId} {W W' : World} {args : Array Value} {ds gs : List (DataW H)} {before : List MemPlace} (hl : laidOutB P = true)
    (hrows : f.params.toList.all (fun t => P.readableRec t && decide (t < P.types.size)) = true) (hres : f.resultTypes = #[tb]) (htb : P.underlying tb = some .bool) (hv : s.vars = [])
    (hs : s.fn H ds = { results := [.lit (.bool true)], args := ds }) (hW : DataW.Whole enc P f.params.toList s.vars false W args.toList ds gs before) (hb : Below W.heap.size W W') :
    s.post enc P f false true false false W args (.bool true) W' := by
  have hW' := hW
  have hlt := fun p hp => hW.lt p hp
  obtain ⟨p, q, hA, hV, rfl, hfz, hnd⟩ := hW
  rw [hv] at hV
  obtain ⟨rfl, rfl⟩ := trodVars_none hV
  have hA2 := trodAll_stays hl hb (fun t ht => by simpa using List.all_eq_true.1 hrows t ht) hA (fun x hx => hlt x (by simp [hx]))
  refine ⟨ds, [], p ++ [], [], p, [], hW', ?_, ?_, ?_, hb.frame _, fun h => by cases h⟩
  · rw [hres, List.append_nil, hs]
    exact trodAll_mk1 (shut_bool htb true)
  · rw [List.append_nil, hs]
    exact hA2
  · rw [List.append_nil, hs, hv]
    rfl
variable {w : World} {base : Nat} {sp : Nat → Bool} {hd : Bool}
theorem list_of {α : Type} (Q : Nat → α → Prop) (n : Nat) (key : ∀ i, i < n → ∃ x, Q i x) : ∃ xs : List α, xs.length = n ∧ ∀ (i : Nat) (x : α), xs[i]? = some x → Q i x := by
  induction n with
  | zero => exact ⟨[], rfl, fun i x hx => by simp at hx⟩
  | succ n ih =>
    obtain ⟨xs, h1, h2⟩ := ih (fun i hi => key i (by omega))
    obtain ⟨y, hy⟩ := key n (by omega)
    refine ⟨xs ++ [y], by simp [h1], fun i x hx => ?_⟩
    rcases Nat.lt_or_ge i n with hi | hi
    · rw [List.getElem?_append_left (by omega)] at hx
      exact h2 i x hx
    · rw [List.getElem?_append_right (by omega)] at hx
      obtain ⟨rfl, rfl⟩ : i = n ∧ y = x := by
        rcases Nat.eq_or_lt_of_le hi with e | hlt
        · subst e; simp [h1] at hx; exact ⟨rfl, hx⟩
        · rw [List.getElem?_eq_none (by simp; omega)] at hx; cases hx
      exact hy
/-- A slice that came in, its elements told one by one. -/
theorem open_slice {α : Type} (f : α → List Value) (Good : α → Prop) (s : Nat) (hs : 0 < s) {t e : TypeId} (ht : P.underlying t = some (.slice e)) (hc : P.cellsOf e = s)
    (hel : ∀ (cs : List Value) (fuel : Nat) (q : DataW H × List MemPlace), DataW.trod enc P w base sp hd fuel e cs = some q → ∃ x, cs = f x ∧ Good x ∧ (f x).length = s)
    {fuel : Nat} {cs : List Value} {x : DataW H × List MemPlace} (h : DataW.trod enc P w base sp hd fuel t cs = some x) :
    ∃ (A : Option Addr) (n c : Nat) (xs : List α), cs = [.slice A n c] ∧ Rd w A n s (xs.flatMap f) ∧ xs.length = n ∧ n ≤ c ∧ c ≤ 9223372036854775807 ∧ ∀ x ∈ xs, Good x ∧ (f x).length = s := by
  rcases DataW.trod_slice ht h with ⟨rfl, rfl⟩ | ⟨a, n, c, elems, rest, m, _, rfl, rfl, hb, hl, hm, hlen, hel2, _, _⟩
  · exact ⟨none, 0, 0, [], rfl, Rd.empty _ _ _, rfl, Nat.le_refl _, by omega, fun x hx => by cases hx⟩
  · have hmx : c ≤ 9223372036854775807 := by simpa only [maxLen] using hm
    have key : ∀ i, i < n → ∃ x, w.cells? base (a.add (i * s)) s = some (f x) ∧ Good x ∧ (f x).length = s := by
      intro i hi
      have h1 := hel2 i hi
      rw [hc] at h1
      have h2 : elems[i]? = some (elems[i]'(by omega)) := List.getElem?_eq_getElem (by omega)
      rw [h2] at h1
      obtain ⟨ci, hci, hti⟩ := Option.bind_eq_some_iff.1 h1
      obtain ⟨x, rfl, hg, hsz⟩ := hel _ _ _ hti
      exact ⟨x, hci, hg, hsz⟩
    obtain ⟨xs, hxl, hxs⟩ : ∃ xs : List α, xs.length = n ∧ ∀ (i : Nat) (x : α), xs[i]? = some x → w.cells? base (a.add (i * s)) s = some (f x) ∧ Good x ∧ (f x).length = s := by
      exact list_of (fun i x => w.cells? base (a.add (i * s)) s = some (f x) ∧ Good x ∧ (f x).length = s) n key
    have hf : ∀ x ∈ xs, (f x).length = s := fun x hx => by
      obtain ⟨i, hi⟩ := List.getElem?_of_mem hx
      exact (hxs i x hi).2.2
    refine ⟨some a, n, c, xs, rfl, ⟨?_, by omega, fun hn => ?_⟩, hxl, hl, hmx, fun x hx => ?_⟩
    · rw [← hxl]
      clear hxs hxl
      induction xs with
      | nil => simp
      | cons y ys ih =>
        rw [List.flatMap_cons, List.length_append, hf y (by simp), ih (fun x hx => hf x (by simp [hx])), List.length_cons, Nat.succ_mul]
        omega
    · have hspot : a.spot = none := by
        obtain ⟨x, hx, _, hsz⟩ := key 0 hn
        obtain ⟨h1, h2, h3⟩ := World.cells?_some hx
        have h4 := h3 0 hs
        rw [List.getElem?_eq_getElem (by omega)] at h4
        unfold World.cell? at h4
        split at h4
        · split at h4
          · cases h4
          · rename_i hns
            simpa [Addr.add] using hns
        · cases h4
      refine ⟨a.block, a.off, by obtain ⟨b, o, z⟩ := a; simp only at hspot; subst hspot; rfl, fun j u hu => ?_⟩
      have hj : j < n * s := by
        have := (List.getElem?_eq_some_iff.1 hu).1
        have hlen2 : (xs.flatMap f).length = n * s := by
          rw [← hxl]
          clear hxs hxl hu this
          induction xs with
          | nil => simp
          | cons y ys ih =>
            rw [List.flatMap_cons, List.length_append, hf y (by simp), ih (fun x hx => hf x (by simp [hx])), List.length_cons, Nat.succ_mul]
            omega
        omega
      obtain ⟨i, k, hk, rfl⟩ : ∃ i k, k < s ∧ j = s * i + k := ⟨j / s, j % s, Nat.mod_lt _ hs, (Nat.div_add_mod j s).symm⟩
      have hi : i < n := by
        rcases Nat.lt_or_ge i n with h | h
        · exact h
        · have : n * s ≤ s * i := by rw [Nat.mul_comm]; exact Nat.mul_le_mul_left _ h
          omega
      have hxi : xs[i]? = some (xs[i]'(by omega)) := List.getElem?_eq_getElem (by omega)
      have h1 := (hxs i _ hxi).1
      obtain ⟨g1, g2, g3⟩ := World.cells?_some h1
      have h2 := g3 k hk
      have hu2 : (f (xs[i]'(by omega)))[k]? = some u := by
        have : ∀ (l : List α) (i : Nat), (∀ x ∈ l, (f x).length = s) → (l.flatMap f)[s * i + k]? = (l[i]?).bind fun x => (f x)[k]? := by
          intro l
          induction l with
          | nil => intro i _; simp
          | cons y ys ih =>
            intro i hl2
            cases i with
            | zero => simp only [List.flatMap_cons, Nat.mul_zero, Nat.zero_add]; rw [List.getElem?_append_left (by rw [hl2 y (by simp)]; exact hk)]; rfl
            | succ i =>
              simp only [List.flatMap_cons]
              rw [List.getElem?_append_right (by rw [hl2 y (by simp), Nat.mul_succ]; omega), hl2 y (by simp), show s * (i + 1) + k - s = s * i + k by rw [Nat.mul_succ]; omega, ih i (fun x hx => hl2 x (by simp [hx]))]
              rfl
        rw [this xs i hf, hxi] at hu
        exact hu
      rw [hu2] at h2
      have e : ((a.add (i * s)).add k) = ⟨a.block, a.off + (s * i + k), none⟩ := by
        obtain ⟨b, o, z⟩ := a
        simp only at hspot
        subst hspot
        rw [Addr.add_lit, Addr.add_lit, Nat.add_assoc, Nat.mul_comm i s]
      rw [e] at h2
      exact h2
    · obtain ⟨i, hi⟩ := List.getElem?_of_mem hx
      exact (hxs i x hi).2
theorem struct_parts {t : TypeId} {fs : Array Field} (ht : P.underlying t = some (.struct fs)) {fuel : Nat} {cs : List Value} {x : DataW H × List MemPlace} (h : DataW.trod enc P w base sp hd fuel t cs = some x) :
    ∃ m, cs.length = P.cellsOf t ∧ ∀ (i : Nat) (f : Field), fs[i]? = some f → ∃ y, DataW.trod enc P w base sp hd m f.type ((cs.drop f.offset).take (P.cellsOf f.type)) = some y := by
  obtain ⟨xs, m, rfl, rfl, hlen, hn, hel⟩ := DataW.trod_struct ht h
  refine ⟨m, hlen, fun i f hf => ?_⟩
  have h1 := hel i f hf
  have hi : i < fs.size := (Array.getElem?_eq_some_iff.1 hf).1
  exact ⟨_, h1.trans (List.getElem?_eq_getElem (by omega))⟩
theorem field_part {fs : Array Field} {m : Nat} {cs : List Value} (hp : ∀ (i : Nat) (f : Field), fs[i]? = some f → ∃ y, DataW.trod enc P w base sp hd m f.type ((cs.drop f.offset).take (P.cellsOf f.type)) = some y)
    {i : Nat} {T : TypeId} {off s : Nat} (hf : (fs[i]?).map (fun f => (f.type, f.offset)) = some (T, off)) (hc : P.cellsOf T = s) : ∃ y, DataW.trod enc P w base sp hd m T ((cs.drop off).take s) = some y := by
  obtain ⟨f, h1, h2⟩ := Option.map_eq_some_iff.1 hf
  simp only [Prod.mk.injEq] at h2
  obtain ⟨rfl, rfl⟩ := h2
  subst hc
  exact hp i f h1
theorem cut {α : Type} (cs : List α) (off s : Nat) : cs.drop off = (cs.drop off).take s ++ cs.drop (off + s) := by
  rw [← List.drop_drop]; exact (List.take_append_drop s _).symm
/-- One element of one cell. -/
theorem open_u8 {t : TypeId} (ht : P.underlying t = some (.int .u8)) {fuel : Nat} {cs : List Value} {x : DataW H × List MemPlace} (h : DataW.trod enc P w base sp hd fuel t cs = some x) : ∃ b : UInt8, cs = bv [b] := by
  obtain ⟨z, rfl, _, hw⟩ := DataW.trod_int ht h
  simp [Lit.wf, IntKind.min, IntKind.max, IntKind.bits, IntKind.signed] at hw
  refine ⟨UInt8.ofNat z.toNat, ?_⟩
  simp only [bv, List.map_cons, List.map_nil, List.cons.injEq, Value.int.injEq, and_true, true_and]
  rw [UInt8.toNat_ofNat']
  omega
theorem in_of_wf {a : Int} (h : (Lit.int IntKind.i64 a).wf = true) : -9223372036854775808 ≤ a ∧ a ≤ 9223372036854775807 := by
  have h2 := h
  simp [Lit.wf, IntKind.min, IntKind.max, IntKind.bits, IntKind.signed] at h2
  exact ⟨by omega, by omega⟩
theorem flat_bv (xs : List UInt8) : xs.flatMap (fun b => bv [b]) = bv xs := by
  induction xs with
  | nil => rfl
  | cons x r ih => simp only [List.flatMap_cons, ih]; rfl
theorem flat_iv (xs : List Int) : xs.flatMap (fun z => iv [z]) = iv xs := by
  induction xs with
  | nil => rfl
  | cons x r ih => simp only [List.flatMap_cons, ih]; rfl
theorem open_bytes {t e : TypeId} (ht : P.underlying t = some (.slice e)) (he : P.underlying e = some (.int .u8)) (hc : P.cellsOf e = 1) {fuel : Nat} {cs : List Value} {x : DataW H × List MemPlace} (h : DataW.trod enc P w base sp hd fuel t cs = some x) :
    ∃ (A : Option Addr) (n c : Nat) (xs : List UInt8), cs = [.slice A n c] ∧ Rd w A n 1 (bv xs) ∧ xs.length = n ∧ n ≤ c := by
  obtain ⟨A, n, c, xs, e1, h1, h2, h3, _⟩ := open_slice (fun b => bv [b]) (fun _ => True) 1 (by omega) ht hc (fun cs fuel q hq => by obtain ⟨b, rfl⟩ := open_u8 he hq; exact ⟨b, rfl, trivial, rfl⟩) h
  rw [flat_bv] at h1
  exact ⟨A, n, c, xs, e1, h1, h2, h3⟩
theorem open_i64s {t e : TypeId} (ht : P.underlying t = some (.slice e)) (he : P.underlying e = some (.int .i64)) (hc : P.cellsOf e = 1) {fuel : Nat} {cs : List Value} {x : DataW H × List MemPlace} (h : DataW.trod enc P w base sp hd fuel t cs = some x) :
    ∃ (A : Option Addr) (n c : Nat) (xs : List Int), cs = [.slice A n c] ∧ Rd w A n 1 (iv xs) ∧ xs.length = n ∧ n ≤ c ∧ ∀ x ∈ xs, -9223372036854775808 ≤ x ∧ x ≤ 9223372036854775807 := by
  obtain ⟨A, n, c, xs, e1, h1, h2, h3, _, h4⟩ := open_slice (fun z => iv [z]) (fun x : Int => -9223372036854775808 ≤ x ∧ x ≤ 9223372036854775807) 1 (by omega) ht hc (fun cs fuel q hq => by
    obtain ⟨z, rfl, _, hw⟩ := DataW.trod_int he hq
    exact ⟨z, rfl, in_of_wf hw, rfl⟩) h
  rw [flat_iv] at h1
  exact ⟨A, n, c, xs, e1, h1, h2, h3, fun x hx => (h4 x hx).1⟩
end
end Go.Cw
/-! What the laid condition gives the walks. -/
namespace Go.Proofs.YtedegedceeefdaaDoor
open Go.ChangeShapes Go.WideShapes Go.ChangeAt Go.WideMaps Go.WideElems Go.RowKit Go.Cw Cu
set_option maxRecDepth 100000
section
variable {H : Type} {enc : TypeId × Value → H} {P : Program} {w : World} {base : Nat} {spare : Nat → Bool} {held : Bool} {fuel : Nat}
theorem cells_ints {t e : TypeId} {n : Nat} {k : IntKind} {cs : List Value} {zs : List Int} {q : List MemPlace} (ht : P.underlying t = some (.array n e)) (he : P.underlying e = some (.int k)) (hc : P.cellsOf e = 1) (hct : P.cellsOf t = n)
    (h : DataW.trod enc P w base spare held fuel t cs = some (.agg (zs.map fun z => .lit (.int k z)), q)) : cs = zs.map (Value.int k) := by
  obtain ⟨xs, m, rfl, hx, hlen, hn, hel⟩ := DataW.trod_array ht h
  simp only [Prod.mk.injEq, DataW.agg.injEq] at hx
  rw [hct] at hlen
  have hzl : zs.length = n := by have := congrArg List.length hx.1; simp at this; omega
  refine List.ext_getElem? fun i => ?_
  rcases Nat.lt_or_ge i n with hi | hi
  · have h1 := hel i hi
    rw [hc, Nat.mul_one] at h1
    have hxi : xs[i]? = some (xs[i]'(by omega)) := List.getElem?_eq_getElem (by omega)
    rw [hxi] at h1
    obtain ⟨z, e1, e2, _⟩ := DataW.trod_int he h1
    have h3 := congrArg (fun l => l[i]?) hx.1
    simp only [List.getElem?_map, hxi, Option.map_some] at h3
    rw [e2] at h3
    have hzi : zs[i]? = some (zs[i]'(by omega)) := List.getElem?_eq_getElem (by omega)
    rw [hzi] at h3
    simp only [Option.map_some, Option.some.injEq, DataW.lit.injEq, Lit.int.injEq, true_and] at h3
    have hci : cs[i]? = some (.int k z) := by
      have := congrArg (fun l => l[0]?) e1
      simpa using this
    rw [hci, List.getElem?_map, hzi, ← h3]; rfl
  · rw [List.getElem?_eq_none (by omega), List.getElem?_eq_none (by simp; omega)]
end
def rowD (r : Row) : DataW Unit := .agg [.lit (.string r.name), .lit (.int .i64 (r.uses : Int)), .lit (.int .i64 (r.least : Int)), .lit (.int .i64 (r.most : Int))]
theorem rows_laid : (Rows.laid_custody_command_rows : DataW Unit) = .agg (rws.map rowD) := rfl
theorem ks_laid : (Rows.laid_custody_hash_constants : DataW Unit) = .agg ((ks.map fun x : Nat => (x : Int)).map fun z => .lit (.int .u32 z)) := rfl
theorem ks_laid2 : (Rows.laid_custody_custodyref02_constants : DataW Unit) = .agg ((ks.map fun x : Nat => (x : Int)).map fun z => .lit (.int .u32 z)) := rfl
theorem one_row {w : World} {base : Nat} {spare : Nat → Bool} {held : Bool} {fuel : Nat} {enc : TypeId × Value → Unit} {cs : List Value} {r : Row} {q : List MemPlace}
    (h : DataW.trod enc Tryd.prog w base spare held fuel 113 cs = some (rowD r, q)) : cs = rowCells r := by
  have hu : Tryd.prog.underlying 113 = some (.struct (Tryd.prog.fieldsOf 113)) := by kernel_rfl
  obtain ⟨xs, m, rfl, hx, hlen, hn, hel⟩ := DataW.trod_struct hu h
  have hc : Tryd.prog.cellsOf 113 = 4 := by kernel_rfl
  have f0 : ((Tryd.prog.fieldsOf 113)[0]?).map (fun f => (f.type, f.offset)) = some (9, 0) := by kernel_rfl
  have f1 : ((Tryd.prog.fieldsOf 113)[1]?).map (fun f => (f.type, f.offset)) = some (111, 1) := by kernel_rfl
  have f2 : ((Tryd.prog.fieldsOf 113)[2]?).map (fun f => (f.type, f.offset)) = some (3, 2) := by kernel_rfl
  have f3 : ((Tryd.prog.fieldsOf 113)[3]?).map (fun f => (f.type, f.offset)) = some (3, 3) := by kernel_rfl
  have hf : (Tryd.prog.fieldsOf 113).size = 4 := by kernel_rfl
  have c0 : Tryd.prog.cellsOf 9 = 1 := by kernel_rfl
  have c1 : Tryd.prog.cellsOf 111 = 1 := by kernel_rfl
  have c2 : Tryd.prog.cellsOf 3 = 1 := by kernel_rfl
  have u0 : Tryd.prog.underlying 9 = some .string := by kernel_rfl
  have u1 : Tryd.prog.underlying 111 = some (.int .i64) := by kernel_rfl
  have u2 : Tryd.prog.underlying 3 = some (.int .i64) := by kernel_rfl
  rw [hc] at hlen
  rw [hf] at hn
  obtain ⟨F0, hF0, e0⟩ := Option.map_eq_some_iff.1 f0
  obtain ⟨F1, hF1, e1⟩ := Option.map_eq_some_iff.1 f1
  obtain ⟨F2, hF2, e2⟩ := Option.map_eq_some_iff.1 f2
  obtain ⟨F3, hF3, e3⟩ := Option.map_eq_some_iff.1 f3
  simp only [Prod.mk.injEq] at e0 e1 e2 e3
  have h0 := hel 0 F0 hF0
  have h1 := hel 1 F1 hF1
  have h2 := hel 2 F2 hF2
  have h3 := hel 3 F3 hF3
  rw [e0.1, e0.2, c0] at h0
  rw [e1.1, e1.2, c1] at h1
  rw [e2.1, e2.2, c2] at h2
  rw [e3.1, e3.2, c2] at h3
  match xs, hn with
  | [x0, x1, x2, x3], _ =>
    match cs, hlen with
    | [a, b, c, d], _ =>
      simp only [List.getElem?_cons_zero, List.getElem?_cons_succ] at h0 h1 h2 h3
      obtain ⟨s, k0, k1, _⟩ := DataW.trod_string u0 h0
      obtain ⟨z1, l1, m1, _⟩ := DataW.trod_int u1 h1
      obtain ⟨z2, l2, m2, _⟩ := DataW.trod_int u2 h2
      obtain ⟨z3, l3, m3, _⟩ := DataW.trod_int u2 h3
      subst k1 m1 m2 m3
      simp [rowD] at hx
      simp at k0 l1 l2 l3
      subst k0 l1 l2 l3
      obtain ⟨⟨g0, g1, g2, g3⟩, _⟩ := hx
      subst g1 g2 g3
      have hs : s = ⟨r.name.toArray⟩ := by
        obtain ⟨⟨l⟩⟩ := s
        simp at g0
        rw [g0]
      rw [hs]
      rfl
theorem all_rows {w : World} {base : Nat} {spare : Nat → Bool} {held : Bool} {fuel : Nat} {enc : TypeId × Value → Unit} {cs : List Value} {q : List MemPlace}
    (h : DataW.trod enc Tryd.prog w base spare held fuel 114 cs = some (.agg (rws.map rowD), q)) : cs = rowsV := by
  have hu : Tryd.prog.underlying 114 = some (.array 27 113) := by kernel_rfl
  obtain ⟨xs, m, rfl, hx, hlen, hn, hel⟩ := DataW.trod_array hu h
  have hc : Tryd.prog.cellsOf 114 = 108 := by kernel_rfl
  have hc4 : Tryd.prog.cellsOf 113 = 4 := by kernel_rfl
  rw [hc] at hlen
  simp only [Prod.mk.injEq, DataW.agg.injEq] at hx
  have hrl : rowsV.length = 108 := by decide +kernel
  refine List.ext_getElem? fun p => ?_
  rcases Nat.lt_or_ge p 108 with hp | hp
  · obtain ⟨i, j, hj, rfl⟩ : ∃ i j, j < 4 ∧ p = 4 * i + j := ⟨p / 4, p % 4, Nat.mod_lt _ (by omega), by omega⟩
    have hi : i < 27 := by omega
    have h1 := hel i hi
    rw [hc4] at h1
    have hxi : xs[i]? = some (xs[i]'(by omega)) := List.getElem?_eq_getElem (by omega)
    have hri : rws[i]? = some (rws[i]'(by rw [rws_length]; omega)) := List.getElem?_eq_getElem (by rw [rws_length]; omega)
    have h3 := congrArg (fun l => l[i]?) hx.1
    simp only [List.getElem?_map, hxi, hri, Option.map_some, Option.some.injEq] at h3
    rw [hxi] at h1
    have h4 := one_row (r := rws[i]'(by rw [rws_length]; omega)) (q := (xs[i]'(by omega)).2) (h1.trans (by rw [h3]))
    unfold rowsV
    rw [flat_get rowCells 4 (fun _ => rfl) _ _ _ hj, hri]
    show cs[4 * i + j]? = (rowCells _)[j]?
    rw [← h4, List.getElem?_take, if_pos hj, List.getElem?_drop, Nat.mul_comm i 4]
  · rw [List.getElem?_eq_none (by omega), List.getElem?_eq_none (by omega)]
theorem tab_of {P : Program} {w : World} {n : String} {g : Nat} {cs : Array Value} {l : List Value} (hg : P.globalNamed n = some g) (h : w.var? P n = some cs) (he : cs.toList = l) : Tab w g l := by
  intro j v hv
  rw [World.var?_cell hg h j]
  subst he
  simpa using hv
def laid28 : List (String × DataW Unit) := [("custody/custodyref02.constants", Rows.laid_custody_custodyref02_constants), ("custody/hash.constants", Rows.laid_custody_hash_constants), ("custody/command.rows", Rows.laid_custody_command_rows)]
theorem gn1 : Tryd.prog.globalNamed "custody/custodyref02.constants" = some 1 := by kernel_rfl
theorem gn2 : Tryd.prog.globalNamed "custody/hash.constants" = some 4 := by kernel_rfl
theorem gn3 : Tryd.prog.globalNamed "custody/command.rows" = some 0 := by kernel_rfl
theorem gt1 : (Tryd.prog.globals[1]?).map (·.type) = some 212 := by kernel_rfl
theorem gt2 : (Tryd.prog.globals[4]?).map (·.type) = some 212 := by kernel_rfl
theorem gt3 : (Tryd.prog.globals[0]?).map (·.type) = some 114 := by kernel_rfl
theorem uv_int : (ks.map fun x : Nat => (x : Int)).map (Value.int .u32) = uv ks := by simp [uv]
theorem of_laid28 {W : World} (h : laidMetH Tryd.prog laid28 W) : Tab W 0 rowsV ∧ Tab W 4 (uv ks) ∧ Tab W 1 (uv ks) := by
  rw [MakeChecks.laidMetH_plain _ _ _ (by kernel_rfl)] at h
  obtain ⟨ps, ⟨g0, t0, cs0, f0, p0, q0, hg0, ht0, hv0, hd0, ⟨g1, t1, cs1, f1, p1, q1, hg1, ht1, hv1, hd1, ⟨g2, t2, cs2, f2, p2, q2, hg2, ht2, hv2, hd2, _, _⟩, _⟩, _⟩, _, _⟩ := h
  obtain rfl := Option.some.inj (gn1.symm.trans hg0)
  obtain rfl := Option.some.inj (gn2.symm.trans hg1)
  obtain rfl := Option.some.inj (gn3.symm.trans hg2)
  obtain rfl := Option.some.inj (gt1.symm.trans ht0)
  obtain rfl := Option.some.inj (gt2.symm.trans ht1)
  obtain rfl := Option.some.inj (gt3.symm.trans ht2)
  have hu : Tryd.prog.underlying 212 = some (.array 64 182) := by kernel_rfl
  have he : Tryd.prog.underlying 182 = some (.int .u32) := by kernel_rfl
  have hc : Tryd.prog.cellsOf 182 = 1 := by kernel_rfl
  have hct : Tryd.prog.cellsOf 212 = 64 := by kernel_rfl
  refine ⟨tab_of hg2 hv2 ?_, tab_of hg1 hv1 ?_, tab_of hg0 hv0 ?_⟩
  · exact all_rows hd2
  · rw [← uv_int]; exact cells_ints hu he hc hct hd1
  · rw [← uv_int]; exact cells_ints hu he hc hct hd0
theorem own28 : ownKnob Tryd.prog.godebug = none := by kernel_rfl
theorem door_met28 (os : Os) (args : Array Value) : laidMetH Tryd.prog laid28 ((World.doorLaid Tryd.prog 61 os).forCall (fun _ _ => 0) ⟨#[], args, []⟩).memory :=
  laidMetH_of_parts3 (fuel := 8) (laidMet_of_run' 8 (by kernel_rfl) (by kernel_rfl)) (by kernel_rfl) (by kernel_rfl)
end Go.Proofs.YtedegedceeefdaaDoor

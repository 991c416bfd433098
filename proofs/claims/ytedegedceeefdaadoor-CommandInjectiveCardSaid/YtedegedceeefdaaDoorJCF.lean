/- Parts of the proof: Cf, Cg, Ch. -/
import Derived.Test.YtedegedceeefdaaDoorJCA
set_option linter.all false
set_option linter.unusedVariables false
set_option linter.unusedSimpArgs false
set_option linter.unnecessarySimpa false
set_option linter.deprecated false
/-! Walks: slices.Grow and slices.Concat of bytes. -/
namespace Go.Cw
open Go.RowKit
section
variable {P : Program} {w : World}
theorem run_append_zeros {t tx ty e : TypeId} {z : Value} {size bytes : Nat} (hE : Elt P t e z size bytes) {k : IntKind} (hk : P.underlying tx = some (.int k)) (n : Nat) (hn : 0 < n) (hb : n * bytes ≤ 140737488355328) (h63 : n ≤ 9223372036854775807) :
    (Builtin.append_ #[t, tx] ty #[.slice none 0 0, .int .i64 (n : Int)]).run P w =
      .ok (.slice (some ⟨w.heap.size, 0, none⟩) n (grownCap w n 0 e)) (w.drew.alloc (.cells (Builtin.zeroCells z.cells n ++ Builtin.zeroCells z.cells (grownCap w n 0 e - n)) e)) := by
  obtain ⟨ht, hi0, hzs, hsz⟩ := hE
  obtain ⟨i, hi, hz, rfl, rfl⟩ := info_parts hi0
  have h1 : IntKind.i64.wrap (n : Int) = (n : Int) := IntWalk.i64_in _ (by omega)
  have h2 : ¬ ((n : Int) < 0) := by omega
  have h3 : ¬ (281474976710656 < n * i.bytes) := by omega
  have h3' : ¬ ((281474976710656 : Int) < (n : Int) * (i.bytes : Int)) := by
    have : ((n : Int) * (i.bytes : Int)) = ((n * i.bytes : Nat) : Int) := by norm_cast
    omega
  have h4 : ¬ n ≤ 0 := by omega
  have h4' : ¬ n = 0 := by omega
  have h5 : ¬ (9223372036854775807 < (n : Int)) := by omega
  have hf := growslice_fits (need := n) (old := 0) (bytes := i.bytes) (by omega) hb
  have h6 : ¬ (281474976710656 < Builtin.nextslicecap n 0 * i.bytes) := by omega
  have h7 : ¬ (i.size = 0) := by omega
  simp [Builtin.append_, run_underlying ht, run_underlying hk, sizeOf, typeInfo, zeroValue, hi, hz, asInt, asIntOf, h1, h2, h3, h3', h4, h4', h5, h6, h7, Question.forced, Builtin.firstCells, loadCells, loadCellsFrom, newRow, grownCap]
  intro h
  have := Nat.mul_pos hn hsz
  omega
variable {ops : Array Oper} {Q : Exit → Act → World → Prop} {rest : List Oper} {a : Act} {d : Option Tmp} {ty : TypeId} {pos : String} {af : Array Edge}
/-- append(nil, make([]T, n)...): a new row of n zeros. -/
theorem at_append_zeros {s x : Operand} {t tx e : TypeId} {z : Value} {size bytes : Nat} (hE : Elt P t e z size bytes) {k : IntKind} (hk : P.underlying tx = some (.int k)) {n : Nat} (hn : 0 < n) (hb : n * bytes ≤ 140737488355328) (h63 : n ≤ 9223372036854775807)
    (hs : a.eval s = .slice none 0 0) (hx : a.eval x = .int .i64 (n : Int))
    (kk : ∀ c w', n ≤ c → w'.ownsRow w.heap.size e size (.slice (some ⟨w.heap.size, 0, none⟩) 0 c) 0 [] → Below w.heap.size w w' → wpList P ops Q rest (a.put d (.slice (some ⟨w.heap.size, 0, none⟩) n c)) w') :
    StopAt P ops Q ⟨d, .call { callee := .builtin .append, args := #[s, x], argTypes := #[t, tx] }, ty, pos, af, none⟩ rest a w := by
  refine wpList_plain rfl fun K hK => ?_
  unfold Oper.wp execOp
  simp only [resolve, invoke, builtin, Sem.run_bind, Sem.run_pure, Result.andThen_ok, List.map_toArray, List.map_cons, List.map_nil, hs, hx, run_append_zeros hE hk n hn hb h63]
  have hge := grownCap_ge w n 0 e
  have hcm := grownCap_le_maxLen w n 0 e (by simp only [maxLen]; omega)
  refine hK _ _ (kk _ _ hge ⟨by simp, .inr ⟨w.heap.size, _, _, rfl, Nat.le_refl _, heap_alloc_new w.drew _, Nat.zero_le _, hcm, ?_, by simp⟩⟩ ((Below.drew (Below.refl _ _)).alloc (Nat.le_refl _) _))
  rw [Array.size_append, size_zeroCells, size_zeroCells, hE.hzs, ← Nat.add_mul]
  congr 1
  omega
end
end Go.Cw
namespace Go.Proofs.YtedegedceeefdaaDoor
open Go.RowKit Go.Cw Cu
set_option maxRecDepth 100000
set_option maxHeartbeats 1000000
set_option linter.unusedVariables false
set_option linter.unusedSimpArgs false
theorem slices_GrowB (n : Nat) (hn : n ≤ 140737488350000) (w : World) :
    Calls Tryd.prog 152 #[.slice none 0 0, .int .i64 n] w (RetOwn w 5 1 0 []) := by
  by_cases h0 : n = 0
  · subst h0
    go_enter Tryd.func152, Tryd.ntmps152
    go_wp2_with fail
    go_ret
    exact ⟨none, 0, rfl, World.ownsRow_nil _ _ _ _, Below.refl _ _⟩
  · have hpos : 0 < n := by omega
    go_enter Tryd.func152, Tryd.ntmps152
    go_wp2_with (with_reducible refine stop_append ?_)
    refine at_append_zeros eltB (by kernel_rfl : Tryd.prog.underlying 3 = some (.int .i64)) hpos (by omega) (by omega) rfl rfl ?_
    intro c w1 hc hown hb
    go_wp2_with (with_reducible refine stop_slice ?_)
    refine at_slice_run (v := .slice (some ⟨w.heap.size, 0, none⟩) 0 c) (w' := w1) ?_ ?_
    · obtain ⟨i, hi', _, hs, _⟩ := info_parts eltB.hi
      have h := run_slice_hi (w := w1) eltB.ht hi' (some ⟨w.heap.size, 0, none⟩) n c 0 (Nat.zero_le _)
      rw [if_neg (by omega)] at h
      simp only [Option.map_some, Nat.zero_mul, Addr.add_lit, Nat.add_zero] at h
      exact h
    go_wp2_with fail
    go_ret
    exact ⟨_, c, rfl, hown, hb⟩
def ssv (l : List (Option Addr × Nat × List UInt8)) : List Value := l.map fun p => .slice p.1 p.2.2.length p.2.1
theorem slices_ConcatB (l : List (Option Addr × Nat × List UInt8)) (A0 : Option Addr) (n c0 : Nat) (w : World) (hrd : Rd w A0 n 1 (ssv l)) (hps : ∀ p ∈ l, Rd w p.1 p.2.2.length 1 (bv p.2.2)) (hM : (l.flatMap (·.2.2)).length ≤ 140737488350000) :
    Calls Tryd.prog 96 #[.slice A0 n c0] w (RetOwn w 5 1 (l.flatMap (·.2.2)).length (bv (l.flatMap (·.2.2)))) := by
  generalize hres : l.flatMap (·.2.2) = res at hM
  obtain ⟨msg, hmsg⟩ : ∃ msg : Nat → List UInt8, ∀ k, msg k = (l.take k).flatMap (·.2.2) := ⟨_, fun _ => rfl⟩
  have hlp : l.length = n := by have := hrd.len; simp [ssv] at this; omega
  have hmsn : msg n = res := by rw [hmsg, List.take_of_length_le (by omega), hres]
  have hml : ∀ k, k ≤ n → (msg k).length ≤ res.length := by
    intro k hk
    have : ∃ r, msg n = msg k ++ r := by
      refine ⟨(l.drop k).flatMap (·.2.2), ?_⟩
      rw [hmsg k, hmsg n, ← List.flatMap_append, List.take_of_length_le (by omega), List.take_append_drop]
    obtain ⟨r, hr⟩ := this
    rw [← hmsn, hr]; simp
  have hm0 : msg 0 = [] := by rw [hmsg]; simp
  have hpl : ∀ (k : Nat) p, l[k]? = some p → msg (k + 1) = msg k ++ p.2.2 := by
    intro k p hpk
    rw [hmsg, hmsg, List.take_add_one, hpk]; simp
  have hmax := hrd.max
  have HLP := Shut.mk hlp
  have HMN := Shut.mk hmsn
  have HML := Shut.mk hml
  have HM0 := Shut.mk hm0
  have HPL := Shut.mk hpl
  have HPS := Shut.mk hps
  clear hlp hmsn hml hm0 hpl hres hmsg hps
  go_enter Tryd.func96, Tryd.ntmps96
  go_wp2_with fail
  go_loop [11, 3] (fun i s => ∃ k : Nat, k ≤ n ∧ i = .int .i64 k ∧ s = .int .i64 ((msg k).length : Int)) (fun i _ => n - (intOf i).toNat)
  case atStart => exact ⟨0, by omega, rfl, by rw [HM0.out]; rfl⟩
  case round =>
    obtain ⟨k, hk, rfl, rfl⟩ := hrel
    by_cases hkn : k < n
    · obtain ⟨g, o, rfl, hc⟩ := hrd.cells (by omega)
      obtain ⟨p, hpk⟩ : ∃ p, l[k]? = some p := ⟨_, List.getElem?_eq_getElem (by have := HLP.out; omega)⟩
      have hck := hc k (.slice p.1 p.2.2.length p.2.1) (by simp [ssv, hpk])
      have hnx := HPL.out k p hpk
      have hlen := HML.out (k + 1) (by omega)
      have hsum : (msg k).length + p.2.2.length ≤ res.length := by rw [hnx, List.length_append] at hlen; exact hlen
      have hll : (msg (k + 1)).length = (msg k).length + p.2.2.length := by rw [hnx, List.length_append]
      have HLL := Shut.mk hll
      generalize p.2.2.length = pl at *
      generalize p.1 = pa at *
      generalize p.2.1 = pc at *
      clear hc hpk hnx hlen hll
      go_wp2_with fail
      go_round
      case rel => exact ⟨k + 1, by omega, by go_num, by rw [HLL.out]; go_num⟩
      case measure => simp [intOf]; omega
    · obtain rfl : k = n := by omega
      rw [HMN.out]
      go_wp2_with fail
      refine (slices_GrowB res.length hM w).mono ?_
      rintro e w1 ⟨D, dc, rfl, hown, hb⟩
      have HO := Shut.mk hown
      clear hown
      go_wp2_with fail
      go_loopw [27, 6] (fun i s wr => ∃ (j : Nat) (D : Option Addr) (d : Nat), j ≤ k ∧ i = .int .i64 j ∧ s = .slice D (msg j).length d ∧ Shut (wr.ownsRow w.heap.size 5 1 (.slice D (msg j).length d) (msg j).length (bv (msg j))) ∧ Below w.heap.size w wr) (fun i _ _ => k - (intOf i).toNat)
      case atStart => exact ⟨0, D, dc, by omega, rfl, by rw [HM0.out]; rfl, ⟨by rw [HM0.out]; exact HO.out⟩, hb⟩
      case round =>
        clear HO hb
        obtain ⟨j, D, d, hj, rfl, rfl, HO, hb⟩ := hrel
        by_cases hjk : j < k
        · obtain ⟨g, o, rfl, hc⟩ := (hrd.below hb).cells (by omega)
          obtain ⟨p, hpk⟩ : ∃ p, l[j]? = some p := ⟨_, List.getElem?_eq_getElem (by have := HLP.out; omega)⟩
          have hck := hc j (.slice p.1 p.2.2.length p.2.1) (by simp [ssv, hpk])
          have hnx := HPL.out j p hpk
          have hlen := HML.out (j + 1) (by omega)
          have hsum : (msg j).length + p.2.2.length ≤ res.length := by rw [hnx, List.length_append] at hlen; exact hlen
          have hrp := (HPS.out p (List.mem_of_getElem? hpk)).below hb
          have HNX := Shut.mk hnx
          have HRP := Shut.mk hrp
          clear hc hpk hnx hlen hrp
          go_wp2_with (with_reducible refine stop_append ?_)
          refine at_append_src eltB w.heap.size rfl HO.out rfl (Src.ofRd Tryd.underlying33 p.2.1 HRP.out (bv_one _)) (by omega) (by omega) hb.size ?_
          intro A' c' w3 hown' hg _
          have hb' := below_own hb hb.size HO.out (Nat.le_refl _) hg
          rw [← bv_append, ← HNX.out] at hown'
          have hll : (msg j).length + p.2.2.length = (msg (j + 1)).length := by rw [HNX.out, List.length_append]
          rw [hll] at hown' ⊢
          have HO2 := Shut.mk hown'
          clear hown' hll hsum hg hck HRP
          go_wp2_with fail
          go_roundw
          case rel => exact ⟨j + 1, A', c', by omega, by go_num, rfl, HO2, hb'⟩
          case measure => simp [intOf]; omega
        · obtain rfl : j = k := by omega
          go_wp2_with fail
          go_ret
          have hO := HO.out
          rw [HMN.out] at hO ⊢
          exact ⟨D, d, rfl, hO, hb⟩
end Go.Proofs.YtedegedceeefdaaDoor
/-! Walks: package command, Encode and Digest. -/
namespace Go.Cw
open Go.RowKit
section
variable {P : Program} {ops : Array Oper} {a : Act} {w : World} {R : Value → World → Prop} {d : Option Tmp} {ty : TypeId} {pos : String} {af : Array Edge}
theorem one_cells {v : Value} (h : v.oneCell' = true) : v.cells = #[v] := by cases v <;> simp [Value.oneCell'] at h <;> rfl
theorem run_slice3 {t e : TypeId} {z : Value} {bytes : Nat} (hE : Elt P t e z 1 bytes) {v0 v1 v2 : Value} (h0 : v0.oneCell' = true) (h1 : v1.oneCell' = true) (h2 : v2.oneCell' = true) (hz1 : z.oneCell' = true) :
    (Instr.buildSlice t 3 #[(0, v0), (1, v1), (2, v2)]).run P w = .ok (.slice (some ⟨w.heap.size, 0, none⟩) 3 3) (w.alloc (.cells [v0, v1, v2].toArray e)) := by
  obtain ⟨i, hi, hz, hs, hb⟩ := info_parts hE.hi
  have hf : Instr.fill (fun j => some (j * i.size, i.size)) ((Array.range (3 * i.size)).map (z.cells[· % z.cells.size]!)) [((0 : Nat), v0), (1, v1), (2, v2)] = some #[v0, v1, v2] := by
    rw [hs, one_cells hz1]
    simp only [Instr.fill, one_cells h0, one_cells h1, one_cells h2]
    simp
    refine Array.ext (by simp) fun j hj1 hj2 => ?_
    have : j = 0 ∨ j = 1 ∨ j = 2 := by simp at hj2; omega
    rcases this with rfl | rfl | rfl <;> simp
  exact run_buildSlice w t e 3 _ #[v0, v1, v2] i z hE.ht hi hz (by rw [hs]; decide) (by rw [hs]; decide) hf
theorem step_slice3 {t e : TypeId} {z : Value} {bytes : Nat} (hE : Elt P t e z 1 bytes) {x0 x1 x2 : Operand} {v0 v1 v2 : Value} (e0 : a.eval x0 = v0) (e1 : a.eval x1 = v1) (e2 : a.eval x2 = v2)
    (h0 : v0.oneCell' = true) (h1 : v1.oneCell' = true) (h2 : v2.oneCell' = true) (hz1 : z.oneCell' = true)
    (hR : R (.slice (some ⟨w.heap.size, 0, none⟩) 3 3) (w.alloc (.cells [v0, v1, v2].toArray e))) : StepAt P ops ⟨d, .buildSlice t 3 #[(0, x0), (1, x1), (2, x2)], ty, pos, af, none⟩ a w R :=
  step_run (by
    simp only [execOp, Sem.run_bind, List.map_toArray, List.map_cons, List.map_nil, e0, e1, e2]
    rw [run_slice3 hE h0 h1 h2 hz1]
    rfl) hR
theorem step_field {t : TypeId} {x : Operand} {i : Nat} {u v : Value} (hx : a.eval x = u) (h : (Instr.fieldAt t u i).run P w = .ok v w) (hR : R v w) : StepAt P ops ⟨d, .fieldAddr t x i, ty, pos, af, none⟩ a w R :=
  step_run (by simp only [execOp, hx, Sem.run_bind, h, Result.andThen_ok, Sem.run_pure]) hR
/-- A load of one cell. -/
theorem run_load_cell {t : TypeId} {b : Addr} {v : Value} (ht : (P.underlying t).map isAggD = some false) (hc : w.cell? b = some v) : (Instr.loadAt t (.pointer (some b))).run P w = .ok v w := by
  cases hd : P.underlying t with
  | none => rw [hd] at ht; cases ht
  | some e =>
    rw [hd] at ht
    simp only [Option.map_some, Option.some.injEq] at ht
    have hi : (isAgg t).run P w = .ok false w := by cases e <;> simp [isAggD] at ht <;> simp [isAgg, run_underlying hd]
    simp [Instr.loadAt, Instr.sureAddr, loadVar, hi, hc]
end
end Go.Cw
namespace Go.Proofs.YtedegedceeefdaaDoor
open Go.RowKit Go.Cw Cu
set_option maxRecDepth 100000
set_option maxHeartbeats 1000000
set_option linter.unusedVariables false
set_option linter.unusedSimpArgs false
theorem fa_cmd6 (g : Nat) (w : World) : (Instr.fieldAt 24 (.pointer (some ⟨g, 0, none⟩)) 6).run Tryd.prog w = .ok (.pointer (some ⟨g, 6, none⟩)) w := by kernel_rfl
theorem fa_cmd7 (g : Nat) (w : World) : (Instr.fieldAt 24 (.pointer (some ⟨g, 0, none⟩)) 7).run Tryd.prog w = .ok (.pointer (some ⟨g, 7, none⟩)) w := by kernel_rfl
theorem eltS : Elt Tryd.prog 65 33 (.slice none 0 0) 1 24 := ⟨Tryd.underlying65, by kernel_rfl, rfl, by omega⟩
def nums (c : Cmd) : List Int := [c.kind, c.key, c.other, c.type, c.uses, c.life]
theorem encCmd_nums (c : Cmd) : encCmd c = (nums c).flatMap encInt ++ encBytes c.data ++ encList encInt c.list := by
  unfold encCmd nums
  simp [List.append_assoc]
theorem command_Encode (c : Cmd) (A : Option Addr) (n cap : Nat) (w : World) (hrd : Rd w A n 1 (iv c.list)) (hnum : ∀ x ∈ nums c, inI64 x) (hlist : ∀ x ∈ c.list, inI64 x) (hd : c.data.length ≤ 1000000000) (hn : n ≤ 1000000000) :
    Calls Tryd.prog 30 #[.agg (cmdV c A n cap).toArray] w (RetOwn w 5 1 (encCmd c).length (bv (encCmd c))) := by
  have hb0 := below_alloc w (.cells (cmdV c A n cap).toArray 24)
  have hB0 := Blk.new w 24 (cmdV c A n cap)
  have hz0 : (w.alloc (.cells (cmdV c A n cap).toArray 24)).heap.size = w.heap.size + 1 := by simp
  generalize hres : encCmd c = res
  have HRES := Shut.mk hres
  have HNUM := Shut.mk hnum
  have HLIST := Shut.mk hlist
  clear hres hnum hlist
  go_enter Tryd.func30, Tryd.ntmps30
  have c0 := hB0.cell (j := 0) (v := .int .i64 c.kind) rfl
  have c1 := hB0.cell (j := 1) (v := .int .i64 c.key) rfl
  have c2 := hB0.cell (j := 2) (v := .int .i64 c.other) rfl
  have c3 := hB0.cell (j := 3) (v := .int .i64 c.type) rfl
  have c4 := hB0.cell (j := 4) (v := .int .i64 c.uses) rfl
  have c5 := hB0.cell (j := 5) (v := .int .i64 c.life) rfl
  go_wp2_with fail
  clear c0 c1 c2 c3 c4 c5
  generalize w.alloc (.cells (cmdV c A n cap).toArray 24) = w1 at *
  have HB0 := Shut.mk hB0
  clear hB0
  have hlen : ∀ k, k ≤ 6 → (((nums c).take k).flatMap encInt).length ≤ 9 * k := by
    intro k hk
    have : ∀ l : List Int, (l.flatMap encInt).length ≤ 9 * l.length := by
      intro l
      induction l with
      | nil => simp
      | cons x r ih => have := encInt_length_le x; simp only [List.flatMap_cons, List.length_append, List.length_cons]; omega
    have h := this ((nums c).take k)
    rw [List.length_take] at h
    omega
  have hmsgk : ∀ (k : Nat) (x : Int), (nums c)[k]? = some x → ((nums c).take (k + 1)).flatMap encInt = ((nums c).take k).flatMap encInt ++ encInt x := by
    intro k x hx
    rw [List.take_add_one, hx]; simp
  obtain ⟨msg, hmsg⟩ : ∃ msg : Nat → List UInt8, ∀ k, msg k = ((nums c).take k).flatMap encInt := ⟨_, fun _ => rfl⟩
  simp only [← hmsg] at hlen hmsgk
  have hm0 : msg 0 = [] := by rw [hmsg]; rfl
  have hm6 : msg 6 = (nums c).flatMap encInt := by rw [hmsg]; rfl
  have HLEN := Shut.mk hlen
  have HMK := Shut.mk hmsgk
  have HM0 := Shut.mk hm0
  have HM6 := Shut.mk hm6
  clear hlen hmsgk hm0 hm6 hmsg
  go_loopw [19, 3] (fun i s wr => ∃ (k : Nat) (D : Option Addr) (d : Nat), k ≤ 6 ∧ i = .int .i64 k ∧ s = .slice D (msg k).length d ∧ Shut (wr.ownsRow (w.heap.size + 1) 5 1 (.slice D (msg k).length d) (msg k).length (bv (msg k))) ∧ Shut (Blk wr w.heap.size 24 (cmdV c A n cap)) ∧ Below w.heap.size w wr ∧ w.heap.size + 1 ≤ wr.heap.size) (fun i _ _ => 6 - (intOf i).toNat)
  case atStart => exact ⟨0, none, 0, by omega, rfl, by rw [HM0.out]; rfl, ⟨by rw [HM0.out]; exact World.ownsRow_nil _ _ _ _⟩, HB0, hb0, by omega⟩
  case round =>
    clear HB0 hb0 hz0
    obtain ⟨k, D, d, hk, rfl, rfl, HO, HB, hbw, hsz⟩ := hrel
    by_cases hk6 : k < 6
    · obtain ⟨x, hx⟩ : ∃ x, (nums c)[k]? = some x := ⟨_, List.getElem?_eq_getElem (by simpa [nums] using hk6)⟩
      have hin := HNUM.out x (List.mem_of_getElem? hx)
      have hl1 := HLEN.out k (by omega)
      have hle := encInt_length_le x
      have HX := Shut.mk hx
      clear hx
      go_wp2_with (with_reducible refine stop_index ?_)
      refine at_index_run (run_index_int (j := k) (cs := iv (nums c)) (v := .int .i64 x) (by kernel_rfl : Tryd.prog.underlying 124 = some (.array 6 3)) (by kernel_rfl : Tryd.prog.underlying 3 = some (.int .i64)) (by kernel_rfl) (by simp [iv, HX.out]) hk6) ?_
      go_wp2_with fail
      refine (wire_Int x hin wr).mono ?_
      rintro e w2 ⟨E, ec, rfl, hown2, hb2⟩
      have HL1 := Shut.mk hl1
      have HLE := Shut.mk hle
      go_wp2_with (with_reducible refine stop_append ?_)
      have hownw := own_below HO.out hb2
      have hb3 := below_then hbw hb2 hbw.size
      have hsz2 : w.heap.size + 1 ≤ w2.heap.size := by have := hb2.size; omega
      refine at_append_src eltB (w.heap.size + 1) rfl hownw rfl (Src.ofRd Tryd.underlying33 ec (own_Rd hown2) (bv_one _)) (by omega) (by omega) hsz2 ?_
      intro A' c' w3 hown' hg _
      have hb' := below_own hb3 hb3.size hownw (by omega) hg
      have hq := below_own (Below.refl (w.heap.size + 1) w2) hsz2 hownw (Nat.le_refl _) hg
      have hB2 := (HB.out.below hb2).below_at hq (by omega)
      rw [← bv_append, ← HMK.out k x HX.out] at hown'
      have hll : (msg k).length + (encInt x).length = (msg (k + 1)).length := by rw [HMK.out k x HX.out, List.length_append]
      rw [hll] at hown' ⊢
      have HO2 := Shut.mk hown'
      have HB2 := Shut.mk hB2
      have hsz3 : w.heap.size + 1 ≤ w3.heap.size := by have := hq.size; omega
      clear hown' hll hownw hown2 hl1 hle hg hq hb2 hb3 hB2 hsz2
      go_wp2_with fail
      go_roundw
      case rel => exact ⟨k + 1, A', c', by omega, by go_num, rfl, HO2, HB2, hb', hsz3⟩
      case measure => simp [intOf]; omega
    · obtain rfl : k = 6 := by omega
      have hl1 := HLEN.out 6 (by omega)
      go_wp2_with fail
      have hres : (msg 6 ++ encBytes c.data) ++ encList encInt c.list = res := by rw [HM6.out, ← HRES.out, encCmd_nums]
      have HRS := Shut.mk hres
      have hel : (encList encInt c.list).length ≤ 9 * c.list.length + 9 := by
        unfold encList
        have : ∀ l : List Int, (l.flatMap encInt).length ≤ 9 * l.length := by
          intro l
          induction l with
          | nil => simp
          | cons x r ih => have := encInt_length_le x; simp only [List.flatMap_cons, List.length_append, List.length_cons]; omega
        have h1 := this c.list
        have h2 := encInt_length_le (c.list.length : Int)
        rw [List.length_append]; omega
      have hll : c.list.length = n := by have := hrd.len; rw [iv_length] at this; omega
      have heb : (encBytes c.data).length ≤ c.data.length + 9 := by
        unfold encBytes
        have h2 := encInt_length_le (c.data.length : Int)
        rw [List.length_append]; omega
      have hsb : sb ⟨c.data.toArray⟩ = c.data := rfl
      have hdz : (⟨c.data.toArray⟩ : ByteArray).size = c.data.length := rfl
      have hbytes := wire_Bytes ⟨c.data.toArray⟩ (by rw [hdz]; omega)
      rw [hsb] at hbytes
      have hints := fun w1 (h : Rd w1 A n 1 (iv c.list)) => wire_Ints c.list HLIST.out A n cap (by omega) w1 h
      generalize encBytes c.data = eb at *
      generalize encList encInt c.list = el at *
      refine wp_region_mono 9 (fun i v w1 => match i with
        | 0 => v = .slice D (msg 6).length d
        | 1 => v = .pointer (some ⟨w.heap.size, 6, none⟩)
        | 2 => v = .string ⟨c.data.toArray⟩
        | 3 => ∃ B b, v = .slice B eb.length b ∧ Rd w1 B eb.length 1 (bv eb)
        | 4 => v = .pointer (some ⟨w.heap.size, 7, none⟩)
        | 5 => v = .slice A n cap
        | 6 => ∃ B b, v = .slice B el.length b ∧ Rd w1 B el.length 1 (bv el)
        | 7 => ∃ (g : Nat) (l : List (Option Addr × Nat × List UInt8)), v = .slice (some ⟨g, 0, none⟩) 3 3 ∧ Rd w1 (some ⟨g, 0, none⟩) 3 1 (ssv l) ∧ (∀ p ∈ l, Rd w1 p.1 p.2.2.length 1 (bv p.2.2)) ∧ l.flatMap (·.2.2) = res
        | _ => ∃ B b, v = .slice B res.length b ∧ w1.ownsRow w.heap.size 5 1 (.slice B res.length b) res.length (bv res)) (by kernel_rfl) (by kernel_rfl) ?_ ?_ ?_
      · intro i v w1 w2 hi h hb
        match i, hi, h with
        | 0, _, h => exact h
        | 1, _, h => exact h
        | 2, _, h => exact h
        | 3, _, h => obtain ⟨B, c, e, hr⟩ := h; exact ⟨B, c, e, hr.below hb⟩
        | 4, _, h => exact h
        | 5, _, h => exact h
        | 6, _, h => obtain ⟨B, c, e, hr⟩ := h; exact ⟨B, c, e, hr.below hb⟩
        | 7, _, h => obtain ⟨g, l, e, hr, hp, hf⟩ := h; exact ⟨g, l, e, hr.below hb, fun p hq => (hp p hq).below hb, hf⟩
        | 8, _, h => obtain ⟨B, c, e, hr⟩ := h; exact ⟨B, c, e, own_below hr hb⟩
        | k + 9, hi, _ => omega
      · refine Steps.cons (fun a1 w1 hp => ?_) (Steps.cons (fun a1 w1 hp => ?_) (Steps.cons (fun a1 w1 hp => ?_) (Steps.cons (fun a1 w1 hp => ?_) (Steps.cons (fun a1 w1 hp => ?_) (Steps.cons (fun a1 w1 hp => ?_) (Steps.cons (fun a1 w1 hp => ?_) (Steps.cons (fun a1 w1 hp => ?_) (Steps.cons (fun a1 w1 hp => ?_) Steps.nil))))))))
        · exact step_move (hp.same 3 (by kernel_rfl)) ⟨rfl, Below.refl _ _⟩
        · exact step_field (hp.same 1 (by kernel_rfl)) (fa_cmd6 _ _) ⟨rfl, Below.refl _ _⟩
        · exact step_load (hp.got 1 (by kernel_rfl) 28 (by kernel_rfl)) (run_load_cell (by kernel_rfl) ((HB.out.below hp.below).cell (j := 6) rfl)) ⟨rfl, Below.refl _ _⟩
        · have e2 : a1.eval (.tmp 29) = _ := hp.got 2 (by kernel_rfl) 29 (by kernel_rfl)
          refine step_call Tryd.call97 (by simp only [List.map_toArray, List.map_cons, List.map_nil, e2]) ((hbytes w1).mono ?_)
          rintro e w2 ⟨B, b, rfl, hown, hb⟩
          exact ⟨_, rfl, ⟨B, b, rfl, own_Rd hown⟩, hb⟩
        · exact step_field (hp.same 1 (by kernel_rfl)) (fa_cmd7 _ _) ⟨rfl, Below.refl _ _⟩
        · exact step_load (hp.got 4 (by kernel_rfl) 31 (by kernel_rfl)) (run_load_cell (by kernel_rfl) ((HB.out.below hp.below).cell (j := 7) rfl)) ⟨rfl, Below.refl _ _⟩
        · have e5 : a1.eval (.tmp 32) = _ := hp.got 5 (by kernel_rfl) 32 (by kernel_rfl)
          refine step_call Tryd.call98 (by simp only [List.map_toArray, List.map_cons, List.map_nil, e5]) ((hints w1 ((hrd.below hbw).below hp.below)).mono ?_)
          rintro e w2 ⟨B, b, rfl, hown, hb⟩
          exact ⟨_, rfl, ⟨B, b, rfl, own_Rd hown⟩, hb⟩
        · have e0 : a1.eval (.tmp 27) = _ := hp.got 0 (by kernel_rfl) 27 (by kernel_rfl)
          obtain ⟨B, b, e3, hr3⟩ := hp.got 3 (by kernel_rfl) 30 (by kernel_rfl)
          obtain ⟨C, c', e6, hr6⟩ := hp.got 6 (by kernel_rfl) 33 (by kernel_rfl)
          refine step_slice3 eltS e0 e3 e6 rfl rfl rfl rfl ⟨⟨w1.heap.size, [(D, d, msg 6), (B, b, eb), (C, c', el)], rfl, rd_new 3 1 rfl (by omega), ?_, ?_⟩, below_alloc _ _⟩
          · intro p hq
            have hal := below_alloc w1 (.cells [Value.slice D (msg 6).length d, .slice B eb.length b, .slice C el.length c'].toArray 33)
            simp only [List.mem_cons, List.not_mem_nil, or_false] at hq
            rcases hq with rfl | rfl | rfl
            · exact ((own_Rd HO.out).below hp.below).below hal
            · exact hr3.below hal
            · exact hr6.below hal
          · show msg 6 ++ (eb ++ (el ++ [])) = res
            rw [← HRS.out]; simp
        · obtain ⟨g, l, e7, hr, hps, hf⟩ := hp.got 7 (by kernel_rfl) 34 (by kernel_rfl)
          have hcc := slices_ConcatB l (some ⟨g, 0, none⟩) 3 3 w1 hr hps (by rw [hf, ← HRS.out]; simp only [List.length_append]; omega)
          rw [hf] at hcc
          refine step_call Tryd.call96 (by simp only [List.map_toArray, List.map_cons, List.map_nil, e7]) (hcc.mono ?_)
          rintro e w2 ⟨B, b, rfl, hown, hb⟩
          exact ⟨_, rfl, ⟨B, b, rfl, own_mono hown (by have := hp.below.size; have := hbw.size; omega)⟩, hb⟩
      · intro w1 vs hb1 hΦ
        have e0 : vs 0 = _ := hΦ 0 (by decide)
        have e1 : vs 1 = _ := hΦ 1 (by decide)
        have e2 : vs 2 = _ := hΦ 2 (by decide)
        obtain ⟨B3, b3, e3, _⟩ := hΦ 3 (by decide)
        have e4 : vs 4 = _ := hΦ 4 (by decide)
        have e5 : vs 5 = _ := hΦ 5 (by decide)
        obtain ⟨B6, b6, e6, _⟩ := hΦ 6 (by decide)
        obtain ⟨g7, l7, e7, _⟩ := hΦ 7 (by decide)
        obtain ⟨B8, b8, e8, ho8⟩ := hΦ 8 (by decide)
        simp only [List.take_succ_cons, List.take_zero, List.drop_succ_cons, List.drop_zero, putL, Nat.reduceAdd, e0, e1, e2, e3, e4, e5, e6, e7, e8, Act.put, List.setIfInBounds_toArray, List.set_cons_succ, List.set_cons_zero]
        clear hΦ e0 e1 e2 e3 e4 e5 e6 e7 e8
        have hbw2 := hbw.trans (hb1.mono hbw.size)
        have HO8 := Shut.mk ho8
        clear ho8
        go_wp2_with fail
        go_ret
        exact ⟨B8, b8, rfl, HO8.out, hbw2⟩
end Go.Proofs.YtedegedceeefdaaDoor
/-! Walks: package command, Digest. -/
namespace Go.Proofs.YtedegedceeefdaaDoor
open Go.RowKit Go.Cw Cu
set_option maxRecDepth 100000
set_option maxHeartbeats 1000000
set_option linter.unusedVariables false
set_option linter.unusedSimpArgs false
theorem encCmd_length (c : Cmd) (hd : c.data.length ≤ 1000000000) (hn : c.list.length ≤ 1000000000) : (encCmd c).length ≤ 20000000000 := by
  have h1 : ∀ l : List Int, (l.flatMap encInt).length ≤ 9 * l.length := by
    intro l
    induction l with
    | nil => simp
    | cons x r ih => have := encInt_length_le x; simp only [List.flatMap_cons, List.length_append, List.length_cons]; omega
  rw [encCmd_nums, List.length_append, List.length_append]
  have h2 := h1 (nums c)
  have h3 : (nums c).length = 6 := rfl
  have h4 := h1 c.list
  have h5 := encInt_length_le (c.list.length : Int)
  have h6 := encInt_length_le (c.data.length : Int)
  unfold encBytes encList
  rw [List.length_append, List.length_append]
  omega
theorem command_Digest (c : Cmd) (A : Option Addr) (n cap : Nat) (w : World) (hrd : Rd w A n 1 (iv c.list)) (hnum : ∀ x ∈ nums c, inI64 x) (hlist : ∀ x ∈ c.list, inI64 x) (hd : c.data.length ≤ 1000000000) (hn : n ≤ 1000000000) (ht : Tab w 4 (uv ks)) :
    Calls Tryd.prog 32 #[.agg (cmdV c A n cap).toArray] w fun e w' => e = .returned (.agg (bv (dig 7 [encCmd c])).toArray) ∧ Below w.heap.size w w' := by
  have HT := Shut.mk ht
  clear ht
  have hg : 4 < w.heap.size := HT.out.lt rfl
  have hll : c.list.length = n := by have := hrd.len; rw [iv_length] at this; omega
  have hel := encCmd_length c hd (by omega)
  have hE := fun w1 (h : Rd w1 A n 1 (iv c.list)) => command_Encode c A n cap w1 h hnum hlist hd hn
  have hO := fun A' n' c' w1 (h : Rd w1 A' n' 1 (sv [⟨(encCmd c).toArray⟩])) (ht : Tab w1 4 (uv ks)) => hash_Of 7 (by omega) [⟨(encCmd c).toArray⟩] (by intro p hp; simp at hp; subst hp; show (encCmd c).length ≤ _; omega)
    (by
      show (UInt8.ofNat 7 :: ([encCmd c].flatMap encBytes)).length < _
      have h6 := encInt_length_le ((encCmd c).length : Int)
      simp only [List.flatMap_cons, List.flatMap_nil, List.append_nil, List.length_cons]
      unfold encBytes
      rw [List.length_append]; omega) A' n' c' w1 h ht
  have hm : [(⟨(encCmd c).toArray⟩ : ByteArray)].map sb = [encCmd c] := rfl
  rw [hm] at hO
  generalize hres : dig 7 [encCmd c] = res at *
  have hlr : res.length = 16 := by rw [← hres, dig_length]
  generalize encCmd c = ec at *
  clear hres hm
  have HE := Shut.mk hE
  have HO := Shut.mk hO
  clear hE hO hel hll hnum hlist
  have hb0 := (below_alloc w (.cells (cmdV c A n cap).toArray 24)).trans ((below_alloc _ (.cells (bv (List.replicate 16 0)).toArray 36)).mono (by simp))
  have hB0 := (Blk.new w 24 (cmdV c A n cap)).alloc (.cells (bv (List.replicate 16 0)).toArray 36)
  have hR0 := Blk.new (w.alloc (.cells (cmdV c A n cap).toArray 24)) 36 (bv (List.replicate 16 0))
  have hz : (w.alloc (.cells (cmdV c A n cap).toArray 24)).heap.size = w.heap.size + 1 := by simp
  rw [hz] at hR0
  clear hz
  go_enter Tryd.func32, Tryd.ntmps32
  go_wp2_with (with_reducible refine stop_load (t := 24) ?_)
  change StopAt _ _ _ _ _ _ ((w.alloc (.cells (cmdV c A n cap).toArray 24)).alloc (.cells (bv (List.replicate 16 0)).toArray 36))
  generalize (w.alloc (.cells (cmdV c A n cap).toArray 24)).alloc (.cells (bv (List.replicate 16 0)).toArray 36) = w1 at *
  refine at_load_blk aggC rfl rfl hB0 ?_
  go_wp2_with fail
  refine (HE.out w1 (hrd.below hb0)).mono ?_
  rintro e w2 ⟨B, b, rfl, hown, hb2⟩
  have hR2 := hR0.below hb2
  have hbw := hb0.trans (hb2.mono hb0.size)
  clear hB0 hR0 hb0 hb2
  go_wp2_with (with_reducible refine stop_convert ?_)
  refine at_str Tryd.underlying33 Tryd.underlying5 Tryd.underlying9 rfl (own_Rd hown) ?_
  go_wp2_with fail
  have hs := rd_new (w := w2) (cs := sv [⟨ec.toArray⟩]) (e := 9) (fr := (0, 0)) 1 1 rfl (by omega)
  have hal := below_alloc w2 (.cells (sv [⟨ec.toArray⟩]).toArray 9)
  refine (HO.out _ 1 1 _ hs (HT.out.below (hbw.trans (hal.mono hbw.size)) hg)).mono ?_
  rintro e w3 ⟨rfl, hb3⟩
  have hR3 := (hR2.below hal).below hb3
  have hbw3 := (hbw.trans (hal.mono hbw.size)).trans (hb3.mono (hbw.trans (hal.mono hbw.size)).size)
  clear hown hR2 hbw hs hal hb3
  go_wp2_with (with_reducible refine stop_store ?_)
  refine at_store_blk aggG rfl rfl (by rw [bv_length, hlr]) (by rfl) hR3 (bv_one' _) ?_
  intro hB2
  go_wp2_with fail
  exact ret_blk rfl aggG rfl (by rw [bv_length, hlr]) hB2 rfl ⟨rfl, below_setRow hbw3 (by omega) _⟩
end Go.Proofs.YtedegedceeefdaaDoor

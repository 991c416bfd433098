/- Parts of the proof: Hc. -/
import Derived.Test.YtedegedceeefdaaDoorJHA
import Derived.Deep.RegionWith
import Derived.Laws.Cover3
set_option linter.all false
set_option linter.unusedVariables false
set_option linter.unusedSimpArgs false
set_option linter.unnecessarySimpa false
set_option linter.deprecated false
/-! Walks: package hash, the compression of one block. -/
namespace Go.Cw
open Go.RowKit
/-- A package-level variable's cells, as far as they are told. -/
def Tab (w : World) (g : Nat) (cs : List Value) : Prop := ∀ (j : Nat) (v : Value), cs[j]? = some v → w.cell? ⟨g, j, none⟩ = some v
theorem below_alloc (w : World) (o : Obj) : Below w.heap.size w (w.alloc o) := (Below.refl _ w).alloc (Nat.le_refl _) o
theorem Tab.lt {w : World} {g : Nat} {cs : List Value} (h : Tab w g cs) {v : Value} (hv : cs[0]? = some v) : g < w.heap.size := by
  have := h 0 v hv
  rcases Nat.lt_or_ge g w.heap.size with h2 | h2
  · exact h2
  · simp [World.cell?, Array.getElem?_eq_none h2] at this
theorem Tab.below {w w' : World} {g B : Nat} {cs : List Value} (h : Tab w g cs) (hb : Below B w w') (hlt : g < B) : Tab w' g cs := fun j v hv => by
  rw [hb.cell hlt]; exact h j v hv
theorem run_index_int {P : Program} {w : World} {t e : TypeId} {n : Nat} {k k' : IntKind} (ht : P.underlying t = some (.array n e)) (he : P.underlying e = some (.int k')) (hs : (P.info? e).map (·.size) = some 1)
    {cs : List Value} {j : Nat} {v : Value} (hv : cs[j]? = some v) (hj : j < n) : (Instr.index t (.agg cs.toArray) (.int k (j : Int))).run P w = .ok v w := by
  have hb : 0 ≤ (j : Int) ∧ (j : Int) < (n : Int) := by omega
  have hp := run_underlying (P := P) (w := w) he
  cases hi : P.info? e with
  | none => rw [hi] at hs; cases hs
  | some i =>
    rw [hi] at hs
    simp only [Option.map_some, Option.some.injEq] at hs
    simp [Instr.index, run_underlying ht, asIntOf, hb, sizeOf, typeInfo, hi, hs, part, isAgg, hp, hv, hj]
end Go.Cw
namespace Go.Proofs.YtedegedceeefdaaDoor
open Go.RowKit Go.Cw Cu
set_option maxRecDepth 100000
set_option maxHeartbeats 8000000
set_option linter.unusedVariables false
set_option linter.unusedSimpArgs false
theorem undV : Tryd.prog.underlying 218 = some (.array 4 182) := by kernel_rfl
theorem undW : Tryd.prog.underlying 212 = some (.array 64 182) := by kernel_rfl
theorem mix_same (x i j k : Nat) (ni nj nk : Int) (hni : ni = (i : Int)) (hnj : nj = (j : Int)) (hnk : nk = (k : Int)) (hi : i < 32) (hi0 : 0 < i) (hj : j < 32) (hj0 : 0 < j) (hk : k < 32) (hk0 : 0 < k) (hx : x < 4294967296) (w : World) :
    Calls Tryd.prog 189 #[.int .u32 x, .int .i64 ni, .int .i64 nj, .int .i64 nk] w fun e w' => e = .returned (.int .u32 (mix3 x i j k : Int)) ∧ w' = w :=
  (mix_any x i j k ni nj nk hni hnj hnk hi hi0 hj hj0 hk hk0 hx w).mono fun _ _ ⟨h1, h2⟩ => ⟨h1, h2.symm⟩
theorem aggS : AggT Tryd.prog 183 8 := ⟨by kernel_rfl, by kernel_rfl⟩
theorem aggV : AggT Tryd.prog 218 4 := ⟨by kernel_rfl, by kernel_rfl⟩
theorem hash_compress (s : St) (hs : St.Lt s) (b : List UInt8) (hb : b.length = 64) (A : Option Addr) (c : Nat) (hc : 64 ≤ c) (w : World) (hrd : Rd w A 64 1 (bv b)) (ht : Tab w 4 (uv ks)) :
    Calls Tryd.prog 177 #[.agg (uv s.list).toArray, .slice A 64 c] w fun e w' => e = .returned (.agg (uv (compress s b).list).toArray) ∧ Below w.heap.size w w' := by
  generalize hres : (compress s b).list = res
  have Hres := Shut.mk hres
  clear hres
  go_enter Tryd.func177, Tryd.ntmps177
  go_wp2_with fail
  have hA := below_alloc w (.cells (uv s.list).toArray 183)
  have hB := below_alloc (w.alloc (.cells (uv s.list).toArray 183)) (.cells (uv [0,0,0,0,0,0,0,0]).toArray 183)
  have hz : (w.alloc (.cells (uv s.list).toArray 183)).heap.size = w.heap.size + 1 := by simp
  have hb1 : Blk ((w.alloc (.cells (uv s.list).toArray 183)).alloc (.cells (uv [0,0,0,0,0,0,0,0]).toArray 183)) w.heap.size 183 (uv s.list) := (Blk.new w _ _).alloc _
  have hb2 := Blk.new (w.alloc (.cells (uv s.list).toArray 183)) 183 (uv [0,0,0,0,0,0,0,0])
  rw [hz] at hb2 hB
  have hbw : Below w.heap.size w ((w.alloc (.cells (uv s.list).toArray 183)).alloc (.cells (uv [0,0,0,0,0,0,0,0]).toArray 183)) := hA.trans (hB.mono (by omega))
  have hz2 : ((w.alloc (.cells (uv s.list).toArray 183)).alloc (.cells (uv [0,0,0,0,0,0,0,0]).toArray 183)).heap.size = w.heap.size + 2 := by simp
  clear hA hB hz
  change Calls _ _ _ ((w.alloc (.cells (uv s.list).toArray 183)).alloc (.cells (uv [0,0,0,0,0,0,0,0]).toArray 183)) _
  generalize ((w.alloc (.cells (uv s.list).toArray 183)).alloc (.cells (uv [0,0,0,0,0,0,0,0]).toArray 183)) = w1 at *
  have hsl : (sched b).length = 64 := sched_length b hb
  have hsch := hash_schedule b hb A c hc w1 (hrd.below hbw)
  have hkey := Shut.mk (rfl : sched b = sched b)
  generalize hws : sched b = ws at hsch hsl
  have Hws := Shut.mk hws
  clear hws hkey
  have hlen : (uv ws).length = 64 := by rw [uv_length, hsl]
  refine hsch.mono ?_
  clear hsch
  rintro e w2 ⟨rfl, hw2⟩
  rw [hz2] at hw2
  have HB1 := Shut.mk (hb1.below_at hw2 (by omega))
  have HB2 := Shut.mk (hb2.below_at hw2 (by omega))
  have hbw2 := hbw.trans (hw2.mono (by omega))
  clear hb1 hb2 hw2 hbw
  go_wp2_with (first | (with_reducible refine stop_store ?_))
  have hW := Blk.new w2 212 (uv (schL b 0 0))
  have hal := below_alloc w2 (.cells (uv (schL b 0 0)).toArray 212)
  change StopAt _ _ _ _ _ _ (w2.alloc (.cells (uv (schL b 0 0)).toArray 212))
  have hsz3 : w.heap.size + 2 ≤ w2.heap.size := by have := HB2.out.lt; omega
  have hz3 : (w2.alloc (.cells (uv (schL b 0 0)).toArray 212)).heap.size = w2.heap.size + 1 := by simp
  generalize w2.alloc (.cells (uv (schL b 0 0)).toArray 212) = w3 at *
  refine at_store_blk aggW rfl rfl hlen (by rfl) hW (uv_one _) ?_
  intro hW4
  have HB14 := Shut.mk (HB1.out.below_at (hal.trans (below_setRow (Below.refl _ w3) (Nat.le_refl _) (uv ws).toArray)) (by omega))
  have HB24 := Shut.mk (HB2.out.below_at (hal.trans (below_setRow (Below.refl _ w3) (Nat.le_refl _) (uv ws).toArray)) (by omega))
  have hbw4 := hbw2.trans ((hal.trans (below_setRow (Below.refl _ w3) (Nat.le_refl _) (uv ws).toArray)).mono (by omega))
  have hz4 : (w3.setRow w2.heap.size (uv ws).toArray).heap.size = w2.heap.size + 1 := by rw [size_setRow, hz3]
  generalize w3.setRow w2.heap.size (uv ws).toArray = w4 at *
  have HW4 := Shut.mk hW4
  clear hW hal hz3 HB1 HB2 hbw2 hW4
  generalize w2.heap.size = W at *
  have c0 := HB14.out.cell (j := 0) (v := .int .u32 s.a) rfl
  have c1 := HB14.out.cell (j := 1) (v := .int .u32 s.b) rfl
  have c2 := HB14.out.cell (j := 2) (v := .int .u32 s.c) rfl
  have c3 := HB14.out.cell (j := 3) (v := .int .u32 s.d) rfl
  have c4 := HB14.out.cell (j := 4) (v := .int .u32 s.e) rfl
  have c5 := HB14.out.cell (j := 5) (v := .int .u32 s.f) rfl
  have c6 := HB14.out.cell (j := 6) (v := .int .u32 s.g) rfl
  have c7 := HB14.out.cell (j := 7) (v := .int .u32 s.h) rfl
  go_wp2_with fail
  have hat0 : ∀ w' : World, (Instr.arrayAt 218 (.slice (some ⟨w.heap.size, 0, none⟩) 4 8)).run Tryd.prog w' = .ok (.pointer (some ⟨w.heap.size, 0, none⟩)) w' := fun w' => run_arrayAt w' _ _ 4 _ 4 8 undV (by omega)
  have hat4 : ∀ w' : World, (Instr.arrayAt 218 (.slice (some ⟨w.heap.size, 4, none⟩) 4 4)).run Tryd.prog w' = .ok (.pointer (some ⟨w.heap.size, 4, none⟩)) w' := fun w' => run_arrayAt w' _ _ 4 _ 4 4 undV (by omega)
  have hca : ∀ (o : Obj) (j : Nat), (w4.alloc o).cell? ⟨w.heap.size, j, none⟩ = w4.cell? ⟨w.heap.size, j, none⟩ := fun o j => (below_alloc w4 o).cell (by simp; omega)
  have hcb : ∀ (o o' : Obj) (j : Nat), ((w4.alloc o).alloc o').cell? ⟨w.heap.size, j, none⟩ = w4.cell? ⟨w.heap.size, j, none⟩ := fun o o' j => ((below_alloc w4 o).trans ((below_alloc (w4.alloc o) o').mono (by simp))).cell (by simp; omega)
  go_region
  all_goals clear c0 c1 c2 c3 c4 c5 c6 c7 hat0 hat4 hca hcb
  have hV := (Blk.new w4 218 (uv [s.a, s.b, s.c, s.d])).alloc (.cells (uv [s.e, s.f, s.g, s.h]).toArray 218)
  have hE := Blk.new (w4.alloc (.cells (uv [s.a, s.b, s.c, s.d]).toArray 218)) 218 (uv [s.e, s.f, s.g, s.h])
  have hz5 : (w4.alloc (.cells (uv [s.a, s.b, s.c, s.d]).toArray 218)).heap.size = W + 1 + 1 := by simp [hz4]
  have hb5 := (below_alloc w4 (.cells (uv [s.a, s.b, s.c, s.d]).toArray 218)).trans ((below_alloc _ (.cells (uv [s.e, s.f, s.g, s.h]).toArray 218)).mono (by simp))
  rw [hz5] at hE
  rw [hz4] at hV
  change Exit.then _ _ _ _ ((w4.alloc (.cells (uv [s.a, s.b, s.c, s.d]).toArray 218)).alloc (.cells (uv [s.e, s.f, s.g, s.h]).toArray 218)).drew
  generalize hw5 : (w4.alloc (.cells (uv [s.a, s.b, s.c, s.d]).toArray 218)).alloc (.cells (uv [s.e, s.f, s.g, s.h]).toArray 218) = w5 at *
  have hgV : W < W + 1 := by omega
  have hgE : W < W + 1 + 1 := by omega
  have hne : W + 1 ≠ W + 1 + 1 := by omega
  generalize W + 1 + 1 = gE at *
  generalize W + 1 = gV at *
  rotate_left
  have hE := (Blk.new w4 218 (uv [s.e, s.f, s.g, s.h])).alloc (.cells (uv [s.a, s.b, s.c, s.d]).toArray 218)
  have hV := Blk.new (w4.alloc (.cells (uv [s.e, s.f, s.g, s.h]).toArray 218)) 218 (uv [s.a, s.b, s.c, s.d])
  have hz5 : (w4.alloc (.cells (uv [s.e, s.f, s.g, s.h]).toArray 218)).heap.size = W + 1 + 1 := by simp [hz4]
  have hb5 := (below_alloc w4 (.cells (uv [s.e, s.f, s.g, s.h]).toArray 218)).trans ((below_alloc _ (.cells (uv [s.a, s.b, s.c, s.d]).toArray 218)).mono (by simp))
  rw [hz5] at hV
  rw [hz4] at hE
  change Exit.then _ _ _ _ ((w4.alloc (.cells (uv [s.e, s.f, s.g, s.h]).toArray 218)).alloc (.cells (uv [s.a, s.b, s.c, s.d]).toArray 218)).drew
  generalize hw5 : (w4.alloc (.cells (uv [s.e, s.f, s.g, s.h]).toArray 218)).alloc (.cells (uv [s.a, s.b, s.c, s.d]).toArray 218) = w5 at *
  have hgV : W < W + 1 + 1 := by omega
  have hgE : W < W + 1 := by omega
  have hne : W + 1 + 1 ≠ W + 1 := by omega
  generalize W + 1 + 1 = gV at *
  generalize W + 1 = gE at *
  rotate_left
  all_goals (
    clear hw5 hz5
    have hbD : Below w4.heap.size w4 w5.drew := hb5.trans (Drw.below ⟨1, rfl⟩)
    have HV := Shut.mk (hV.drw (w1 := w5.drew) ⟨1, rfl⟩)
    have HE := Shut.mk (hE.drw (w1 := w5.drew) ⟨1, rfl⟩)
    have HB5 := Shut.mk (HB14.out.below_at hbD (by omega))
    have HC5 := Shut.mk (HB24.out.below_at hbD (by omega))
    have HW5 := Shut.mk (HW4.out.below_at hbD (by omega))
    have hbw5 := hbw4.trans (hbD.mono (by omega))
    clear hb5 hbD hV hE HB14 HB24 HW4 hbw4 hz4
    generalize w5.drew = w6 at *
    clear w5
    revert HV HE HB5 HC5 HW5 hbw5 hgV hgE hne w6 gV gE)
  refine ?one
  rotate_left
  exact fun gV hgV gE hgE => ?one gE hgE gV hgV
  intro gE hgE gV hgV hne w6 HV HE HB5 HC5 HW5 hbw5
  go_wp2_with (with_reducible refine stop_load ?_)
  have hg : 4 < w.heap.size := ht.lt rfl
  have ht6 := ht.below hbw5 hg
  refine at_load_agg (g := 4) (o := 0) (cs := uv ks) aggW rfl rfl (fun j v hj => by rw [Nat.zero_add]; exact ht6 j v hj) ?_
  clear ht6
  have hks : ks.length = 64 := rfl
  have hkt : ∀ x ∈ ks, x < 4294967296 := by decide +kernel
  have hwt : ∀ x ∈ ws, x < 4294967296 := by rw [← Hws.out]; exact sched_lt b
  generalize hkk : ks = kk at *
  have HKK := Shut.mk hkk
  clear hkk
  go_wp2_with fail
  go_loopw [22] (fun i wr => ∃ (t : Nat) (r : St), t ≤ 64 ∧ i = .int .i64 t ∧ Shut (r = rounds (kk.take t) (ws.take t) s) ∧ Shut (St.Lt r) ∧ Shut (Blk wr gV 218 (uv [r.a, r.b, r.c, r.d])) ∧ Shut (Blk wr gE 218 (uv [r.e, r.f, r.g, r.h])) ∧
      Shut (Blk wr w.heap.size 183 (uv s.list)) ∧ Shut (Blk wr (w.heap.size + 1) 183 (uv [0, 0, 0, 0, 0, 0, 0, 0])) ∧ Shut (Blk wr W 212 (uv ws)) ∧ Below w.heap.size w wr) (fun i _ => 64 - (intOf i).toNat)
  case atStart => exact ⟨0, s, by omega, rfl, ⟨by simp [rounds]⟩, ⟨hs⟩, HV, HE, HB5, HC5, HW5, hbw5⟩
  case round =>
    clear HV HE HB5 HC5 HW5 hbw5
    obtain ⟨t, r, ht64, rfl, Hr, HL, HV, HE, HB, HC, HW, hbw⟩ := hrel
    by_cases h64 : t < 64
    · obtain ⟨k, hk⟩ : ∃ k, kk[t]? = some k := ⟨_, List.getElem?_eq_getElem (by omega)⟩
      obtain ⟨x, hx⟩ : ∃ x, ws[t]? = some x := ⟨_, List.getElem?_eq_getElem (by omega)⟩
      have hkl := hkt k (List.mem_of_getElem? hk)
      have hxl := hwt x (List.mem_of_getElem? hx)
      have v0 := HV.out.cell (j := 0) (v := .int .u32 r.a) rfl
      have v1 := HV.out.cell (j := 1) (v := .int .u32 r.b) rfl
      have v2 := HV.out.cell (j := 2) (v := .int .u32 r.c) rfl
      have v3 := HV.out.cell (j := 3) (v := .int .u32 r.d) rfl
      have e0 := HE.out.cell (j := 0) (v := .int .u32 r.e) rfl
      have e1 := HE.out.cell (j := 1) (v := .int .u32 r.f) rfl
      have e2 := HE.out.cell (j := 2) (v := .int .u32 r.g) rfl
      have e3 := HE.out.cell (j := 3) (v := .int .u32 r.h) rfl
      have cw := HW.out.cell (j := t) (v := .int .u32 x) (by simp [uv, hx])
      have la : r.a < 4294967296 := HL.out _ (by simp [St.list])
      have le : r.e < 4294967296 := HL.out _ (by simp [St.list])
      have LA := Shut.mk la
      have LE := Shut.mk le
      clear la le
      go_wp2_with (with_reducible refine stop_index ?_)
      refine at_index_run (run_index_int (j := t) (cs := uv kk) (v := .int .u32 k) undW (by kernel_rfl : Tryd.prog.underlying 182 = some (.int .u32)) (by kernel_rfl) (by simp [uv, hk]) h64) ?_
      have HKX := Shut.mk (And.intro hk hx)
      clear hk hx
      go_wp2_with fail
      go_quiet (first | (go_at_call 189; refine Calls.quiet_of_same (mix_same r.e 6 11 25 _ _ _ rfl rfl rfl (by omega) (by omega) (by omega) (by omega) (by omega) (by omega) LE.out _)))
      generalize hX : (((r.h : Int) + (mix3 r.e 6 11 25 : Int) + bits BinOp.xor IntKind.u32 (bits BinOp.and IntKind.u32 (r.e : Int) (r.f : Int)) (bits BinOp.and IntKind.u32 (bits BinOp.xor IntKind.u32 (if IntKind.u32.signed = true then -1 else IntKind.u32.max) (r.e : Int)) (r.g : Int)) + (k : Int)) % 4294967296 + (x : Int)) % 4294967296 = X
      have HX := Shut.mk hX
      clear hX
      go_wp2_with fail
      have hq : Drw wr (wr.drewN nq) := ⟨_, rfl⟩
      replace v0 : (wr.drewN nq).cell? _ = _ := v0
      replace v1 : (wr.drewN nq).cell? _ = _ := v1
      replace v2 : (wr.drewN nq).cell? _ = _ := v2
      replace v3 : (wr.drewN nq).cell? _ = _ := v3
      replace e0 : (wr.drewN nq).cell? _ = _ := e0
      replace e1 : (wr.drewN nq).cell? _ = _ := e1
      replace e2 : (wr.drewN nq).cell? _ = _ := e2
      clear e3 cw
      replace HV := Shut.mk (HV.out.drw hq)
      replace HE := Shut.mk (HE.out.drw hq)
      replace HB := Shut.mk (HB.out.drw hq)
      replace HC := Shut.mk (HC.out.drw hq)
      replace HW := Shut.mk (HW.out.drw hq)
      replace hbw := below_then hbw (Drw.below hq) hbw.size
      clear hq
      generalize wr.drewN nq = wq at *
      go_quiet (first | (go_at_call 189; refine Calls.quiet_of_same (mix_same r.a 2 13 22 _ _ _ rfl rfl rfl (by omega) (by omega) (by omega) (by omega) (by omega) (by omega) LA.out _)))
      generalize hY : ((mix3 r.a 2 13 22 : Int) + bits BinOp.xor IntKind.u32 (bits BinOp.xor IntKind.u32 (bits BinOp.and IntKind.u32 (r.a : Int) (r.b : Int)) (bits BinOp.and IntKind.u32 (r.a : Int) (r.c : Int))) (bits BinOp.and IntKind.u32 (r.b : Int) (r.c : Int))) % 4294967296 = Y
      have HY := Shut.mk hY
      clear hY
      clear v0 v1 v2 e0 e1 e2
      have hq : Drw wq (wq.drewN nq) := ⟨_, rfl⟩
      replace HV := Shut.mk (HV.out.drw hq)
      replace HE := Shut.mk (HE.out.drw hq)
      replace HB := Shut.mk (HB.out.drw hq)
      replace HC := Shut.mk (HC.out.drw hq)
      replace HW := Shut.mk (HW.out.drw hq)
      replace hbw := below_then hbw (Drw.below hq) hbw.size
      clear hq
      generalize wq.drewN nq = wx at *
      have v3 := HV.out.cell (j := 3) (v := .int .u32 r.d) rfl
      have e0 := HE.out.cell (j := 0) (v := .int .u32 r.e) rfl
      have e1 := HE.out.cell (j := 1) (v := .int .u32 r.f) rfl
      have e2 := HE.out.cell (j := 2) (v := .int .u32 r.g) rfl
      go_wp2_with (with_reducible refine stop_store ?_)
      refine at_store_blk aggV (vs := [.int .u32 (((r.d : Int) + X) % 4294967296), .int .u32 (r.e : Int), .int .u32 (r.f : Int), .int .u32 (r.g : Int)]) rfl rfl rfl (by rfl) HE.out (by simp [Value.oneCell']) ?_
      intro hE2
      rw [round_e r HL.out k x X HX.out] at hE2
      have hse := below_setRow (Below.refl w.heap.size wx) (show w.heap.size ≤ gE by omega) [.int .u32 (((r.d : Int) + X) % 4294967296), .int .u32 (r.e : Int), .int .u32 (r.f : Int), .int .u32 (r.g : Int)].toArray
      have hE3 : Blk (wx.setRow gE [.int .u32 (((r.d : Int) + X) % 4294967296), .int .u32 (r.e : Int), .int .u32 (r.f : Int), .int .u32 (r.g : Int)].toArray) gE 218 (uv [(round r k x).e, (round r k x).f, (round r k x).g, (round r k x).h]) := by
        rw [round_e r HL.out k x X HX.out]; exact hE2
      clear hE2
      replace HV := Shut.mk (HV.out.setRow_other (g' := gE) hne [.int .u32 (((r.d : Int) + X) % 4294967296), .int .u32 (r.e : Int), .int .u32 (r.f : Int), .int .u32 (r.g : Int)].toArray)
      replace HB := Shut.mk (HB.out.setRow_other (g' := gE) (by omega) [.int .u32 (((r.d : Int) + X) % 4294967296), .int .u32 (r.e : Int), .int .u32 (r.f : Int), .int .u32 (r.g : Int)].toArray)
      replace HC := Shut.mk (HC.out.setRow_other (g' := gE) (by omega) [.int .u32 (((r.d : Int) + X) % 4294967296), .int .u32 (r.e : Int), .int .u32 (r.f : Int), .int .u32 (r.g : Int)].toArray)
      replace HW := Shut.mk (HW.out.setRow_other (g' := gE) (by omega) [.int .u32 (((r.d : Int) + X) % 4294967296), .int .u32 (r.e : Int), .int .u32 (r.f : Int), .int .u32 (r.g : Int)].toArray)
      replace hbw := hbw.trans hse
      replace HE := Shut.mk hE3
      clear hE3 hse v3 e0 e1 e2
      generalize wx.setRow gE [.int .u32 (((r.d : Int) + X) % 4294967296), .int .u32 (r.e : Int), .int .u32 (r.f : Int), .int .u32 (r.g : Int)].toArray = wp at *
      have v0 := HV.out.cell (j := 0) (v := .int .u32 r.a) rfl
      have v1 := HV.out.cell (j := 1) (v := .int .u32 r.b) rfl
      have v2 := HV.out.cell (j := 2) (v := .int .u32 r.c) rfl
      go_wp2_with (with_reducible refine stop_store ?_)
      refine at_store_blk aggV (vs := [.int .u32 ((X + Y) % 4294967296), .int .u32 (r.a : Int), .int .u32 (r.b : Int), .int .u32 (r.c : Int)]) rfl rfl rfl (by rfl) HV.out (by simp [Value.oneCell']) ?_
      intro hV2
      have hsv := below_setRow (Below.refl w.heap.size wp) (show w.heap.size ≤ gV by omega) [.int .u32 ((X + Y) % 4294967296), .int .u32 (r.a : Int), .int .u32 (r.b : Int), .int .u32 (r.c : Int)].toArray
      have hV3 : Blk (wp.setRow gV [.int .u32 ((X + Y) % 4294967296), .int .u32 (r.a : Int), .int .u32 (r.b : Int), .int .u32 (r.c : Int)].toArray) gV 218 (uv [(round r k x).a, (round r k x).b, (round r k x).c, (round r k x).d]) := by
        rw [round_a r HL.out k x X Y HX.out HY.out] at hV2 ⊢; exact hV2
      clear hV2
      replace HE := Shut.mk (HE.out.setRow_other (g' := gV) (Ne.symm hne) [.int .u32 ((X + Y) % 4294967296), .int .u32 (r.a : Int), .int .u32 (r.b : Int), .int .u32 (r.c : Int)].toArray)
      replace HB := Shut.mk (HB.out.setRow_other (g' := gV) (by omega) [.int .u32 ((X + Y) % 4294967296), .int .u32 (r.a : Int), .int .u32 (r.b : Int), .int .u32 (r.c : Int)].toArray)
      replace HC := Shut.mk (HC.out.setRow_other (g' := gV) (by omega) [.int .u32 ((X + Y) % 4294967296), .int .u32 (r.a : Int), .int .u32 (r.b : Int), .int .u32 (r.c : Int)].toArray)
      replace HW := Shut.mk (HW.out.setRow_other (g' := gV) (by omega) [.int .u32 ((X + Y) % 4294967296), .int .u32 (r.a : Int), .int .u32 (r.b : Int), .int .u32 (r.c : Int)].toArray)
      replace hbw := hbw.trans hsv
      replace HV := Shut.mk hV3
      clear hV3 hsv v0 v1 v2
      generalize wp.setRow gV [.int .u32 ((X + Y) % 4294967296), .int .u32 (r.a : Int), .int .u32 (r.b : Int), .int .u32 (r.c : Int)].toArray = wo at *
      go_wp2_with fail
      go_roundw
      case rel =>
        refine ⟨t + 1, round r k x, by omega, by go_num, ⟨?_⟩, ⟨round_lt r HL.out k x⟩, HV, HE, HB, HC, HW, hbw⟩
        rw [rounds_next kk ws hks hsl t k x h64 HKX.out.1 HKX.out.2, ← Hr.out]
      case measure => simp [intOf]; omega
    · have : t = 64 := by omega
      subst this
      have Hr2 : Shut (r = rounds kk ws s) := ⟨by have h := Hr.out; rwa [List.take_of_length_le (by omega), List.take_of_length_le (by omega)] at h⟩
      clear Hr
      go_wp2_with (with_reducible refine stop_load ?_)
      have HB0 : Blk wr w.heap.size 183 (uv (sumL s r 0)) := HB.out
      replace HB := Shut.mk HB0
      clear HB0 HW
      go_loopw [94] (fun i wr => ∃ n : Nat, n ≤ 4 ∧ i = .int .i64 n ∧ Shut (Blk wr gV 218 (uv [r.a, r.b, r.c, r.d])) ∧ Shut (Blk wr gE 218 (uv [r.e, r.f, r.g, r.h])) ∧
        Shut (Blk wr w.heap.size 183 (uv (sumL s r n))) ∧ Shut (Blk wr (w.heap.size + 1) 183 (uv [0, 0, 0, 0, 0, 0, 0, 0])) ∧ Below w.heap.size w wr) (fun i _ => 4 - (intOf i).toNat)
      case atStart => exact ⟨0, by omega, rfl, HV, HE, HB, HC, hbw⟩
      case round =>
        clear HV HE HB HC hbw
        obtain ⟨n, hn, rfl, HV, HE, HB, HC, hbw⟩ := hrel
        by_cases hn4 : n < 4
        · obtain ⟨va, hva, hvl⟩ : ∃ va, (uv [r.a, r.b, r.c, r.d])[n]? = some (.int .u32 (va : Nat)) ∧ va = [r.a, r.b, r.c, r.d].getD n 0 := by
            obtain rfl | rfl | rfl | rfl : n = 0 ∨ n = 1 ∨ n = 2 ∨ n = 3 := by omega
            all_goals exact ⟨_, rfl, rfl⟩
          obtain ⟨ve, hve, hel⟩ : ∃ ve, (uv [r.e, r.f, r.g, r.h])[n]? = some (.int .u32 (ve : Nat)) ∧ ve = [r.e, r.f, r.g, r.h].getD n 0 := by
            obtain rfl | rfl | rfl | rfl : n = 0 ∨ n = 1 ∨ n = 2 ∨ n = 3 := by omega
            all_goals exact ⟨_, rfl, rfl⟩
          obtain ⟨sa, hsa, hsl2⟩ : ∃ sa, (uv (sumL s r n))[n]? = some (.int .u32 (sa : Nat)) ∧ sa = [s.a, s.b, s.c, s.d].getD n 0 := by
            obtain rfl | rfl | rfl | rfl : n = 0 ∨ n = 1 ∨ n = 2 ∨ n = 3 := by omega
            all_goals exact ⟨_, rfl, rfl⟩
          obtain ⟨se, hse, hsl4⟩ : ∃ se, (uv (sumL s r n))[n + 4]? = some (.int .u32 (se : Nat)) ∧ se = [s.e, s.f, s.g, s.h].getD n 0 := by
            obtain rfl | rfl | rfl | rfl : n = 0 ∨ n = 1 ∨ n = 2 ∨ n = 3 := by omega
            all_goals exact ⟨_, rfl, rfl⟩
          have hset : ((uv (sumL s r n)).set n (.int .u32 ((add32 sa va : Nat) : Int))).set (n + 4) (.int .u32 ((add32 se ve : Nat) : Int)) = uv (sumL s r (n + 1)) := by
            subst hvl hel hsl2 hsl4
            obtain rfl | rfl | rfl | rfl : n = 0 ∨ n = 1 ∨ n = 2 ∨ n = 3 := by omega
            all_goals rfl
          have hkeep : ((uv (sumL s r n)).set n (.int .u32 ((add32 sa va : Nat) : Int)))[n + 4]? = some (.int .u32 (se : Nat)) := by
            rw [List.getElem?_set_ne (by omega)]; exact hse
          have HSET := Shut.mk hset
          clear hset hvl hel hsl2 hsl4 hse
          have cv := HV.out.cell hva
          have ce := HE.out.cell hve
          have cs := HB.out.cell hsa
          have fs := HB.out.free n
          have HKE := Shut.mk (And.intro hkeep hve)
          clear hva hve hsa hkeep ce
          have e4 : IntKind.i64.wrap ((n : Int) + 4) = (n : Int) + 4 := IntWalk.i64_in _ (by omega)
          have n4 : ((n : Int) + 4).toNat = n + 4 := by omega
          have l4 : (n : Int) < 4 := by omega
          have l8 : (n : Int) < 8 := by omega
          have E4 := Shut.mk e4
          have N4 := Shut.mk n4
          clear e4 n4
          go_wp2_with fail
          go_region
          rw [show ((sa : Int) + (va : Int)) % 4294967296 = ((add32 sa va : Nat) : Int) by unfold add32; omega]
          have hdq : Drw (wr.setCell ⟨w.heap.size, n, none⟩ (.int .u32 ((add32 sa va : Nat) : Int))) (wr.setCell ⟨w.heap.size, n, none⟩ (.int .u32 ((add32 sa va : Nat) : Int))).drew := ⟨1, rfl⟩
          replace HV := Shut.mk ((HV.out.other (g' := w.heap.size) (by omega) n (.int .u32 ((add32 sa va : Nat) : Int))).drw hdq)
          replace HE := Shut.mk ((HE.out.other (g' := w.heap.size) (by omega) n (.int .u32 ((add32 sa va : Nat) : Int))).drw hdq)
          replace HC := Shut.mk ((HC.out.other (g' := w.heap.size) (by omega) n (.int .u32 ((add32 sa va : Nat) : Int))).drw hdq)
          replace HB := Shut.mk ((HB.out.set n (.int .u32 ((add32 sa va : Nat) : Int))).drw hdq)
          replace hbw := below_then (hbw.setCell (p := ⟨w.heap.size, n, none⟩) (by simp) (.int .u32 ((add32 sa va : Nat) : Int))) (Drw.below hdq) (by have := hbw.size; simpa [World.setCell] using this)
          clear hdq cv cs fs
          generalize (wr.setCell ⟨w.heap.size, n, none⟩ (.int .u32 ((add32 sa va : Nat) : Int))).drew = wm at *
          have ce := HE.out.cell HKE.out.2
          have cs := HB.out.cell HKE.out.1
          have fs := HB.out.free (n + 4)
          go_wp2_with fail
          have e4 := E4.out
          have n4 := N4.out
          have b4 : (0 : Int) ≤ (n : Int) + 4 := by omega
          have l48 : (n : Int) + 4 < 8 := by omega
          go_region
          rw [show ((se : Int) + (ve : Int)) % 4294967296 = ((add32 se ve : Nat) : Int) by unfold add32; omega]
          have hdq : Drw (wm.setCell ⟨w.heap.size, n + 4, none⟩ (.int .u32 ((add32 se ve : Nat) : Int))) (wm.setCell ⟨w.heap.size, n + 4, none⟩ (.int .u32 ((add32 se ve : Nat) : Int))).drew := ⟨1, rfl⟩
          replace HV := Shut.mk ((HV.out.other (g' := w.heap.size) (by omega) (n + 4) (.int .u32 ((add32 se ve : Nat) : Int))).drw hdq)
          replace HE := Shut.mk ((HE.out.other (g' := w.heap.size) (by omega) (n + 4) (.int .u32 ((add32 se ve : Nat) : Int))).drw hdq)
          replace HC := Shut.mk ((HC.out.other (g' := w.heap.size) (by omega) (n + 4) (.int .u32 ((add32 se ve : Nat) : Int))).drw hdq)
          replace HB := Shut.mk ((HB.out.set (n + 4) (.int .u32 ((add32 se ve : Nat) : Int))).drw hdq)
          replace hbw := below_then (hbw.setCell (p := ⟨w.heap.size, n + 4, none⟩) (by simp) (.int .u32 ((add32 se ve : Nat) : Int))) (Drw.below hdq) (by have := hbw.size; simpa [World.setCell] using this)
          clear hdq ce cs fs e4 n4 b4 l48
          generalize (wm.setCell ⟨w.heap.size, n + 4, none⟩ (.int .u32 ((add32 se ve : Nat) : Int))).drew = wl at *
          go_wp2_with fail
          refine ⟨⟨n + 1, by omega, by go_num, HV, HE, ⟨?_⟩, HC, hbw⟩, by simp [intOf]; omega⟩
          rw [← HSET.out]
          exact HB.out
        · obtain rfl : n = 4 := by omega
          have hres : sumL s r 4 = res := by
            rw [← Hres.out, Hr2.out, ← HKK.out, ← Hws.out, sumL_end]
            unfold compress
            rfl
          have HRS := Shut.mk hres
          clear hres
          go_wp2_with (first | (with_reducible refine stop_load ?_) | (with_reducible refine stop_store ?_))
          refine at_load_blk aggS rfl (by rfl) HB.out ?_
          go_wp2_with (first | (with_reducible refine stop_load ?_) | (with_reducible refine stop_store ?_))
          refine at_store_blk aggS rfl rfl (by rfl) (by rfl) HC.out (uv_one _) ?_
          intro hB2
          go_wp2_with fail
          exact ret_blk rfl aggS rfl (by rfl) hB2 rfl ⟨by rw [HRS.out], below_setRow hbw (by omega) _⟩
end Go.Proofs.YtedegedceeefdaaDoor

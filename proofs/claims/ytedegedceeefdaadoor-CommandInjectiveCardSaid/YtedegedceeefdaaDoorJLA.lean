/- Parts of the proof: La. -/
import Derived.Test.YtedegedceeefdaaDoorJDD
import Derived.Test.YtedegedceeefdaaDoorJCF
import Derived.Test.YtedegedceeefdaaDoorJHD
set_option linter.all false
set_option linter.unusedVariables false
set_option linter.unusedSimpArgs false
set_option linter.unnecessarySimpa false
set_option linter.deprecated false
/-! Walks: custodylaw28, few and sanity. -/
namespace Go.Proofs.YtedegedceeefdaaDoor
open Go.RowKit Go.Cw Cu
set_option maxRecDepth 100000
set_option maxHeartbeats 2000000
set_option linter.unusedVariables false
set_option linter.unusedSimpArgs false
def c28 : Cmd := ⟨12, 5, 0, 0, 0, 0, [], []⟩
def o28 : Cmd := ⟨12, 5, 0, 0, 0, 1, [], []⟩
def e28 : List UInt8 := [129, 12, 129, 5, 128, 128, 128, 128, 128, 128]
theorem enc28 : encCmd c28 = e28 := by decide +kernel
theorem dec28 : decCmd e28 = .ok c28 := by kernel_rfl
theorem dec28e : decCmd [129] = .error 5 := by kernel_rfl
theorem kind28 : kindI [109, 101, 114, 103, 101] = 18 := by decide +kernel
theorem kind28n : kindI [110, 111, 116, 104, 105, 110, 103] = -1 := by decide +kernel
theorem name28 : nameOf 8 = [117, 110, 119, 114, 97, 112] := by decide +kernel
theorem name28n : nameOf 28 = [] := by decide +kernel
theorem check28 : check c28 = 0 := by decide +kernel
theorem check28o : check o28 = 1 := by decide +kernel
theorem dig28 : dig 7 [encCmd c28] ≠ dig 7 [encCmd o28] := by decide +kernel
theorem law28_few (c : Cmd) (A : Option Addr) (n cap : Nat) (w : World) (hd : c.data.length ≤ 9223372036854775807) :
    Calls Tryd.prog 21 #[.agg (cmdV c A n cap).toArray] w fun e w' => e = .returned (.bool (decide (c.data.length ≤ 3000) && decide (n ≤ 200))) ∧ Below w.heap.size w w' := by
  have hb0 := below_alloc w (.cells (cmdV c A n cap).toArray 24)
  have hB0 := Blk.new w 24 (cmdV c A n cap)
  have c6 := hB0.cell (j := 6) (v := .string ⟨c.data.toArray⟩) rfl
  have c7 := hB0.cell (j := 7) (v := .slice A n cap) rfl
  have e6 : (({ data := c.data.toArray } : ByteArray)).size = c.data.length := rfl
  by_cases h1 : c.data.length ≤ 3000
  · have hR : Shut (decide (c.data.length ≤ 3000) = true) := ⟨by simp [h1]⟩
    have g1 : decide ((c.data.length : Int) ≤ 3000) = true := by simp; omega
    have hI : Shut (decide ((n : Int) ≤ 200) = decide (n ≤ 200)) := ⟨by rw [Bool.eq_iff_iff]; simp; omega⟩
    go_enter Tryd.func21, Tryd.ntmps21
    go_wp2_with fail
    go_ret
    exact ⟨by rw [hR.out, Bool.true_and, ← hI.out]; rfl, hb0⟩
  · have hR : Shut (decide (c.data.length ≤ 3000) = false) := ⟨by simp [h1]⟩
    have g1 : decide ((c.data.length : Int) ≤ 3000) = false := by simp; omega
    go_enter Tryd.func21, Tryd.ntmps21
    go_wp2_with fail
    go_ret
    exact ⟨by rw [hR.out, Bool.false_and]; rfl, hb0⟩
theorem k_merge (w : World) (ht : Tab w 0 rowsV) : Calls Tryd.prog 23 #[.string ⟨#[109, 101, 114, 103, 101]⟩] w fun e w' => e = .returned (.tuple #[.int .i64 19, .bool true]) ∧ Below w.heap.size w w' := by
  refine (command_Kind [109, 101, 114, 103, 101] w ht).mono ?_
  rintro e w' ⟨rfl, hb⟩
  rw [kind28]; exact ⟨rfl, hb⟩
theorem k_nothing (w : World) (ht : Tab w 0 rowsV) : Calls Tryd.prog 23 #[.string ⟨#[110, 111, 116, 104, 105, 110, 103]⟩] w fun e w' => e = .returned (.tuple #[.int .i64 0, .bool false]) ∧ Below w.heap.size w w' := by
  refine (command_Kind [110, 111, 116, 104, 105, 110, 103] w ht).mono ?_
  rintro e w' ⟨rfl, hb⟩
  rw [kind28n]; exact ⟨rfl, hb⟩
theorem n_8 (w : World) (ht : Tab w 0 rowsV) : Calls Tryd.prog 25 #[.int .i64 8] w fun e w' => e = .returned (.string ⟨#[117, 110, 119, 114, 97, 112]⟩) ∧ w = w' := by
  refine (command_Name 8 ⟨by decide, by decide⟩ w ht).mono ?_
  rintro e w' ⟨rfl, hb⟩
  rw [name28]; exact ⟨rfl, hb⟩
theorem n_28 (w : World) (ht : Tab w 0 rowsV) : Calls Tryd.prog 25 #[.int .i64 28] w fun e w' => e = .returned (.string ⟨#[]⟩) ∧ w = w' := by
  refine (command_Name 28 ⟨by decide, by decide⟩ w ht).mono ?_
  rintro e w' ⟨rfl, hb⟩
  rw [name28n]; exact ⟨rfl, hb⟩
theorem rd_lt {w : World} {A : Option Addr} {n : Nat} {xs : List Value} (h : Rd w A n 1 xs) (hn : 0 < n) {g o : Nat} (e : A = some ⟨g, o, none⟩) : g < w.heap.size := by
  obtain ⟨g2, o2, e2, hc⟩ := h.cells hn
  have hl := h.len
  have := hc 0 _ (List.getElem?_eq_getElem (by omega))
  have hlt := World.block_lt_of_cell? w _ this
  rw [e] at e2
  injection e2 with e2
  injection e2 with e2
  subst e2
  exact hlt
theorem odd_set : (cmdV c28 none 0 0).set 5 (.int .i64 1) = cmdV o28 none 0 0 := rfl
theorem law28_sanity (w : World) (t1 : Tab w 0 rowsV) (t2 : Tab w 4 (uv ks)) (t3 : Tab w 1 (uv ks)) :
    Calls Tryd.prog 22 #[] w fun e w' => e = .returned (.bool true) ∧ Below w.heap.size w w' := by
  have p1 : 0 < w.heap.size := t1.lt rfl
  have p2 : 4 < w.heap.size := t2.lt rfl
  have p3 : 1 < w.heap.size := t3.lt rfl
  have T1 := Shut.mk t1
  have T2 := Shut.mk t2
  have T3 := Shut.mk t3
  clear t1 t2 t3
  have hnum : ∀ x ∈ nums c28, inI64 x := by intro x hx; simp [nums, c28] at hx; rcases hx with rfl | rfl | rfl <;> exact ⟨by decide, by decide⟩
  have hnumo : ∀ x ∈ nums o28, inI64 x := by intro x hx; simp [nums, o28] at hx; rcases hx with rfl | rfl | rfl | rfl <;> exact ⟨by decide, by decide⟩
  have HN := Shut.mk hnum
  have HNO := Shut.mk hnumo
  clear hnum hnumo
  go_enter Tryd.func22, Tryd.ntmps22
  go_wp2_with (with_reducible refine stop_store ?_)
  refine at_store_new aggC (vs := cmdV c28 none 0 0) rfl rfl rfl rfl (cmdV_one c28 none 0 0) ?_
  intro w1 hC1 hb1 hz1
  have HC1 := Shut.mk hC1
  clear hC1
  go_wp2_with (with_reducible refine stop_load (t := 24) ?_)
  refine at_load_blk aggC rfl rfl HC1.out ?_
  go_wp2_with fail
  refine (command_Encode c28 none 0 0 w1 (Rd.empty _ _ _) HN.out (by intro x hx; cases hx) (by decide) (by decide)).mono ?_
  rw [enc28]
  rintro e w2 ⟨B, b, rfl, hown, hb2⟩
  have HC2 := Shut.mk (HC1.out.below hb2)
  have hbw2 := hb1.trans (hb2.mono hb1.size)
  have HE2 := Shut.mk (own_Rd hown)
  have hcapb := own_cap hown
  clear hb2 hown HC1 hb1
  go_wp2_with fail
  refine (command_Decode e28 B e28.length b w2 HE2.out hcapb (by decide) (T1.out.below hbw2 p1)).mono ?_
  rintro e w3 ⟨hb3, hpost⟩
  rw [dec28] at hpost
  obtain ⟨D, dn, dc, rfl, hD⟩ := hpost
  obtain rfl : dn = 0 := by have := hD.len; simpa [iv, c28] using this.symm
  have HC3 := Shut.mk (HC2.out.below hb3)
  have HE3 := Shut.mk (HE2.out.below hb3)
  have hbw3 := hbw2.trans (hb3.mono hbw2.size)
  have HD3 := Shut.mk hD
  clear hb3 HC2 HE2 hbw2 hD
  go_wp2_with (with_reducible refine stop_store ?_)
  refine at_store_new aggC (vs := cmdV c28 D 0 dc) rfl rfl rfl rfl (cmdV_one c28 D 0 dc) ?_
  intro w4 hD4 hb4 hz4
  have HC4 := Shut.mk (HC3.out.below hb4)
  have HE4 := Shut.mk (HE3.out.below hb4)
  have hbw4 := hbw3.trans (hb4.mono hbw3.size)
  have HD4 := Shut.mk hD4
  have hg3 : w.heap.size < w3.heap.size := by have := HC3.out.lt; omega
  generalize w3.heap.size = g3 at *
  clear hb4 HC3 HE3 hbw3 hD4 HD3
  clear w3
  go_wp2_with fail
  have hal := below_alloc w4 (.cells (bv [129]).toArray 5)
  have hr := rd_new (w := w4) (cs := bv [129]) (e := 5) (fr := (0, 0)) 1 1 rfl (by omega)
  have hbw5 := hbw4.trans (hal.mono hbw4.size)
  have HC5 := Shut.mk (HC4.out.below hal)
  have HE5 := Shut.mk (HE4.out.below hal)
  have HD5 := Shut.mk (HD4.out.below hal)
  rw [hz4] at hr
  clear hal HC4 HE4 HD4 hbw4
  have HR := Shut.mk hr
  clear hr
  change Calls _ _ _ (w4.alloc (.cells (bv [129]).toArray 5)) _
  generalize w4.alloc (.cells (bv [129]).toArray 5) = w5 at *
  refine (command_Decode [129] (some ⟨g3 + 1, 0, none⟩) 1 1 w5 HR.out (by omega) (by decide) (T1.out.below hbw5 p1)).mono ?_
  clear HR
  rintro e w6 ⟨hb6, hpost⟩
  rw [dec28e] at hpost
  obtain rfl := hpost
  have HC6 := Shut.mk (HC5.out.below hb6)
  have HE6 := Shut.mk (HE5.out.below hb6)
  have HD6 := Shut.mk (HD5.out.below hb6)
  have hbw6 := hbw5.trans (hb6.mono hbw5.size)
  clear hb6 HC5 HE5 HD5 hbw5
  go_wp2_with (with_reducible refine stop_store ?_)
  refine at_store_new aggC (vs := cmdV zeroCmd none 0 0) rfl rfl rfl rfl (cmdV_one zeroCmd none 0 0) ?_
  intro w7 _ hb7 hz7
  have HC7 := Shut.mk (HC6.out.below hb7)
  have HE7 := Shut.mk (HE6.out.below hb7)
  have HD7 := Shut.mk (HD6.out.below hb7)
  have hbw7 := hbw6.trans (hb7.mono hbw6.size)
  clear hb7 HC6 HE6 HD6 hbw6
  clear hz7
  generalize w6.heap.size = g5 at *
  go_wp2_with fail
  refine (k_merge w7 (T1.out.below hbw7 p1)).mono ?_
  rintro e w8 ⟨rfl, hb8⟩
  have HC8 := Shut.mk (HC7.out.below hb8)
  have HE8 := Shut.mk (HE7.out.below hb8)
  have HD8 := Shut.mk (HD7.out.below hb8)
  have hbw8 := hbw7.trans (hb8.mono hbw7.size)
  clear hb8 HC7 HE7 HD7 hbw7
  go_wp2_with fail
  refine (k_nothing w8 (T1.out.below hbw8 p1)).mono ?_
  rintro e w9 ⟨rfl, hb9⟩
  have HC9 := Shut.mk (HC8.out.below hb9)
  have HE9 := Shut.mk (HE8.out.below hb9)
  have HD9 := Shut.mk (HD8.out.below hb9)
  have hbw9 := hbw8.trans (hb9.mono hbw8.size)
  clear hb9 HC8 HE8 HD8 hbw8
  go_wp2_with (with_reducible refine stop_load (t := 24) ?_)
  refine at_load_blk aggC rfl rfl HC9.out ?_
  have h9size := HD9.out.lt
  have HEG := Shut.mk (fun g o e => rd_lt HE9.out (by decide) (g := g) (o := o) e)
  go_wp2_with (with_reducible refine stop_store ?_)
  refine at_store_new aggC (vs := cmdV c28 none 0 0) rfl rfl rfl rfl (cmdV_one c28 none 0 0) ?_
  intro w10 hO10 hb10 hz10
  have HC10 := Shut.mk (HC9.out.below hb10)
  have HE10 := Shut.mk (HE9.out.below hb10)
  have HD10 := Shut.mk (HD9.out.below hb10)
  have hbw10 := hbw9.trans (hb10.mono hbw9.size)
  clear hb10 HC9 HE9 HD9 hbw9
  have hg9 : g3 < w9.heap.size := by have := h9size; omega
  have hgw : w.heap.size < w9.heap.size := by omega
  generalize w9.heap.size = g11 at *
  have k5 := hO10.cell (j := 5) (v := .int .i64 0) rfl
  have f5 := hO10.free 5
  have hO := hO10.set 5 (.int .i64 1)
  rw [odd_set] at hO
  have hgr := grown_set w10 g11 5 (.int .i64 1)
  have HO10 := Shut.mk hO
  clear hO hO10
  go_wp2_with fail
  have hbw11 := below_of_grown hbw10 hgr (by omega) hbw10.size
  have HC11 := Shut.mk (HC10.out.grown hgr (by omega))
  have HD11 := Shut.mk (HD10.out.grown hgr (by omega))
  have HE11 := Shut.mk (HE10.out.grown hgr (fun g o e _ h => by have := HEG.out g o e; injection h with h; omega))
  clear HC10 HD10 HE10 hbw10 hgr k5 f5 hz10
  have HO11 := HO10
  clear HO10
  generalize w10.setCell ⟨g11, 5, none⟩ (.int .i64 1) = w11 at *
  have DNE := Shut.mk dig28
  refine wp_region_last 70 (fun i v w1 => (i = 1 → ∃ g, v = .slice (some ⟨g, 0, none⟩) 10 10 ∧ Rd w1 (some ⟨g, 0, none⟩) 10 1 (bv e28)) ∧ (i ≠ 1 → ([(.slice B e28.length b), undef, (.bool true), (.bool true), (.agg (cmdV c28 D 0 dc).toArray), (.agg (cmdV c28 none 0 0).toArray), (.bool true), (.bool true), (.bool true), (.int .i64 0), (.bool true), (.bool true), (.bool true), (.int .i64 5), (.bool true), (.bool true), (.bool true), (.int .i64 19), (.bool true), (.bool true), (.bool true), (.bool true), (.bool true), (.bool true), (.bool false), (.bool true), (.bool true), (.bool true), (.string ⟨#[117, 110, 119, 114, 97, 112]⟩), (.bool true), (.bool true), (.bool true), (.string ⟨#[]⟩), (.bool true), (.bool true), (.bool true), (.agg (cmdV c28 none 0 0).toArray), (.int .i64 0), (.bool true), (.bool true), (.bool true), (.agg (cmdV o28 none 0 0).toArray), (.int .i64 1), (.bool true), (.bool true), (.bool true), (.agg (cmdV c28 none 0 0).toArray), (.agg (cmdV c28 D 0 dc).toArray), (.bool true), (.bool true), (.bool true), (.agg (cmdV c28 none 0 0).toArray), (.agg (cmdV o28 none 0 0).toArray), (.bool false), (.bool true), (.bool true), (.bool true), (.agg (cmdV c28 none 0 0).toArray), (.agg (bv (dig 7 [encCmd c28])).toArray), (.agg (cmdV c28 none 0 0).toArray), (.agg (bv (dig 7 [encCmd c28])).toArray), (.bool true), (.bool true), (.bool true), (.agg (cmdV c28 none 0 0).toArray), (.agg (bv (dig 7 [encCmd c28])).toArray), (.agg (cmdV o28 none 0 0).toArray), (.agg (bv (dig 7 [encCmd o28])).toArray), (.bool true), (.bool true)] : List Value)[i]? = some v)) (by kernel_rfl) (by kernel_rfl) ?_ ?_ rfl (j := 69) (by decide) rfl ?_
  · intro i v w1 w2 hi h hb
    exact ⟨fun e => (by obtain ⟨g, e, hr⟩ := (h.1 e); exact ⟨g, e, hr.below hb⟩), h.2⟩
  · refine Steps.cons (fun a1 w1 hp => ?_) (Steps.cons (fun a1 w1 hp => ?_) (Steps.cons (fun a1 w1 hp => ?_) (Steps.cons (fun a1 w1 hp => ?_) (Steps.cons (fun a1 w1 hp => ?_) (Steps.cons (fun a1 w1 hp => ?_) (Steps.cons (fun a1 w1 hp => ?_) (Steps.cons (fun a1 w1 hp => ?_) (Steps.cons (fun a1 w1 hp => ?_) (Steps.cons (fun a1 w1 hp => ?_) (Steps.cons (fun a1 w1 hp => ?_) (Steps.cons (fun a1 w1 hp => ?_) (Steps.cons (fun a1 w1 hp => ?_) (Steps.cons (fun a1 w1 hp => ?_) (Steps.cons (fun a1 w1 hp => ?_) (Steps.cons (fun a1 w1 hp => ?_) (Steps.cons (fun a1 w1 hp => ?_) (Steps.cons (fun a1 w1 hp => ?_) (Steps.cons (fun a1 w1 hp => ?_) (Steps.cons (fun a1 w1 hp => ?_) (Steps.cons (fun a1 w1 hp => ?_) (Steps.cons (fun a1 w1 hp => ?_) (Steps.cons (fun a1 w1 hp => ?_) (Steps.cons (fun a1 w1 hp => ?_) (Steps.cons (fun a1 w1 hp => ?_) (Steps.cons (fun a1 w1 hp => ?_) (Steps.cons (fun a1 w1 hp => ?_) (Steps.cons (fun a1 w1 hp => ?_) (Steps.cons (fun a1 w1 hp => ?_) (Steps.cons (fun a1 w1 hp => ?_) (Steps.cons (fun a1 w1 hp => ?_) (Steps.cons (fun a1 w1 hp => ?_) (Steps.cons (fun a1 w1 hp => ?_) (Steps.cons (fun a1 w1 hp => ?_) (Steps.cons (fun a1 w1 hp => ?_) (Steps.cons (fun a1 w1 hp => ?_) (Steps.cons (fun a1 w1 hp => ?_) (Steps.cons (fun a1 w1 hp => ?_) (Steps.cons (fun a1 w1 hp => ?_) (Steps.cons (fun a1 w1 hp => ?_) (Steps.cons (fun a1 w1 hp => ?_) (Steps.cons (fun a1 w1 hp => ?_) (Steps.cons (fun a1 w1 hp => ?_) (Steps.cons (fun a1 w1 hp => ?_) (Steps.cons (fun a1 w1 hp => ?_) (Steps.cons (fun a1 w1 hp => ?_) (Steps.cons (fun a1 w1 hp => ?_) (Steps.cons (fun a1 w1 hp => ?_) (Steps.cons (fun a1 w1 hp => ?_) (Steps.cons (fun a1 w1 hp => ?_) (Steps.cons (fun a1 w1 hp => ?_) (Steps.cons (fun a1 w1 hp => ?_) (Steps.cons (fun a1 w1 hp => ?_) (Steps.cons (fun a1 w1 hp => ?_) (Steps.cons (fun a1 w1 hp => ?_) (Steps.cons (fun a1 w1 hp => ?_) (Steps.cons (fun a1 w1 hp => ?_) (Steps.cons (fun a1 w1 hp => ?_) (Steps.cons (fun a1 w1 hp => ?_) (Steps.cons (fun a1 w1 hp => ?_) (Steps.cons (fun a1 w1 hp => ?_) (Steps.cons (fun a1 w1 hp => ?_) (Steps.cons (fun a1 w1 hp => ?_) (Steps.cons (fun a1 w1 hp => ?_) (Steps.cons (fun a1 w1 hp => ?_) (Steps.cons (fun a1 w1 hp => ?_) (Steps.cons (fun a1 w1 hp => ?_) (Steps.cons (fun a1 w1 hp => ?_) (Steps.cons (fun a1 w1 hp => ?_) (Steps.cons (fun a1 w1 hp => ?_) (Steps.nil))))))))))))))))))))))))))))))))))))))))))))))))))))))))))))))))))))))
    · have e2 : a1.eval (.tmp 2) = (.slice B e28.length b) := hp.same 2 (by kernel_rfl)
      exact step_move e2 ⟨⟨fun h => absurd h (by decide), fun _ => rfl⟩, Below.refl _ _⟩
    · exact step_sliceN eltB (vs := bv e28) (cs := bv e28) (by decide) (by decide) rfl rfl (by rw [Array.toList_map]; rfl) (by decide) rfl ⟨⟨fun _ => ⟨_, rfl, rd_new 10 1 rfl (by omega)⟩, fun h => absurd rfl h⟩, below_alloc _ _⟩
    · have e35 : a1.eval (.tmp 35) = (.slice B e28.length b) := got_inj ((hp.got 0 (by kernel_rfl) 35 (by kernel_rfl)).2 (by decide)) rfl
      obtain ⟨g, e36, hr⟩ := (hp.got 1 (by kernel_rfl) 36 (by kernel_rfl)).1 (by rfl)
      refine step_call Tryd.call29 (by simp only [List.map_toArray, List.map_cons, List.map_nil, e35, e36]) ((to_val (v' := (.bool true)) (ref01_Same e28 e28 B (some ⟨g, 0, none⟩) e28.length 10 b 10 (by decide) (by decide) w1 (HE11.out.below hp.below) hr) (by simp)).mono ?_)
      rintro e w2 ⟨rfl, hb⟩
      exact ⟨_, rfl, ⟨fun h => absurd h (by decide), fun _ => rfl⟩, hb⟩
    · have e37 : a1.eval (.tmp 37) = (.bool true) := got_inj ((hp.got 2 (by kernel_rfl) 37 (by kernel_rfl)).2 (by decide)) rfl
      exact step_move e37 ⟨⟨fun h => absurd h (by decide), fun _ => rfl⟩, Below.refl _ _⟩
    · have e38 : a1.eval (.tmp 38) = (.bool true) := got_inj ((hp.got 3 (by kernel_rfl) 38 (by kernel_rfl)).2 (by decide)) rfl
      refine step_guard rfl (t := 38) rfl (c := true) e38 (fun _ => ?_) (fun h => absurd rfl h)
      have e3 : a1.eval (.tmp 3) = (.pointer (some ⟨g3, 0, none⟩)) := hp.same 3 (by kernel_rfl)
      exact step_load_blk aggC e3 rfl (HD11.out.below hp.below) ⟨⟨fun h => absurd h (by decide), fun _ => rfl⟩, Below.refl _ _⟩
    · have e38 : a1.eval (.tmp 38) = (.bool true) := got_inj ((hp.got 3 (by kernel_rfl) 38 (by kernel_rfl)).2 (by decide)) rfl
      refine step_guard rfl (t := 38) rfl (c := true) e38 (fun _ => ?_) (fun h => absurd rfl h)
      have e1 : a1.eval (.tmp 1) = (.pointer (some ⟨w.heap.size, 0, none⟩)) := hp.same 1 (by kernel_rfl)
      exact step_load_blk aggC e1 rfl (HC11.out.below hp.below) ⟨⟨fun h => absurd h (by decide), fun _ => rfl⟩, Below.refl _ _⟩
    · have e38 : a1.eval (.tmp 38) = (.bool true) := got_inj ((hp.got 3 (by kernel_rfl) 38 (by kernel_rfl)).2 (by decide)) rfl
      refine step_guard rfl (t := 38) rfl (c := true) e38 (fun _ => ?_) (fun h => absurd rfl h)
      have e39 : a1.eval (.tmp 39) = (.agg (cmdV c28 D 0 dc).toArray) := got_inj ((hp.got 4 (by kernel_rfl) 39 (by kernel_rfl)).2 (by decide)) rfl
      have e40 : a1.eval (.tmp 40) = (.agg (cmdV c28 none 0 0).toArray) := got_inj ((hp.got 5 (by kernel_rfl) 40 (by kernel_rfl)).2 (by decide)) rfl
      refine step_call Tryd.call35 (by simp only [List.map_toArray, List.map_cons, List.map_nil, e39, e40]) ((to_val (v' := (.bool true)) (ref28_Same c28 c28 D none 0 0 dc 0 w1 (by omega) (by omega) (Rd.empty w1 D 1) (Rd.empty w1 none 1)) (by simp)).mono ?_)
      rintro e w2 ⟨rfl, hb⟩
      exact ⟨_, rfl, ⟨fun h => absurd h (by decide), fun _ => rfl⟩, hb⟩
    · have e38 : a1.eval (.tmp 38) = (.bool true) := got_inj ((hp.got 3 (by kernel_rfl) 38 (by kernel_rfl)).2 (by decide)) rfl
      have e41 : a1.eval (.tmp 41) = (.bool true) := got_inj ((hp.got 6 (by kernel_rfl) 41 (by kernel_rfl)).2 (by decide)) rfl
      have ec2 : a1.eval (.const (.bool false)) = (.bool false) := rfl
      exact step_pick e38 ((if_pos rfl).trans e41) ⟨⟨fun h => absurd h (by decide), fun _ => rfl⟩, Below.refl _ _⟩
    · have e42 : a1.eval (.tmp 42) = (.bool true) := got_inj ((hp.got 7 (by kernel_rfl) 42 (by kernel_rfl)).2 (by decide)) rfl
      exact step_move e42 ⟨⟨fun h => absurd h (by decide), fun _ => rfl⟩, Below.refl _ _⟩
    · have e43 : a1.eval (.tmp 43) = (.bool true) := got_inj ((hp.got 8 (by kernel_rfl) 43 (by kernel_rfl)).2 (by decide)) rfl
      refine step_guard rfl (t := 43) rfl (c := true) e43 (fun _ => ?_) (fun h => absurd rfl h)
      have e4 : a1.eval (.tmp 4) = (.int .i64 0) := hp.same 4 (by kernel_rfl)
      exact step_move e4 ⟨⟨fun h => absurd h (by decide), fun _ => rfl⟩, Below.refl _ _⟩
    · have e43 : a1.eval (.tmp 43) = (.bool true) := got_inj ((hp.got 8 (by kernel_rfl) 43 (by kernel_rfl)).2 (by decide)) rfl
      refine step_guard rfl (t := 43) rfl (c := true) e43 (fun _ => ?_) (fun h => absurd rfl h)
      have e44 : a1.eval (.tmp 44) = (.int .i64 0) := got_inj ((hp.got 9 (by kernel_rfl) 44 (by kernel_rfl)).2 (by decide)) rfl
      have ec2 : a1.eval (.const (.int .i64 0)) = (.int .i64 0) := rfl
      exact step_eq_int e44 ec2 (by kernel_rfl) (by decide) ⟨⟨fun h => absurd h (by decide), fun _ => rfl⟩, Below.refl _ _⟩
    · have e43 : a1.eval (.tmp 43) = (.bool true) := got_inj ((hp.got 8 (by kernel_rfl) 43 (by kernel_rfl)).2 (by decide)) rfl
      have e45 : a1.eval (.tmp 45) = (.bool true) := got_inj ((hp.got 10 (by kernel_rfl) 45 (by kernel_rfl)).2 (by decide)) rfl
      have ec2 : a1.eval (.const (.bool false)) = (.bool false) := rfl
      exact step_pick e43 ((if_pos rfl).trans e45) ⟨⟨fun h => absurd h (by decide), fun _ => rfl⟩, Below.refl _ _⟩
    · have e46 : a1.eval (.tmp 46) = (.bool true) := got_inj ((hp.got 11 (by kernel_rfl) 46 (by kernel_rfl)).2 (by decide)) rfl
      exact step_move e46 ⟨⟨fun h => absurd h (by decide), fun _ => rfl⟩, Below.refl _ _⟩
    · have e47 : a1.eval (.tmp 47) = (.bool true) := got_inj ((hp.got 12 (by kernel_rfl) 47 (by kernel_rfl)).2 (by decide)) rfl
      refine step_guard rfl (t := 47) rfl (c := true) e47 (fun _ => ?_) (fun h => absurd rfl h)
      have e6 : a1.eval (.tmp 6) = (.int .i64 5) := hp.same 6 (by kernel_rfl)
      exact step_move e6 ⟨⟨fun h => absurd h (by decide), fun _ => rfl⟩, Below.refl _ _⟩
    · have e47 : a1.eval (.tmp 47) = (.bool true) := got_inj ((hp.got 12 (by kernel_rfl) 47 (by kernel_rfl)).2 (by decide)) rfl
      refine step_guard rfl (t := 47) rfl (c := true) e47 (fun _ => ?_) (fun h => absurd rfl h)
      have e48 : a1.eval (.tmp 48) = (.int .i64 5) := got_inj ((hp.got 13 (by kernel_rfl) 48 (by kernel_rfl)).2 (by decide)) rfl
      have ec2 : a1.eval (.const (.int .i64 5)) = (.int .i64 5) := rfl
      exact step_eq_int e48 ec2 (by kernel_rfl) (by decide) ⟨⟨fun h => absurd h (by decide), fun _ => rfl⟩, Below.refl _ _⟩
    · have e47 : a1.eval (.tmp 47) = (.bool true) := got_inj ((hp.got 12 (by kernel_rfl) 47 (by kernel_rfl)).2 (by decide)) rfl
      have e49 : a1.eval (.tmp 49) = (.bool true) := got_inj ((hp.got 14 (by kernel_rfl) 49 (by kernel_rfl)).2 (by decide)) rfl
      have ec2 : a1.eval (.const (.bool false)) = (.bool false) := rfl
      exact step_pick e47 ((if_pos rfl).trans e49) ⟨⟨fun h => absurd h (by decide), fun _ => rfl⟩, Below.refl _ _⟩
    · have e50 : a1.eval (.tmp 50) = (.bool true) := got_inj ((hp.got 15 (by kernel_rfl) 50 (by kernel_rfl)).2 (by decide)) rfl
      exact step_move e50 ⟨⟨fun h => absurd h (by decide), fun _ => rfl⟩, Below.refl _ _⟩
    · have e51 : a1.eval (.tmp 51) = (.bool true) := got_inj ((hp.got 16 (by kernel_rfl) 51 (by kernel_rfl)).2 (by decide)) rfl
      refine step_guard rfl (t := 51) rfl (c := true) e51 (fun _ => ?_) (fun h => absurd rfl h)
      have e7 : a1.eval (.tmp 7) = (.int .i64 19) := hp.same 7 (by kernel_rfl)
      exact step_move e7 ⟨⟨fun h => absurd h (by decide), fun _ => rfl⟩, Below.refl _ _⟩
    · have e51 : a1.eval (.tmp 51) = (.bool true) := got_inj ((hp.got 16 (by kernel_rfl) 51 (by kernel_rfl)).2 (by decide)) rfl
      refine step_guard rfl (t := 51) rfl (c := true) e51 (fun _ => ?_) (fun h => absurd rfl h)
      have e52 : a1.eval (.tmp 52) = (.int .i64 19) := got_inj ((hp.got 17 (by kernel_rfl) 52 (by kernel_rfl)).2 (by decide)) rfl
      have ec2 : a1.eval (.const (.int .i64 19)) = (.int .i64 19) := rfl
      exact step_eq_int e52 ec2 (by kernel_rfl) (by decide) ⟨⟨fun h => absurd h (by decide), fun _ => rfl⟩, Below.refl _ _⟩
    · have e51 : a1.eval (.tmp 51) = (.bool true) := got_inj ((hp.got 16 (by kernel_rfl) 51 (by kernel_rfl)).2 (by decide)) rfl
      have e53 : a1.eval (.tmp 53) = (.bool true) := got_inj ((hp.got 18 (by kernel_rfl) 53 (by kernel_rfl)).2 (by decide)) rfl
      have ec2 : a1.eval (.const (.bool false)) = (.bool false) := rfl
      exact step_pick e51 ((if_pos rfl).trans e53) ⟨⟨fun h => absurd h (by decide), fun _ => rfl⟩, Below.refl _ _⟩
    · have e54 : a1.eval (.tmp 54) = (.bool true) := got_inj ((hp.got 19 (by kernel_rfl) 54 (by kernel_rfl)).2 (by decide)) rfl
      exact step_move e54 ⟨⟨fun h => absurd h (by decide), fun _ => rfl⟩, Below.refl _ _⟩
    · have e55 : a1.eval (.tmp 55) = (.bool true) := got_inj ((hp.got 20 (by kernel_rfl) 55 (by kernel_rfl)).2 (by decide)) rfl
      refine step_guard rfl (t := 55) rfl (c := true) e55 (fun _ => ?_) (fun h => absurd rfl h)
      have e8 : a1.eval (.tmp 8) = (.bool true) := hp.same 8 (by kernel_rfl)
      exact step_move e8 ⟨⟨fun h => absurd h (by decide), fun _ => rfl⟩, Below.refl _ _⟩
    · have e55 : a1.eval (.tmp 55) = (.bool true) := got_inj ((hp.got 20 (by kernel_rfl) 55 (by kernel_rfl)).2 (by decide)) rfl
      have e56 : a1.eval (.tmp 56) = (.bool true) := got_inj ((hp.got 21 (by kernel_rfl) 56 (by kernel_rfl)).2 (by decide)) rfl
      have ec2 : a1.eval (.const (.bool false)) = (.bool false) := rfl
      exact step_pick e55 ((if_pos rfl).trans e56) ⟨⟨fun h => absurd h (by decide), fun _ => rfl⟩, Below.refl _ _⟩
    · have e57 : a1.eval (.tmp 57) = (.bool true) := got_inj ((hp.got 22 (by kernel_rfl) 57 (by kernel_rfl)).2 (by decide)) rfl
      exact step_move e57 ⟨⟨fun h => absurd h (by decide), fun _ => rfl⟩, Below.refl _ _⟩
    · have e58 : a1.eval (.tmp 58) = (.bool true) := got_inj ((hp.got 23 (by kernel_rfl) 58 (by kernel_rfl)).2 (by decide)) rfl
      refine step_guard rfl (t := 58) rfl (c := true) e58 (fun _ => ?_) (fun h => absurd rfl h)
      have e10 : a1.eval (.tmp 10) = (.bool false) := hp.same 10 (by kernel_rfl)
      exact step_move e10 ⟨⟨fun h => absurd h (by decide), fun _ => rfl⟩, Below.refl _ _⟩
    · have e58 : a1.eval (.tmp 58) = (.bool true) := got_inj ((hp.got 23 (by kernel_rfl) 58 (by kernel_rfl)).2 (by decide)) rfl
      refine step_guard rfl (t := 58) rfl (c := true) e58 (fun _ => ?_) (fun h => absurd rfl h)
      have e59 : a1.eval (.tmp 59) = (.bool false) := got_inj ((hp.got 24 (by kernel_rfl) 59 (by kernel_rfl)).2 (by decide)) rfl
      exact step_not e59 ⟨⟨fun h => absurd h (by decide), fun _ => rfl⟩, Below.refl _ _⟩
    · have e58 : a1.eval (.tmp 58) = (.bool true) := got_inj ((hp.got 23 (by kernel_rfl) 58 (by kernel_rfl)).2 (by decide)) rfl
      have e60 : a1.eval (.tmp 60) = (.bool true) := got_inj ((hp.got 25 (by kernel_rfl) 60 (by kernel_rfl)).2 (by decide)) rfl
      have ec2 : a1.eval (.const (.bool false)) = (.bool false) := rfl
      exact step_pick e58 ((if_pos rfl).trans e60) ⟨⟨fun h => absurd h (by decide), fun _ => rfl⟩, Below.refl _ _⟩
    · have e61 : a1.eval (.tmp 61) = (.bool true) := got_inj ((hp.got 26 (by kernel_rfl) 61 (by kernel_rfl)).2 (by decide)) rfl
      exact step_move e61 ⟨⟨fun h => absurd h (by decide), fun _ => rfl⟩, Below.refl _ _⟩
    · have e62 : a1.eval (.tmp 62) = (.bool true) := got_inj ((hp.got 27 (by kernel_rfl) 62 (by kernel_rfl)).2 (by decide)) rfl
      refine step_guard rfl (t := 62) rfl (c := true) e62 (fun _ => ?_) (fun h => absurd rfl h)
      have ec1 : a1.eval (.const (.int .i64 8)) = (.int .i64 8) := rfl
      refine step_call Tryd.call25 (by simp only [List.map_toArray, List.map_cons, List.map_nil, ec1]) ((n_8 w1 (T1.out.below (hbw11.trans (hp.below.mono hbw11.size)) p1)).mono ?_)
      rintro e w2 ⟨rfl, rfl⟩
      exact ⟨_, rfl, ⟨⟨fun h => absurd h (by decide), fun _ => rfl⟩, Below.refl _ _⟩⟩
    · have e62 : a1.eval (.tmp 62) = (.bool true) := got_inj ((hp.got 27 (by kernel_rfl) 62 (by kernel_rfl)).2 (by decide)) rfl
      refine step_guard rfl (t := 62) rfl (c := true) e62 (fun _ => ?_) (fun h => absurd rfl h)
      have e63 : a1.eval (.tmp 63) = (.string ⟨#[117, 110, 119, 114, 97, 112]⟩) := got_inj ((hp.got 28 (by kernel_rfl) 63 (by kernel_rfl)).2 (by decide)) rfl
      have ec2 : a1.eval (.const (.string ⟨#[117, 110, 119, 114, 97, 112]⟩)) = (.string ⟨#[117, 110, 119, 114, 97, 112]⟩) := rfl
      exact step_eq_str e63 ec2 (by decide) ⟨⟨fun h => absurd h (by decide), fun _ => rfl⟩, Below.refl _ _⟩
    · have e62 : a1.eval (.tmp 62) = (.bool true) := got_inj ((hp.got 27 (by kernel_rfl) 62 (by kernel_rfl)).2 (by decide)) rfl
      have e64 : a1.eval (.tmp 64) = (.bool true) := got_inj ((hp.got 29 (by kernel_rfl) 64 (by kernel_rfl)).2 (by decide)) rfl
      have ec2 : a1.eval (.const (.bool false)) = (.bool false) := rfl
      exact step_pick e62 ((if_pos rfl).trans e64) ⟨⟨fun h => absurd h (by decide), fun _ => rfl⟩, Below.refl _ _⟩
    · have e65 : a1.eval (.tmp 65) = (.bool true) := got_inj ((hp.got 30 (by kernel_rfl) 65 (by kernel_rfl)).2 (by decide)) rfl
      exact step_move e65 ⟨⟨fun h => absurd h (by decide), fun _ => rfl⟩, Below.refl _ _⟩
    · have e66 : a1.eval (.tmp 66) = (.bool true) := got_inj ((hp.got 31 (by kernel_rfl) 66 (by kernel_rfl)).2 (by decide)) rfl
      refine step_guard rfl (t := 66) rfl (c := true) e66 (fun _ => ?_) (fun h => absurd rfl h)
      have ec1 : a1.eval (.const (.int .i64 28)) = (.int .i64 28) := rfl
      refine step_call Tryd.call25 (by simp only [List.map_toArray, List.map_cons, List.map_nil, ec1]) ((n_28 w1 (T1.out.below (hbw11.trans (hp.below.mono hbw11.size)) p1)).mono ?_)
      rintro e w2 ⟨rfl, rfl⟩
      exact ⟨_, rfl, ⟨⟨fun h => absurd h (by decide), fun _ => rfl⟩, Below.refl _ _⟩⟩
    · have e66 : a1.eval (.tmp 66) = (.bool true) := got_inj ((hp.got 31 (by kernel_rfl) 66 (by kernel_rfl)).2 (by decide)) rfl
      refine step_guard rfl (t := 66) rfl (c := true) e66 (fun _ => ?_) (fun h => absurd rfl h)
      have e67 : a1.eval (.tmp 67) = (.string ⟨#[]⟩) := got_inj ((hp.got 32 (by kernel_rfl) 67 (by kernel_rfl)).2 (by decide)) rfl
      have ec2 : a1.eval (.const (.string ⟨#[]⟩)) = (.string ⟨#[]⟩) := rfl
      exact step_eq_str e67 ec2 (by decide) ⟨⟨fun h => absurd h (by decide), fun _ => rfl⟩, Below.refl _ _⟩
    · have e66 : a1.eval (.tmp 66) = (.bool true) := got_inj ((hp.got 31 (by kernel_rfl) 66 (by kernel_rfl)).2 (by decide)) rfl
      have e68 : a1.eval (.tmp 68) = (.bool true) := got_inj ((hp.got 33 (by kernel_rfl) 68 (by kernel_rfl)).2 (by decide)) rfl
      have ec2 : a1.eval (.const (.bool false)) = (.bool false) := rfl
      exact step_pick e66 ((if_pos rfl).trans e68) ⟨⟨fun h => absurd h (by decide), fun _ => rfl⟩, Below.refl _ _⟩
    · have e69 : a1.eval (.tmp 69) = (.bool true) := got_inj ((hp.got 34 (by kernel_rfl) 69 (by kernel_rfl)).2 (by decide)) rfl
      exact step_move e69 ⟨⟨fun h => absurd h (by decide), fun _ => rfl⟩, Below.refl _ _⟩
    · have e70 : a1.eval (.tmp 70) = (.bool true) := got_inj ((hp.got 35 (by kernel_rfl) 70 (by kernel_rfl)).2 (by decide)) rfl
      refine step_guard rfl (t := 70) rfl (c := true) e70 (fun _ => ?_) (fun h => absurd rfl h)
      have e1 : a1.eval (.tmp 1) = (.pointer (some ⟨w.heap.size, 0, none⟩)) := hp.same 1 (by kernel_rfl)
      exact step_load_blk aggC e1 rfl (HC11.out.below hp.below) ⟨⟨fun h => absurd h (by decide), fun _ => rfl⟩, Below.refl _ _⟩
    · have e70 : a1.eval (.tmp 70) = (.bool true) := got_inj ((hp.got 35 (by kernel_rfl) 70 (by kernel_rfl)).2 (by decide)) rfl
      refine step_guard rfl (t := 70) rfl (c := true) e70 (fun _ => ?_) (fun h => absurd rfl h)
      have e71 : a1.eval (.tmp 71) = (.agg (cmdV c28 none 0 0).toArray) := got_inj ((hp.got 36 (by kernel_rfl) 71 (by kernel_rfl)).2 (by decide)) rfl
      refine step_call Tryd.call27 (by simp only [List.map_toArray, List.map_cons, List.map_nil, e71]) ((to_val (v' := (.int .i64 0)) (command_Check c28 none 0 0 w1 (Rd.empty w1 none 1) (by decide) ⟨by decide, by decide⟩ (T1.out.below (hbw11.trans (hp.below.mono hbw11.size)) p1)) (by simp [check28])).mono ?_)
      rintro e w2 ⟨rfl, hb⟩
      exact ⟨_, rfl, ⟨fun h => absurd h (by decide), fun _ => rfl⟩, hb⟩
    · have e70 : a1.eval (.tmp 70) = (.bool true) := got_inj ((hp.got 35 (by kernel_rfl) 70 (by kernel_rfl)).2 (by decide)) rfl
      refine step_guard rfl (t := 70) rfl (c := true) e70 (fun _ => ?_) (fun h => absurd rfl h)
      have e72 : a1.eval (.tmp 72) = (.int .i64 0) := got_inj ((hp.got 37 (by kernel_rfl) 72 (by kernel_rfl)).2 (by decide)) rfl
      have ec2 : a1.eval (.const (.int .i64 0)) = (.int .i64 0) := rfl
      exact step_eq_int e72 ec2 (by kernel_rfl) (by decide) ⟨⟨fun h => absurd h (by decide), fun _ => rfl⟩, Below.refl _ _⟩
    · have e70 : a1.eval (.tmp 70) = (.bool true) := got_inj ((hp.got 35 (by kernel_rfl) 70 (by kernel_rfl)).2 (by decide)) rfl
      have e73 : a1.eval (.tmp 73) = (.bool true) := got_inj ((hp.got 38 (by kernel_rfl) 73 (by kernel_rfl)).2 (by decide)) rfl
      have ec2 : a1.eval (.const (.bool false)) = (.bool false) := rfl
      exact step_pick e70 ((if_pos rfl).trans e73) ⟨⟨fun h => absurd h (by decide), fun _ => rfl⟩, Below.refl _ _⟩
    · have e74 : a1.eval (.tmp 74) = (.bool true) := got_inj ((hp.got 39 (by kernel_rfl) 74 (by kernel_rfl)).2 (by decide)) rfl
      exact step_move e74 ⟨⟨fun h => absurd h (by decide), fun _ => rfl⟩, Below.refl _ _⟩
    · have e75 : a1.eval (.tmp 75) = (.bool true) := got_inj ((hp.got 40 (by kernel_rfl) 75 (by kernel_rfl)).2 (by decide)) rfl
      refine step_guard rfl (t := 75) rfl (c := true) e75 (fun _ => ?_) (fun h => absurd rfl h)
      have e11 : a1.eval (.tmp 11) = (.pointer (some ⟨g11, 0, none⟩)) := hp.same 11 (by kernel_rfl)
      exact step_load_blk aggC e11 rfl (HO11.out.below hp.below) ⟨⟨fun h => absurd h (by decide), fun _ => rfl⟩, Below.refl _ _⟩
    · have e75 : a1.eval (.tmp 75) = (.bool true) := got_inj ((hp.got 40 (by kernel_rfl) 75 (by kernel_rfl)).2 (by decide)) rfl
      refine step_guard rfl (t := 75) rfl (c := true) e75 (fun _ => ?_) (fun h => absurd rfl h)
      have e76 : a1.eval (.tmp 76) = (.agg (cmdV o28 none 0 0).toArray) := got_inj ((hp.got 41 (by kernel_rfl) 76 (by kernel_rfl)).2 (by decide)) rfl
      refine step_call Tryd.call27 (by simp only [List.map_toArray, List.map_cons, List.map_nil, e76]) ((to_val (v' := (.int .i64 1)) (command_Check o28 none 0 0 w1 (Rd.empty w1 none 1) (by decide) ⟨by decide, by decide⟩ (T1.out.below (hbw11.trans (hp.below.mono hbw11.size)) p1)) (by simp [check28o])).mono ?_)
      rintro e w2 ⟨rfl, hb⟩
      exact ⟨_, rfl, ⟨fun h => absurd h (by decide), fun _ => rfl⟩, hb⟩
    · have e75 : a1.eval (.tmp 75) = (.bool true) := got_inj ((hp.got 40 (by kernel_rfl) 75 (by kernel_rfl)).2 (by decide)) rfl
      refine step_guard rfl (t := 75) rfl (c := true) e75 (fun _ => ?_) (fun h => absurd rfl h)
      have e77 : a1.eval (.tmp 77) = (.int .i64 1) := got_inj ((hp.got 42 (by kernel_rfl) 77 (by kernel_rfl)).2 (by decide)) rfl
      have ec2 : a1.eval (.const (.int .i64 1)) = (.int .i64 1) := rfl
      exact step_eq_int e77 ec2 (by kernel_rfl) (by decide) ⟨⟨fun h => absurd h (by decide), fun _ => rfl⟩, Below.refl _ _⟩
    · have e75 : a1.eval (.tmp 75) = (.bool true) := got_inj ((hp.got 40 (by kernel_rfl) 75 (by kernel_rfl)).2 (by decide)) rfl
      have e78 : a1.eval (.tmp 78) = (.bool true) := got_inj ((hp.got 43 (by kernel_rfl) 78 (by kernel_rfl)).2 (by decide)) rfl
      have ec2 : a1.eval (.const (.bool false)) = (.bool false) := rfl
      exact step_pick e75 ((if_pos rfl).trans e78) ⟨⟨fun h => absurd h (by decide), fun _ => rfl⟩, Below.refl _ _⟩
    · have e79 : a1.eval (.tmp 79) = (.bool true) := got_inj ((hp.got 44 (by kernel_rfl) 79 (by kernel_rfl)).2 (by decide)) rfl
      exact step_move e79 ⟨⟨fun h => absurd h (by decide), fun _ => rfl⟩, Below.refl _ _⟩
    · have e80 : a1.eval (.tmp 80) = (.bool true) := got_inj ((hp.got 45 (by kernel_rfl) 80 (by kernel_rfl)).2 (by decide)) rfl
      refine step_guard rfl (t := 80) rfl (c := true) e80 (fun _ => ?_) (fun h => absurd rfl h)
      have e1 : a1.eval (.tmp 1) = (.pointer (some ⟨w.heap.size, 0, none⟩)) := hp.same 1 (by kernel_rfl)
      exact step_load_blk aggC e1 rfl (HC11.out.below hp.below) ⟨⟨fun h => absurd h (by decide), fun _ => rfl⟩, Below.refl _ _⟩
    · have e80 : a1.eval (.tmp 80) = (.bool true) := got_inj ((hp.got 45 (by kernel_rfl) 80 (by kernel_rfl)).2 (by decide)) rfl
      refine step_guard rfl (t := 80) rfl (c := true) e80 (fun _ => ?_) (fun h => absurd rfl h)
      have e3 : a1.eval (.tmp 3) = (.pointer (some ⟨g3, 0, none⟩)) := hp.same 3 (by kernel_rfl)
      exact step_load_blk aggC e3 rfl (HD11.out.below hp.below) ⟨⟨fun h => absurd h (by decide), fun _ => rfl⟩, Below.refl _ _⟩
    · have e80 : a1.eval (.tmp 80) = (.bool true) := got_inj ((hp.got 45 (by kernel_rfl) 80 (by kernel_rfl)).2 (by decide)) rfl
      refine step_guard rfl (t := 80) rfl (c := true) e80 (fun _ => ?_) (fun h => absurd rfl h)
      have e81 : a1.eval (.tmp 81) = (.agg (cmdV c28 none 0 0).toArray) := got_inj ((hp.got 46 (by kernel_rfl) 81 (by kernel_rfl)).2 (by decide)) rfl
      have e82 : a1.eval (.tmp 82) = (.agg (cmdV c28 D 0 dc).toArray) := got_inj ((hp.got 47 (by kernel_rfl) 82 (by kernel_rfl)).2 (by decide)) rfl
      refine step_call Tryd.call34 (by simp only [List.map_toArray, List.map_cons, List.map_nil, e81, e82]) ((to_val (v' := (.bool true)) (command_Same c28 c28 none D 0 0 0 dc w1 (Rd.empty w1 none 1) (Rd.empty w1 D 1)) (by simp)).mono ?_)
      rintro e w2 ⟨rfl, hb⟩
      exact ⟨_, rfl, ⟨fun h => absurd h (by decide), fun _ => rfl⟩, hb⟩
    · have e80 : a1.eval (.tmp 80) = (.bool true) := got_inj ((hp.got 45 (by kernel_rfl) 80 (by kernel_rfl)).2 (by decide)) rfl
      have e83 : a1.eval (.tmp 83) = (.bool true) := got_inj ((hp.got 48 (by kernel_rfl) 83 (by kernel_rfl)).2 (by decide)) rfl
      have ec2 : a1.eval (.const (.bool false)) = (.bool false) := rfl
      exact step_pick e80 ((if_pos rfl).trans e83) ⟨⟨fun h => absurd h (by decide), fun _ => rfl⟩, Below.refl _ _⟩
    · have e84 : a1.eval (.tmp 84) = (.bool true) := got_inj ((hp.got 49 (by kernel_rfl) 84 (by kernel_rfl)).2 (by decide)) rfl
      exact step_move e84 ⟨⟨fun h => absurd h (by decide), fun _ => rfl⟩, Below.refl _ _⟩
    · have e85 : a1.eval (.tmp 85) = (.bool true) := got_inj ((hp.got 50 (by kernel_rfl) 85 (by kernel_rfl)).2 (by decide)) rfl
      refine step_guard rfl (t := 85) rfl (c := true) e85 (fun _ => ?_) (fun h => absurd rfl h)
      have e1 : a1.eval (.tmp 1) = (.pointer (some ⟨w.heap.size, 0, none⟩)) := hp.same 1 (by kernel_rfl)
      exact step_load_blk aggC e1 rfl (HC11.out.below hp.below) ⟨⟨fun h => absurd h (by decide), fun _ => rfl⟩, Below.refl _ _⟩
    · have e85 : a1.eval (.tmp 85) = (.bool true) := got_inj ((hp.got 50 (by kernel_rfl) 85 (by kernel_rfl)).2 (by decide)) rfl
      refine step_guard rfl (t := 85) rfl (c := true) e85 (fun _ => ?_) (fun h => absurd rfl h)
      have e11 : a1.eval (.tmp 11) = (.pointer (some ⟨g11, 0, none⟩)) := hp.same 11 (by kernel_rfl)
      exact step_load_blk aggC e11 rfl (HO11.out.below hp.below) ⟨⟨fun h => absurd h (by decide), fun _ => rfl⟩, Below.refl _ _⟩
    · have e85 : a1.eval (.tmp 85) = (.bool true) := got_inj ((hp.got 50 (by kernel_rfl) 85 (by kernel_rfl)).2 (by decide)) rfl
      refine step_guard rfl (t := 85) rfl (c := true) e85 (fun _ => ?_) (fun h => absurd rfl h)
      have e86 : a1.eval (.tmp 86) = (.agg (cmdV c28 none 0 0).toArray) := got_inj ((hp.got 51 (by kernel_rfl) 86 (by kernel_rfl)).2 (by decide)) rfl
      have e87 : a1.eval (.tmp 87) = (.agg (cmdV o28 none 0 0).toArray) := got_inj ((hp.got 52 (by kernel_rfl) 87 (by kernel_rfl)).2 (by decide)) rfl
      refine step_call Tryd.call34 (by simp only [List.map_toArray, List.map_cons, List.map_nil, e86, e87]) ((to_val (v' := (.bool false)) (command_Same c28 o28 none none 0 0 0 0 w1 (Rd.empty w1 none 1) (Rd.empty w1 none 1)) (by rw [show decide (c28 = o28) = false from by decide])).mono ?_)
      rintro e w2 ⟨rfl, hb⟩
      exact ⟨_, rfl, ⟨fun h => absurd h (by decide), fun _ => rfl⟩, hb⟩
    · have e85 : a1.eval (.tmp 85) = (.bool true) := got_inj ((hp.got 50 (by kernel_rfl) 85 (by kernel_rfl)).2 (by decide)) rfl
      refine step_guard rfl (t := 85) rfl (c := true) e85 (fun _ => ?_) (fun h => absurd rfl h)
      have e88 : a1.eval (.tmp 88) = (.bool false) := got_inj ((hp.got 53 (by kernel_rfl) 88 (by kernel_rfl)).2 (by decide)) rfl
      exact step_not e88 ⟨⟨fun h => absurd h (by decide), fun _ => rfl⟩, Below.refl _ _⟩
    · have e85 : a1.eval (.tmp 85) = (.bool true) := got_inj ((hp.got 50 (by kernel_rfl) 85 (by kernel_rfl)).2 (by decide)) rfl
      have e89 : a1.eval (.tmp 89) = (.bool true) := got_inj ((hp.got 54 (by kernel_rfl) 89 (by kernel_rfl)).2 (by decide)) rfl
      have ec2 : a1.eval (.const (.bool false)) = (.bool false) := rfl
      exact step_pick e85 ((if_pos rfl).trans e89) ⟨⟨fun h => absurd h (by decide), fun _ => rfl⟩, Below.refl _ _⟩
    · have e90 : a1.eval (.tmp 90) = (.bool true) := got_inj ((hp.got 55 (by kernel_rfl) 90 (by kernel_rfl)).2 (by decide)) rfl
      exact step_move e90 ⟨⟨fun h => absurd h (by decide), fun _ => rfl⟩, Below.refl _ _⟩
    · have e91 : a1.eval (.tmp 91) = (.bool true) := got_inj ((hp.got 56 (by kernel_rfl) 91 (by kernel_rfl)).2 (by decide)) rfl
      refine step_guard rfl (t := 91) rfl (c := true) e91 (fun _ => ?_) (fun h => absurd rfl h)
      have e1 : a1.eval (.tmp 1) = (.pointer (some ⟨w.heap.size, 0, none⟩)) := hp.same 1 (by kernel_rfl)
      exact step_load_blk aggC e1 rfl (HC11.out.below hp.below) ⟨⟨fun h => absurd h (by decide), fun _ => rfl⟩, Below.refl _ _⟩
    · have e91 : a1.eval (.tmp 91) = (.bool true) := got_inj ((hp.got 56 (by kernel_rfl) 91 (by kernel_rfl)).2 (by decide)) rfl
      refine step_guard rfl (t := 91) rfl (c := true) e91 (fun _ => ?_) (fun h => absurd rfl h)
      have e92 : a1.eval (.tmp 92) = (.agg (cmdV c28 none 0 0).toArray) := got_inj ((hp.got 57 (by kernel_rfl) 92 (by kernel_rfl)).2 (by decide)) rfl
      refine step_call Tryd.call32 (by simp only [List.map_toArray, List.map_cons, List.map_nil, e92]) ((command_Digest c28 none 0 0 w1 (Rd.empty w1 none 1) HN.out (by intro x hx; cases hx) (by decide) (by decide) (T2.out.below (hbw11.trans (hp.below.mono hbw11.size)) p2)).mono ?_)
      rintro e w2 ⟨rfl, hb⟩
      exact ⟨_, rfl, ⟨fun h => absurd h (by decide), fun _ => rfl⟩, hb⟩
    · have e91 : a1.eval (.tmp 91) = (.bool true) := got_inj ((hp.got 56 (by kernel_rfl) 91 (by kernel_rfl)).2 (by decide)) rfl
      refine step_guard rfl (t := 91) rfl (c := true) e91 (fun _ => ?_) (fun h => absurd rfl h)
      have e1 : a1.eval (.tmp 1) = (.pointer (some ⟨w.heap.size, 0, none⟩)) := hp.same 1 (by kernel_rfl)
      exact step_load_blk aggC e1 rfl (HC11.out.below hp.below) ⟨⟨fun h => absurd h (by decide), fun _ => rfl⟩, Below.refl _ _⟩
    · have e91 : a1.eval (.tmp 91) = (.bool true) := got_inj ((hp.got 56 (by kernel_rfl) 91 (by kernel_rfl)).2 (by decide)) rfl
      refine step_guard rfl (t := 91) rfl (c := true) e91 (fun _ => ?_) (fun h => absurd rfl h)
      have e94 : a1.eval (.tmp 94) = (.agg (cmdV c28 none 0 0).toArray) := got_inj ((hp.got 59 (by kernel_rfl) 94 (by kernel_rfl)).2 (by decide)) rfl
      refine step_call Tryd.call33 (by simp only [List.map_toArray, List.map_cons, List.map_nil, e94]) ((ref28_Digest c28 none 0 0 w1 (Rd.empty w1 none 1) HN.out (by intro x hx; cases hx) (by decide) (by decide) (T3.out.below (hbw11.trans (hp.below.mono hbw11.size)) p3)).mono ?_)
      rintro e w2 ⟨rfl, hb⟩
      exact ⟨_, rfl, ⟨fun h => absurd h (by decide), fun _ => rfl⟩, hb⟩
    · have e91 : a1.eval (.tmp 91) = (.bool true) := got_inj ((hp.got 56 (by kernel_rfl) 91 (by kernel_rfl)).2 (by decide)) rfl
      refine step_guard rfl (t := 91) rfl (c := true) e91 (fun _ => ?_) (fun h => absurd rfl h)
      have e93 : a1.eval (.tmp 93) = (.agg (bv (dig 7 [encCmd c28])).toArray) := got_inj ((hp.got 58 (by kernel_rfl) 93 (by kernel_rfl)).2 (by decide)) rfl
      have e95 : a1.eval (.tmp 95) = (.agg (bv (dig 7 [encCmd c28])).toArray) := got_inj ((hp.got 60 (by kernel_rfl) 95 (by kernel_rfl)).2 (by decide)) rfl
      exact step_eq_agg guard_digest e93 e95 (eq_digest_same _ (dig_length _ _) w1) ⟨⟨fun h => absurd h (by decide), fun _ => rfl⟩, Below.refl _ _⟩
    · have e91 : a1.eval (.tmp 91) = (.bool true) := got_inj ((hp.got 56 (by kernel_rfl) 91 (by kernel_rfl)).2 (by decide)) rfl
      have e96 : a1.eval (.tmp 96) = (.bool true) := got_inj ((hp.got 61 (by kernel_rfl) 96 (by kernel_rfl)).2 (by decide)) rfl
      have ec2 : a1.eval (.const (.bool false)) = (.bool false) := rfl
      exact step_pick e91 ((if_pos rfl).trans e96) ⟨⟨fun h => absurd h (by decide), fun _ => rfl⟩, Below.refl _ _⟩
    · have e97 : a1.eval (.tmp 97) = (.bool true) := got_inj ((hp.got 62 (by kernel_rfl) 97 (by kernel_rfl)).2 (by decide)) rfl
      exact step_move e97 ⟨⟨fun h => absurd h (by decide), fun _ => rfl⟩, Below.refl _ _⟩
    · have e98 : a1.eval (.tmp 98) = (.bool true) := got_inj ((hp.got 63 (by kernel_rfl) 98 (by kernel_rfl)).2 (by decide)) rfl
      refine step_guard rfl (t := 98) rfl (c := true) e98 (fun _ => ?_) (fun h => absurd rfl h)
      have e1 : a1.eval (.tmp 1) = (.pointer (some ⟨w.heap.size, 0, none⟩)) := hp.same 1 (by kernel_rfl)
      exact step_load_blk aggC e1 rfl (HC11.out.below hp.below) ⟨⟨fun h => absurd h (by decide), fun _ => rfl⟩, Below.refl _ _⟩
    · have e98 : a1.eval (.tmp 98) = (.bool true) := got_inj ((hp.got 63 (by kernel_rfl) 98 (by kernel_rfl)).2 (by decide)) rfl
      refine step_guard rfl (t := 98) rfl (c := true) e98 (fun _ => ?_) (fun h => absurd rfl h)
      have e99 : a1.eval (.tmp 99) = (.agg (cmdV c28 none 0 0).toArray) := got_inj ((hp.got 64 (by kernel_rfl) 99 (by kernel_rfl)).2 (by decide)) rfl
      refine step_call Tryd.call32 (by simp only [List.map_toArray, List.map_cons, List.map_nil, e99]) ((command_Digest c28 none 0 0 w1 (Rd.empty w1 none 1) HN.out (by intro x hx; cases hx) (by decide) (by decide) (T2.out.below (hbw11.trans (hp.below.mono hbw11.size)) p2)).mono ?_)
      rintro e w2 ⟨rfl, hb⟩
      exact ⟨_, rfl, ⟨fun h => absurd h (by decide), fun _ => rfl⟩, hb⟩
    · have e98 : a1.eval (.tmp 98) = (.bool true) := got_inj ((hp.got 63 (by kernel_rfl) 98 (by kernel_rfl)).2 (by decide)) rfl
      refine step_guard rfl (t := 98) rfl (c := true) e98 (fun _ => ?_) (fun h => absurd rfl h)
      have e11 : a1.eval (.tmp 11) = (.pointer (some ⟨g11, 0, none⟩)) := hp.same 11 (by kernel_rfl)
      exact step_load_blk aggC e11 rfl (HO11.out.below hp.below) ⟨⟨fun h => absurd h (by decide), fun _ => rfl⟩, Below.refl _ _⟩
    · have e98 : a1.eval (.tmp 98) = (.bool true) := got_inj ((hp.got 63 (by kernel_rfl) 98 (by kernel_rfl)).2 (by decide)) rfl
      refine step_guard rfl (t := 98) rfl (c := true) e98 (fun _ => ?_) (fun h => absurd rfl h)
      have e101 : a1.eval (.tmp 101) = (.agg (cmdV o28 none 0 0).toArray) := got_inj ((hp.got 66 (by kernel_rfl) 101 (by kernel_rfl)).2 (by decide)) rfl
      refine step_call Tryd.call32 (by simp only [List.map_toArray, List.map_cons, List.map_nil, e101]) ((command_Digest o28 none 0 0 w1 (Rd.empty w1 none 1) HNO.out (by intro x hx; cases hx) (by decide) (by decide) (T2.out.below (hbw11.trans (hp.below.mono hbw11.size)) p2)).mono ?_)
      rintro e w2 ⟨rfl, hb⟩
      exact ⟨_, rfl, ⟨fun h => absurd h (by decide), fun _ => rfl⟩, hb⟩
    · have e98 : a1.eval (.tmp 98) = (.bool true) := got_inj ((hp.got 63 (by kernel_rfl) 98 (by kernel_rfl)).2 (by decide)) rfl
      refine step_guard rfl (t := 98) rfl (c := true) e98 (fun _ => ?_) (fun h => absurd rfl h)
      have e100 : a1.eval (.tmp 100) = (.agg (bv (dig 7 [encCmd c28])).toArray) := got_inj ((hp.got 65 (by kernel_rfl) 100 (by kernel_rfl)).2 (by decide)) rfl
      have e102 : a1.eval (.tmp 102) = (.agg (bv (dig 7 [encCmd o28])).toArray) := got_inj ((hp.got 67 (by kernel_rfl) 102 (by kernel_rfl)).2 (by decide)) rfl
      exact step_neq_agg guard_digest e100 e102 (eq_digest_ne _ _ (dig_length _ _) (dig_length _ _) DNE.out w1) ⟨⟨fun h => absurd h (by decide), fun _ => rfl⟩, Below.refl _ _⟩
    · have e98 : a1.eval (.tmp 98) = (.bool true) := got_inj ((hp.got 63 (by kernel_rfl) 98 (by kernel_rfl)).2 (by decide)) rfl
      have e103 : a1.eval (.tmp 103) = (.bool true) := got_inj ((hp.got 68 (by kernel_rfl) 103 (by kernel_rfl)).2 (by decide)) rfl
      have ec2 : a1.eval (.const (.bool false)) = (.bool false) := rfl
      exact step_pick e98 ((if_pos rfl).trans e103) ⟨⟨fun h => absurd h (by decide), fun _ => rfl⟩, Below.refl _ _⟩
  · intro w1 v A hb hv hd hs
    obtain rfl : v = (.bool true) := got_inj (hv.2 (by decide)) rfl
    clear hv
    have hbz := hbw11.trans (hb.mono hbw11.size)
    go_wp2_with fail
    refine ret_set rfl (by rw [hs]; simp) ?_
    exact ⟨rfl, hbz⟩
end Go.Proofs.YtedegedceeefdaaDoor

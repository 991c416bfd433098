/- Parts of the proof: Lc. -/
import Derived.Test.YtedegedceeefdaaDoorJLA
import Derived.Test.YtedegedceeefdaaDoorJKK
import Derived.Test.YtedegedceeefdaaDoorJPL
set_option linter.all false
set_option linter.unusedVariables false
set_option linter.unusedSimpArgs false
set_option linter.unnecessarySimpa false
set_option linter.deprecated false
/-! Walks: custodylaw28, the five laws on commands. -/
namespace Go.Proofs.YtedegedceeefdaaDoor
open Go.RowKit Go.Cw Cu
set_option maxRecDepth 100000
set_option maxHeartbeats 2000000
set_option linter.unusedVariables false
set_option linter.unusedSimpArgs false
structure InC (c : Cmd) : Prop where
  nums : ∀ x ∈ nums c, inI64 x
  list : ∀ x ∈ c.list, inI64 x
  data : c.data.length ≤ 9223372036854775807
  size : c.list.length ≤ 9223372036854775807
theorem inj_same (c d : Cmd) (hc : InC c) (hd : InC d) : (decide (encCmd c = encCmd d) == decide (c = d)) = true := by
  have : encCmd c = encCmd d ↔ c = d := by
    constructor
    · intro h
      have h2 : encCmd c ++ [] = encCmd d ++ [] := by rw [List.append_nil, List.append_nil, h]
      exact (encCmd_inj c d hc.nums hc.list (by have := hc.data; omega) (by have := hc.size; omega) hd.nums hd.list (by have := hd.data; omega) (by have := hd.size; omega) h2).1
    · rintro rfl; rfl
  simp [this]
theorem law28_Injective (c d : Cmd) (A B : Option Addr) (n m cap cap' : Nat) (w : World) (h1 : Rd w A n 1 (iv c.list)) (h2 : Rd w B m 1 (iv d.list)) (hc : InC c) (hd : InC d) 
    (t1 : Tab w 0 rowsV) (t2 : Tab w 4 (uv ks)) (t3 : Tab w 1 (uv ks)) :
    Calls Tryd.prog 6 #[.agg (cmdV c A n cap).toArray, .agg (cmdV d B m cap').toArray] w fun e w' => e = .returned (.bool true) ∧ Below w.heap.size w w' := by
  have p1 : 0 < w.heap.size := t1.lt rfl
  have p2 : 4 < w.heap.size := t2.lt rfl
  have p3 : 1 < w.heap.size := t3.lt rfl
  have HS := Shut.mk (fun w1 (h : Below w.heap.size w w1) => law28_sanity w1 (t1.below h p1) (t2.below h p2) (t3.below h p3))
  have T1 := Shut.mk t1
  have T2 := Shut.mk t2
  have T3 := Shut.mk t3
  clear t1 t2 t3
  have HC := Shut.mk hc
  have HD := Shut.mk hd
  have el1 : n = c.list.length := by have := h1.len; rw [iv_length] at this; omega
  have el2 : m = d.list.length := by have := h2.len; rw [iv_length] at this; omega
  have EL1 := Shut.mk el1
  have EL2 := Shut.mk el2
  clear hc hd el1 el2
  have hB1 := (Blk.new w 24 (cmdV c A n cap)).alloc (.cells (cmdV d B m cap').toArray 24)
  have hB2 := Blk.new (w.alloc (.cells (cmdV c A n cap).toArray 24)) 24 (cmdV d B m cap')
  have hbw := (below_alloc w (.cells (cmdV c A n cap).toArray 24)).alloc (by simp) (.cells (cmdV d B m cap').toArray 24)
  have hR1 := h1.below hbw
  have hR2 := h2.below hbw
  have hz : (w.alloc (.cells (cmdV c A n cap).toArray 24)).heap.size = w.heap.size + 1 := by simp
  rw [hz] at hB2
  clear h1 h2 hz
  by_cases f1 : (decide (c.data.length ≤ 3000) && decide (n ≤ 200)) = true
  · have F1 := Shut.mk f1
    clear f1
    by_cases f2 : (decide (d.data.length ≤ 3000) && decide (m ≤ 200)) = true
    · have F2 := Shut.mk f2
      clear f2
      go_enter Tryd.func6, Tryd.ntmps6
      go_wp2_with (with_reducible refine stop_load ?_)
      change StopAt _ _ _ _ _ _ ((w.alloc (.cells (cmdV c A n cap).toArray 24)).alloc (.cells (cmdV d B m cap').toArray 24))
      have HB1 := Shut.mk hB1
      have HB2 := Shut.mk hB2
      have HR1 := Shut.mk hR1
      have HR2 := Shut.mk hR2
      clear hB1 hB2 hR1 hR2
      generalize (w.alloc (.cells (cmdV c A n cap).toArray 24)).alloc (.cells (cmdV d B m cap').toArray 24) = w0 at *
      refine at_load_blk aggC rfl rfl HB1.out ?_
      go_wp2_with fail
      refine (law28_few c A n cap w0 (by have := HC.out.data; omega)).mono ?_
      rintro e w1 ⟨rfl, hb1⟩
      have hbc := hb1
      have hbw1 := hbw.trans (hbc.mono hbw.size)
      rw [F1.out]
      go_wp2_with (with_reducible refine stop_load ?_)
      refine stop_want rfl ?_
      refine at_load_blk aggC rfl rfl (HB2.out.below hbc) ?_
      go_wp2_with fail
      refine (law28_few d B m cap' w1 (by have := HD.out.data; omega)).mono ?_
      rintro e w2 ⟨rfl, hb2⟩
      have hbc2 := hbc.trans (hb2.mono hbc.size)
      have hbw2 := hbw.trans (hbc2.mono hbw.size)
      rw [F2.out]
      clear hb1 hb2 hbc hbw1
      clear w1
      have LE1 := Shut.mk (encCmd_length c (by have := F1.out; simp at this; omega) (by have h1 := F1.out; have h2 := EL1.out; simp at h1; omega))
      have LE2 := Shut.mk (encCmd_length d (by have := F2.out; simp at this; omega) (by have h1 := F2.out; have h2 := EL2.out; simp at h1; omega))
      have INJ := Shut.mk (inj_same c d HC.out HD.out)
      go_wp2_with fail
      refine wp_region_last 12 (fun i v w1 => (i = 3 → ∃ B' b', v = .slice B' (encCmd c).length b' ∧ Rd w1 B' (encCmd c).length 1 (bv (encCmd c))) ∧ (i = 5 → ∃ B' b', v = .slice B' (encCmd d).length b' ∧ Rd w1 B' (encCmd d).length 1 (bv (encCmd d))) ∧ (i ≠ 3 ∧ i ≠ 5 → ([(.bool true), (.bool true), (.agg (cmdV c A n cap).toArray), undef, (.agg (cmdV d B m cap').toArray), undef, (.bool (decide (encCmd c = encCmd d))), (.agg (cmdV c A n cap).toArray), (.agg (cmdV d B m cap').toArray), (.bool (decide (c = d))), (.bool true), (.bool true)] : List Value)[i]? = some v)) (by kernel_rfl) (by kernel_rfl) ?_ ?_ rfl (j := 11) (by decide) rfl ?_
      · intro i v w1 w2 hi h hb
        exact ⟨fun e => (by obtain ⟨B', b', e, hr⟩ := (h.1 e); exact ⟨B', b', e, hr.below hb⟩), fun e => (by obtain ⟨B', b', e, hr⟩ := (h.2.1 e); exact ⟨B', b', e, hr.below hb⟩), h.2.2⟩
      · refine Steps.cons (fun a1 w1 hp => ?_) (Steps.cons (fun a1 w1 hp => ?_) (Steps.cons (fun a1 w1 hp => ?_) (Steps.cons (fun a1 w1 hp => ?_) (Steps.cons (fun a1 w1 hp => ?_) (Steps.cons (fun a1 w1 hp => ?_) (Steps.cons (fun a1 w1 hp => ?_) (Steps.cons (fun a1 w1 hp => ?_) (Steps.cons (fun a1 w1 hp => ?_) (Steps.cons (fun a1 w1 hp => ?_) (Steps.cons (fun a1 w1 hp => ?_) (Steps.cons (fun a1 w1 hp => ?_) (Steps.nil))))))))))))
        · refine step_call Tryd.call22 (args := #[]) (by simp) ((HS.out w1 (hbw2.trans (hp.below.mono hbw2.size))).mono ?_)
          rintro e w2 ⟨rfl, hb⟩
          exact ⟨_, rfl, ⟨fun h => absurd h (by decide), fun h => absurd h (by decide), fun _ => rfl⟩, hb⟩
        · have e14 : a1.eval (.tmp 14) = (.bool true) := got_inj ((hp.got 0 (by kernel_rfl) 14 (by kernel_rfl)).2.2 (by decide)) rfl
          exact step_move e14 ⟨⟨fun h => absurd h (by decide), fun h => absurd h (by decide), fun _ => rfl⟩, Below.refl _ _⟩
        · have e15 : a1.eval (.tmp 15) = (.bool true) := got_inj ((hp.got 1 (by kernel_rfl) 15 (by kernel_rfl)).2.2 (by decide)) rfl
          refine step_guard rfl (t := 15) rfl (c := true) e15 (fun _ => ?_) (fun h => absurd rfl h)
          have e2 : a1.eval (.tmp 2) = (.pointer (some ⟨w.heap.size, 0, none⟩)) := hp.same 2 (by kernel_rfl)
          exact step_load_blk aggC e2 rfl (HB1.out.below (hbc2.trans (hp.below.mono hbc2.size))) ⟨⟨fun h => absurd h (by decide), fun h => absurd h (by decide), fun _ => rfl⟩, Below.refl _ _⟩
        · have e15 : a1.eval (.tmp 15) = (.bool true) := got_inj ((hp.got 1 (by kernel_rfl) 15 (by kernel_rfl)).2.2 (by decide)) rfl
          refine step_guard rfl (t := 15) rfl (c := true) e15 (fun _ => ?_) (fun h => absurd rfl h)
          have e16 : a1.eval (.tmp 16) = (.agg (cmdV c A n cap).toArray) := got_inj ((hp.got 2 (by kernel_rfl) 16 (by kernel_rfl)).2.2 (by decide)) rfl
          refine step_call Tryd.call30 (by simp only [List.map_toArray, List.map_cons, List.map_nil, e16]) ((command_Encode c A n cap w1 (HR1.out.below (hbc2.trans (hp.below.mono hbc2.size))) HC.out.nums HC.out.list (by have := F1.out; simp at this; omega) (by have := F1.out; simp at this; omega)).mono ?_)
          rintro e w2 ⟨B', b', rfl, hown, hb⟩
          exact ⟨_, rfl, ⟨fun _ => ⟨B', b', rfl, own_Rd hown⟩, fun h => absurd h (by decide), fun h => absurd rfl h.1⟩, hb⟩
        · have e15 : a1.eval (.tmp 15) = (.bool true) := got_inj ((hp.got 1 (by kernel_rfl) 15 (by kernel_rfl)).2.2 (by decide)) rfl
          refine step_guard rfl (t := 15) rfl (c := true) e15 (fun _ => ?_) (fun h => absurd rfl h)
          have e3 : a1.eval (.tmp 3) = (.pointer (some ⟨w.heap.size + 1, 0, none⟩)) := hp.same 3 (by kernel_rfl)
          exact step_load_blk aggC e3 rfl (HB2.out.below (hbc2.trans (hp.below.mono hbc2.size))) ⟨⟨fun h => absurd h (by decide), fun h => absurd h (by decide), fun _ => rfl⟩, Below.refl _ _⟩
        · have e15 : a1.eval (.tmp 15) = (.bool true) := got_inj ((hp.got 1 (by kernel_rfl) 15 (by kernel_rfl)).2.2 (by decide)) rfl
          refine step_guard rfl (t := 15) rfl (c := true) e15 (fun _ => ?_) (fun h => absurd rfl h)
          have e18 : a1.eval (.tmp 18) = (.agg (cmdV d B m cap').toArray) := got_inj ((hp.got 4 (by kernel_rfl) 18 (by kernel_rfl)).2.2 (by decide)) rfl
          refine step_call Tryd.call30 (by simp only [List.map_toArray, List.map_cons, List.map_nil, e18]) ((command_Encode d B m cap' w1 (HR2.out.below (hbc2.trans (hp.below.mono hbc2.size))) HD.out.nums HD.out.list (by have := F2.out; simp at this; omega) (by have := F2.out; simp at this; omega)).mono ?_)
          rintro e w2 ⟨B', b', rfl, hown, hb⟩
          exact ⟨_, rfl, ⟨fun h => absurd h (by decide), fun _ => ⟨B', b', rfl, own_Rd hown⟩, fun h => absurd rfl h.2⟩, hb⟩
        · have e15 : a1.eval (.tmp 15) = (.bool true) := got_inj ((hp.got 1 (by kernel_rfl) 15 (by kernel_rfl)).2.2 (by decide)) rfl
          refine step_guard rfl (t := 15) rfl (c := true) e15 (fun _ => ?_) (fun h => absurd rfl h)
          obtain ⟨B17, b17, e17, hr17⟩ := (hp.got 3 (by kernel_rfl) 17 (by kernel_rfl)).1 (by rfl)
          obtain ⟨B19, b19, e19, hr19⟩ := (hp.got 5 (by kernel_rfl) 19 (by kernel_rfl)).2.1 (by rfl)
          refine step_call Tryd.call29 (by simp only [List.map_toArray, List.map_cons, List.map_nil, e17, e19]) ((ref01_Same (encCmd c) (encCmd d) B17 B19 (encCmd c).length (encCmd d).length b17 b19 (by have := LE1.out; omega) (by have := LE2.out; omega) w1 hr17 hr19).mono ?_)
          rintro e w2 ⟨rfl, hb⟩
          exact ⟨_, rfl, ⟨fun h => absurd h (by decide), fun h => absurd h (by decide), fun _ => rfl⟩, hb⟩
        · have e15 : a1.eval (.tmp 15) = (.bool true) := got_inj ((hp.got 1 (by kernel_rfl) 15 (by kernel_rfl)).2.2 (by decide)) rfl
          refine step_guard rfl (t := 15) rfl (c := true) e15 (fun _ => ?_) (fun h => absurd rfl h)
          have e2 : a1.eval (.tmp 2) = (.pointer (some ⟨w.heap.size, 0, none⟩)) := hp.same 2 (by kernel_rfl)
          exact step_load_blk aggC e2 rfl (HB1.out.below (hbc2.trans (hp.below.mono hbc2.size))) ⟨⟨fun h => absurd h (by decide), fun h => absurd h (by decide), fun _ => rfl⟩, Below.refl _ _⟩
        · have e15 : a1.eval (.tmp 15) = (.bool true) := got_inj ((hp.got 1 (by kernel_rfl) 15 (by kernel_rfl)).2.2 (by decide)) rfl
          refine step_guard rfl (t := 15) rfl (c := true) e15 (fun _ => ?_) (fun h => absurd rfl h)
          have e3 : a1.eval (.tmp 3) = (.pointer (some ⟨w.heap.size + 1, 0, none⟩)) := hp.same 3 (by kernel_rfl)
          exact step_load_blk aggC e3 rfl (HB2.out.below (hbc2.trans (hp.below.mono hbc2.size))) ⟨⟨fun h => absurd h (by decide), fun h => absurd h (by decide), fun _ => rfl⟩, Below.refl _ _⟩
        · have e15 : a1.eval (.tmp 15) = (.bool true) := got_inj ((hp.got 1 (by kernel_rfl) 15 (by kernel_rfl)).2.2 (by decide)) rfl
          refine step_guard rfl (t := 15) rfl (c := true) e15 (fun _ => ?_) (fun h => absurd rfl h)
          have e21 : a1.eval (.tmp 21) = (.agg (cmdV c A n cap).toArray) := got_inj ((hp.got 7 (by kernel_rfl) 21 (by kernel_rfl)).2.2 (by decide)) rfl
          have e22 : a1.eval (.tmp 22) = (.agg (cmdV d B m cap').toArray) := got_inj ((hp.got 8 (by kernel_rfl) 22 (by kernel_rfl)).2.2 (by decide)) rfl
          refine step_call Tryd.call34 (by simp only [List.map_toArray, List.map_cons, List.map_nil, e21, e22]) ((command_Same c d A B n m cap cap' w1 (HR1.out.below (hbc2.trans (hp.below.mono hbc2.size))) (HR2.out.below (hbc2.trans (hp.below.mono hbc2.size)))).mono ?_)
          rintro e w2 ⟨rfl, hb⟩
          exact ⟨_, rfl, ⟨fun h => absurd h (by decide), fun h => absurd h (by decide), fun _ => rfl⟩, hb⟩
        · have e15 : a1.eval (.tmp 15) = (.bool true) := got_inj ((hp.got 1 (by kernel_rfl) 15 (by kernel_rfl)).2.2 (by decide)) rfl
          refine step_guard rfl (t := 15) rfl (c := true) e15 (fun _ => ?_) (fun h => absurd rfl h)
          have e20 : a1.eval (.tmp 20) = (.bool (decide (encCmd c = encCmd d))) := got_inj ((hp.got 6 (by kernel_rfl) 20 (by kernel_rfl)).2.2 (by decide)) rfl
          have e23 : a1.eval (.tmp 23) = (.bool (decide (c = d))) := got_inj ((hp.got 9 (by kernel_rfl) 23 (by kernel_rfl)).2.2 (by decide)) rfl
          exact step_eq_bool e20 e23 (by kernel_rfl) INJ.out ⟨⟨fun h => absurd h (by decide), fun h => absurd h (by decide), fun _ => rfl⟩, Below.refl _ _⟩
        · have e15 : a1.eval (.tmp 15) = (.bool true) := got_inj ((hp.got 1 (by kernel_rfl) 15 (by kernel_rfl)).2.2 (by decide)) rfl
          have e24 : a1.eval (.tmp 24) = (.bool true) := got_inj ((hp.got 10 (by kernel_rfl) 24 (by kernel_rfl)).2.2 (by decide)) rfl
          have ec2 : a1.eval (.const (.bool false)) = (.bool false) := rfl
          exact step_pick e15 ((if_pos rfl).trans e24) ⟨⟨fun h => absurd h (by decide), fun h => absurd h (by decide), fun _ => rfl⟩, Below.refl _ _⟩
      · intro w1 v A hb hv hd hs
        obtain rfl : v = (.bool true) := got_inj (hv.2.2 (by decide)) rfl
        clear hv
        have hbz := hbw2.trans (hb.mono hbw2.size)
        go_wp2_with fail
        refine ret_set rfl (by rw [hs]; simp) ?_
        exact ⟨rfl, hbz⟩
    · have F2 := Shut.mk (Bool.eq_false_iff.2 f2)
      clear f2
      go_enter Tryd.func6, Tryd.ntmps6
      go_wp2_with (with_reducible refine stop_load ?_)
      change StopAt _ _ _ _ _ _ ((w.alloc (.cells (cmdV c A n cap).toArray 24)).alloc (.cells (cmdV d B m cap').toArray 24))
      have HB1 := Shut.mk hB1
      have HB2 := Shut.mk hB2
      have HR1 := Shut.mk hR1
      have HR2 := Shut.mk hR2
      clear hB1 hB2 hR1 hR2
      generalize (w.alloc (.cells (cmdV c A n cap).toArray 24)).alloc (.cells (cmdV d B m cap').toArray 24) = w0 at *
      refine at_load_blk aggC rfl rfl HB1.out ?_
      go_wp2_with fail
      refine (law28_few c A n cap w0 (by have := HC.out.data; omega)).mono ?_
      rintro e w1 ⟨rfl, hb1⟩
      have hbc := hb1
      have hbw1 := hbw.trans (hbc.mono hbw.size)
      rw [F1.out]
      go_wp2_with (with_reducible refine stop_load ?_)
      refine stop_want rfl ?_
      refine at_load_blk aggC rfl rfl (HB2.out.below hbc) ?_
      go_wp2_with fail
      refine (law28_few d B m cap' w1 (by have := HD.out.data; omega)).mono ?_
      rintro e w2 ⟨rfl, hb2⟩
      have hbc2 := hbc.trans (hb2.mono hbc.size)
      have hbw2 := hbw.trans (hbc2.mono hbw.size)
      rw [F2.out]
      clear hb1 hb2 hbc hbw1
      clear w1
      go_wp2_with fail
      refine (HS.out w2 hbw2).mono ?_
      rintro e w9 ⟨rfl, hb9⟩
      go_wp2_with fail
      go_ret
      exact ⟨rfl, hbw2.trans (hb9.mono hbw2.size)⟩
  · have F1 := Shut.mk (Bool.eq_false_iff.2 f1)
    clear f1
    go_enter Tryd.func6, Tryd.ntmps6
    go_wp2_with (with_reducible refine stop_load ?_)
    change StopAt _ _ _ _ _ _ ((w.alloc (.cells (cmdV c A n cap).toArray 24)).alloc (.cells (cmdV d B m cap').toArray 24))
    have HB1 := Shut.mk hB1
    have HB2 := Shut.mk hB2
    have HR1 := Shut.mk hR1
    have HR2 := Shut.mk hR2
    clear hB1 hB2 hR1 hR2
    generalize (w.alloc (.cells (cmdV c A n cap).toArray 24)).alloc (.cells (cmdV d B m cap').toArray 24) = w0 at *
    refine at_load_blk aggC rfl rfl HB1.out ?_
    go_wp2_with fail
    refine (law28_few c A n cap w0 (by have := HC.out.data; omega)).mono ?_
    rintro e w1 ⟨rfl, hb1⟩
    have hbc := hb1
    have hbw1 := hbw.trans (hbc.mono hbw.size)
    rw [F1.out]
    go_wp2_with fail
    refine (HS.out w1 hbw1).mono ?_
    rintro e w9 ⟨rfl, hb9⟩
    go_wp2_with fail
    go_ret
    exact ⟨rfl, hbw1.trans (hb9.mono hbw1.size)⟩
theorem law28_MatchesSpec (c d : Cmd) (A B : Option Addr) (n m cap cap' : Nat) (w : World) (h1 : Rd w A n 1 (iv c.list)) (h2 : Rd w B m 1 (iv d.list)) (hc : InC c) (hd : InC d) (nn : Int) (s : List UInt8) (hnn : inI64 nn) (hs : s.length ≤ 9223372036854775807)
    (t1 : Tab w 0 rowsV) (t2 : Tab w 4 (uv ks)) (t3 : Tab w 1 (uv ks)) :
    Calls Tryd.prog 3 #[.agg (cmdV c A n cap).toArray, .agg (cmdV d B m cap').toArray, .int .i64 nn, .string ⟨s.toArray⟩] w fun e w' => e = .returned (.bool true) ∧ Below w.heap.size w w' := by
  have p1 : 0 < w.heap.size := t1.lt rfl
  have p2 : 4 < w.heap.size := t2.lt rfl
  have p3 : 1 < w.heap.size := t3.lt rfl
  have HS := Shut.mk (fun w1 (h : Below w.heap.size w w1) => law28_sanity w1 (t1.below h p1) (t2.below h p2) (t3.below h p3))
  have T1 := Shut.mk t1
  have T2 := Shut.mk t2
  have T3 := Shut.mk t3
  clear t1 t2 t3
  have HC := Shut.mk hc
  have HD := Shut.mk hd
  have el1 : n = c.list.length := by have := h1.len; rw [iv_length] at this; omega
  have el2 : m = d.list.length := by have := h2.len; rw [iv_length] at this; omega
  have EL1 := Shut.mk el1
  have EL2 := Shut.mk el2
  have HNN := Shut.mk hnn
  clear hc hd el1 el2 hnn
  have e6 : (({ data := s.toArray } : ByteArray)).size = s.length := rfl
  have hB1 := (Blk.new w 24 (cmdV c A n cap)).alloc (.cells (cmdV d B m cap').toArray 24)
  have hB2 := Blk.new (w.alloc (.cells (cmdV c A n cap).toArray 24)) 24 (cmdV d B m cap')
  have hbw := (below_alloc w (.cells (cmdV c A n cap).toArray 24)).alloc (by simp) (.cells (cmdV d B m cap').toArray 24)
  have hR1 := h1.below hbw
  have hR2 := h2.below hbw
  have hz : (w.alloc (.cells (cmdV c A n cap).toArray 24)).heap.size = w.heap.size + 1 := by simp
  rw [hz] at hB2
  clear h1 h2 hz
  by_cases f1 : (decide (c.data.length ≤ 3000) && decide (n ≤ 200)) = true
  · have F1 := Shut.mk f1
    clear f1
    by_cases f2 : (decide (d.data.length ≤ 3000) && decide (m ≤ 200)) = true
    · have F2 := Shut.mk f2
      clear f2
      by_cases f3 : s.length ≤ 100
      · have g1 : decide ((100 : Int) < (s.length : Int)) = false := by simp; omega
        go_enter Tryd.func3, Tryd.ntmps3
        go_wp2_with (with_reducible refine stop_load ?_)
        change StopAt _ _ _ _ _ _ ((w.alloc (.cells (cmdV c A n cap).toArray 24)).alloc (.cells (cmdV d B m cap').toArray 24))
        have HB1 := Shut.mk hB1
        have HB2 := Shut.mk hB2
        have HR1 := Shut.mk hR1
        have HR2 := Shut.mk hR2
        clear hB1 hB2 hR1 hR2
        generalize (w.alloc (.cells (cmdV c A n cap).toArray 24)).alloc (.cells (cmdV d B m cap').toArray 24) = w0 at *
        refine at_load_blk aggC rfl rfl HB1.out ?_
        go_wp2_with fail
        refine (law28_few c A n cap w0 (by have := HC.out.data; omega)).mono ?_
        rintro e w1 ⟨rfl, hb1⟩
        have hbc := hb1
        have hbw1 := hbw.trans (hbc.mono hbw.size)
        rw [F1.out]
        go_wp2_with (with_reducible refine stop_load ?_)
        refine stop_want rfl ?_
        refine at_load_blk aggC rfl rfl (HB2.out.below hbc) ?_
        go_wp2_with fail
        refine (law28_few d B m cap' w1 (by have := HD.out.data; omega)).mono ?_
        rintro e w2 ⟨rfl, hb2⟩
        have hbc2 := hbc.trans (hb2.mono hbc.size)
        have hbw2 := hbw.trans (hbc2.mono hbw.size)
        rw [F2.out]
        clear hb1 hb2 hbc hbw1
        clear w1
        have LE1 := Shut.mk (encCmd_length c (by have := F1.out; simp at this; omega) (by have h1 := F1.out; have h2 := EL1.out; simp at h1; omega))
        go_wp2_with fail
        refine (command_Kind s w2 (T1.out.below hbw2 p1)).mono ?_
        rintro e w3 ⟨rfl, hb3⟩
        have hbc3 := hbc2.trans (hb3.mono hbc2.size)
        have hbw3 := hbw.trans (hbc3.mono hbw.size)
        clear hbc2 hbw2 hb3
        go_wp2_with fail
        refine (ref28_Kind s w3).mono ?_
        rintro e w4 ⟨rfl, hb4⟩
        have hbc2 := hbc3.trans (hb4.mono hbc3.size)
        have hbw2 := hbw.trans (hbc2.mono hbw.size)
        clear hbc3 hbw3 hb4
        go_wp2_with fail
        refine wp_region_last 48 (fun i v w1 => (i = 27 → ∃ B' b', v = .slice B' (encCmd c).length b' ∧ Rd w1 B' (encCmd c).length 1 (bv (encCmd c))) ∧ (i = 29 → ∃ B' b', v = .slice B' (encCmd c).length b' ∧ Rd w1 B' (encCmd c).length 1 (bv (encCmd c))) ∧ (i ≠ 27 ∧ i ≠ 29 → ([(.bool true), (.bool true), (.int .i64 nn), (.string ⟨(nameOf nn).toArray⟩), (.int .i64 nn), (.string ⟨(nameOf nn).toArray⟩), (.bool true), (.bool true), (.bool true), (.int .i64 (kindI s + 1)), (.int .i64 (kindI s + 1)), (.bool true), (.bool true), (.bool true), (.bool (decide (0 ≤ kindI s))), (.bool (decide (0 ≤ kindI s))), (.bool true), (.bool true), (.bool true), (.agg (cmdV c A n cap).toArray), (.int .i64 (check c : Int)), (.agg (cmdV c A n cap).toArray), (.int .i64 (check c : Int)), (.bool true), (.bool true), (.bool true), (.agg (cmdV c A n cap).toArray), undef, (.agg (cmdV c A n cap).toArray), undef, (.bool true), (.bool true), (.bool true), (.agg (cmdV c A n cap).toArray), (.agg (bv (dig 7 [encCmd c])).toArray), (.agg (cmdV c A n cap).toArray), (.agg (bv (dig 7 [encCmd c])).toArray), (.bool true), (.bool true), (.bool true), (.agg (cmdV c A n cap).toArray), (.agg (cmdV d B m cap').toArray), (.bool (decide (c = d))), (.agg (cmdV c A n cap).toArray), (.agg (cmdV d B m cap').toArray), (.bool (decide (c = d))), (.bool true), (.bool true)] : List Value)[i]? = some v)) (by kernel_rfl) (by kernel_rfl) ?_ ?_ rfl (j := 47) (by decide) rfl ?_
        · intro i v w1 w2 hi h hb
          exact ⟨fun e => (by obtain ⟨B', b', e, hr⟩ := (h.1 e); exact ⟨B', b', e, hr.below hb⟩), fun e => (by obtain ⟨B', b', e, hr⟩ := (h.2.1 e); exact ⟨B', b', e, hr.below hb⟩), h.2.2⟩
        · refine Steps.cons (fun a1 w1 hp => ?_) (Steps.cons (fun a1 w1 hp => ?_) (Steps.cons (fun a1 w1 hp => ?_) (Steps.cons (fun a1 w1 hp => ?_) (Steps.cons (fun a1 w1 hp => ?_) (Steps.cons (fun a1 w1 hp => ?_) (Steps.cons (fun a1 w1 hp => ?_) (Steps.cons (fun a1 w1 hp => ?_) (Steps.cons (fun a1 w1 hp => ?_) (Steps.cons (fun a1 w1 hp => ?_) (Steps.cons (fun a1 w1 hp => ?_) (Steps.cons (fun a1 w1 hp => ?_) (Steps.cons (fun a1 w1 hp => ?_) (Steps.cons (fun a1 w1 hp => ?_) (Steps.cons (fun a1 w1 hp => ?_) (Steps.cons (fun a1 w1 hp => ?_) (Steps.cons (fun a1 w1 hp => ?_) (Steps.cons (fun a1 w1 hp => ?_) (Steps.cons (fun a1 w1 hp => ?_) (Steps.cons (fun a1 w1 hp => ?_) (Steps.cons (fun a1 w1 hp => ?_) (Steps.cons (fun a1 w1 hp => ?_) (Steps.cons (fun a1 w1 hp => ?_) (Steps.cons (fun a1 w1 hp => ?_) (Steps.cons (fun a1 w1 hp => ?_) (Steps.cons (fun a1 w1 hp => ?_) (Steps.cons (fun a1 w1 hp => ?_) (Steps.cons (fun a1 w1 hp => ?_) (Steps.cons (fun a1 w1 hp => ?_) (Steps.cons (fun a1 w1 hp => ?_) (Steps.cons (fun a1 w1 hp => ?_) (Steps.cons (fun a1 w1 hp => ?_) (Steps.cons (fun a1 w1 hp => ?_) (Steps.cons (fun a1 w1 hp => ?_) (Steps.cons (fun a1 w1 hp => ?_) (Steps.cons (fun a1 w1 hp => ?_) (Steps.cons (fun a1 w1 hp => ?_) (Steps.cons (fun a1 w1 hp => ?_) (Steps.cons (fun a1 w1 hp => ?_) (Steps.cons (fun a1 w1 hp => ?_) (Steps.cons (fun a1 w1 hp => ?_) (Steps.cons (fun a1 w1 hp => ?_) (Steps.cons (fun a1 w1 hp => ?_) (Steps.cons (fun a1 w1 hp => ?_) (Steps.cons (fun a1 w1 hp => ?_) (Steps.cons (fun a1 w1 hp => ?_) (Steps.cons (fun a1 w1 hp => ?_) (Steps.cons (fun a1 w1 hp => ?_) (Steps.nil))))))))))))))))))))))))))))))))))))))))))))))))
          · refine step_call Tryd.call22 (args := #[]) (by simp) ((HS.out w1 (hbw2.trans (hp.below.mono hbw2.size))).mono ?_)
            rintro e w2 ⟨rfl, hb⟩
            exact ⟨_, rfl, ⟨fun h => absurd h (by decide), fun h => absurd h (by decide), fun _ => rfl⟩, hb⟩
          · have e37 : a1.eval (.tmp 37) = (.bool true) := got_inj ((hp.got 0 (by kernel_rfl) 37 (by kernel_rfl)).2.2 (by decide)) rfl
            exact step_move e37 ⟨⟨fun h => absurd h (by decide), fun h => absurd h (by decide), fun _ => rfl⟩, Below.refl _ _⟩
          · have e38 : a1.eval (.tmp 38) = (.bool true) := got_inj ((hp.got 1 (by kernel_rfl) 38 (by kernel_rfl)).2.2 (by decide)) rfl
            refine step_guard rfl (t := 38) rfl (c := true) e38 (fun _ => ?_) (fun h => absurd rfl h)
            have e2 : a1.eval (.tmp 2) = (.int .i64 nn) := hp.same 2 (by kernel_rfl)
            exact step_move e2 ⟨⟨fun h => absurd h (by decide), fun h => absurd h (by decide), fun _ => rfl⟩, Below.refl _ _⟩
          · have e38 : a1.eval (.tmp 38) = (.bool true) := got_inj ((hp.got 1 (by kernel_rfl) 38 (by kernel_rfl)).2.2 (by decide)) rfl
            refine step_guard rfl (t := 38) rfl (c := true) e38 (fun _ => ?_) (fun h => absurd rfl h)
            have e39 : a1.eval (.tmp 39) = (.int .i64 nn) := got_inj ((hp.got 2 (by kernel_rfl) 39 (by kernel_rfl)).2.2 (by decide)) rfl
            refine step_call Tryd.call25 (by simp only [List.map_toArray, List.map_cons, List.map_nil, e39]) ((command_Name nn HNN.out w1 (T1.out.below (hbw2.trans (hp.below.mono hbw2.size)) p1)).mono ?_)
            rintro e w2 ⟨rfl, rfl⟩
            exact ⟨_, rfl, ⟨⟨fun h => absurd h (by decide), fun h => absurd h (by decide), fun _ => rfl⟩, Below.refl _ _⟩⟩
          · have e38 : a1.eval (.tmp 38) = (.bool true) := got_inj ((hp.got 1 (by kernel_rfl) 38 (by kernel_rfl)).2.2 (by decide)) rfl
            refine step_guard rfl (t := 38) rfl (c := true) e38 (fun _ => ?_) (fun h => absurd rfl h)
            have e2 : a1.eval (.tmp 2) = (.int .i64 nn) := hp.same 2 (by kernel_rfl)
            exact step_move e2 ⟨⟨fun h => absurd h (by decide), fun h => absurd h (by decide), fun _ => rfl⟩, Below.refl _ _⟩
          · have e38 : a1.eval (.tmp 38) = (.bool true) := got_inj ((hp.got 1 (by kernel_rfl) 38 (by kernel_rfl)).2.2 (by decide)) rfl
            refine step_guard rfl (t := 38) rfl (c := true) e38 (fun _ => ?_) (fun h => absurd rfl h)
            have e41 : a1.eval (.tmp 41) = (.int .i64 nn) := got_inj ((hp.got 4 (by kernel_rfl) 41 (by kernel_rfl)).2.2 (by decide)) rfl
            refine step_call Tryd.call26 (by simp only [List.map_toArray, List.map_cons, List.map_nil, e41]) ((ref28_Name nn HNN.out w1).mono ?_)
            rintro e w2 ⟨rfl, hb⟩
            exact ⟨_, rfl, ⟨fun h => absurd h (by decide), fun h => absurd h (by decide), fun _ => rfl⟩, hb⟩
          · have e38 : a1.eval (.tmp 38) = (.bool true) := got_inj ((hp.got 1 (by kernel_rfl) 38 (by kernel_rfl)).2.2 (by decide)) rfl
            refine step_guard rfl (t := 38) rfl (c := true) e38 (fun _ => ?_) (fun h => absurd rfl h)
            have e40 : a1.eval (.tmp 40) = (.string ⟨(nameOf nn).toArray⟩) := got_inj ((hp.got 3 (by kernel_rfl) 40 (by kernel_rfl)).2.2 (by decide)) rfl
            have e42 : a1.eval (.tmp 42) = (.string ⟨(nameOf nn).toArray⟩) := got_inj ((hp.got 5 (by kernel_rfl) 42 (by kernel_rfl)).2.2 (by decide)) rfl
            exact step_eq_str e40 e42 (by simp) ⟨⟨fun h => absurd h (by decide), fun h => absurd h (by decide), fun _ => rfl⟩, Below.refl _ _⟩
          · have e38 : a1.eval (.tmp 38) = (.bool true) := got_inj ((hp.got 1 (by kernel_rfl) 38 (by kernel_rfl)).2.2 (by decide)) rfl
            have e43 : a1.eval (.tmp 43) = (.bool true) := got_inj ((hp.got 6 (by kernel_rfl) 43 (by kernel_rfl)).2.2 (by decide)) rfl
            have ec2 : a1.eval (.const (.bool false)) = (.bool false) := rfl
            exact step_pick e38 ((if_pos rfl).trans e43) ⟨⟨fun h => absurd h (by decide), fun h => absurd h (by decide), fun _ => rfl⟩, Below.refl _ _⟩
          · have e44 : a1.eval (.tmp 44) = (.bool true) := got_inj ((hp.got 7 (by kernel_rfl) 44 (by kernel_rfl)).2.2 (by decide)) rfl
            exact step_move e44 ⟨⟨fun h => absurd h (by decide), fun h => absurd h (by decide), fun _ => rfl⟩, Below.refl _ _⟩
          · have e45 : a1.eval (.tmp 45) = (.bool true) := got_inj ((hp.got 8 (by kernel_rfl) 45 (by kernel_rfl)).2.2 (by decide)) rfl
            refine step_guard rfl (t := 45) rfl (c := true) e45 (fun _ => ?_) (fun h => absurd rfl h)
            have e9 : a1.eval (.tmp 9) = (.int .i64 (kindI s + 1)) := hp.same 9 (by kernel_rfl)
            exact step_move e9 ⟨⟨fun h => absurd h (by decide), fun h => absurd h (by decide), fun _ => rfl⟩, Below.refl _ _⟩
          · have e45 : a1.eval (.tmp 45) = (.bool true) := got_inj ((hp.got 8 (by kernel_rfl) 45 (by kernel_rfl)).2.2 (by decide)) rfl
            refine step_guard rfl (t := 45) rfl (c := true) e45 (fun _ => ?_) (fun h => absurd rfl h)
            have e11 : a1.eval (.tmp 11) = (.int .i64 (kindI s + 1)) := hp.same 11 (by kernel_rfl)
            exact step_move e11 ⟨⟨fun h => absurd h (by decide), fun h => absurd h (by decide), fun _ => rfl⟩, Below.refl _ _⟩
          · have e45 : a1.eval (.tmp 45) = (.bool true) := got_inj ((hp.got 8 (by kernel_rfl) 45 (by kernel_rfl)).2.2 (by decide)) rfl
            refine step_guard rfl (t := 45) rfl (c := true) e45 (fun _ => ?_) (fun h => absurd rfl h)
            have e46 : a1.eval (.tmp 46) = (.int .i64 (kindI s + 1)) := got_inj ((hp.got 9 (by kernel_rfl) 46 (by kernel_rfl)).2.2 (by decide)) rfl
            have e47 : a1.eval (.tmp 47) = (.int .i64 (kindI s + 1)) := got_inj ((hp.got 10 (by kernel_rfl) 47 (by kernel_rfl)).2.2 (by decide)) rfl
            exact step_eq_int e46 e47 (by kernel_rfl) (by simp) ⟨⟨fun h => absurd h (by decide), fun h => absurd h (by decide), fun _ => rfl⟩, Below.refl _ _⟩
          · have e45 : a1.eval (.tmp 45) = (.bool true) := got_inj ((hp.got 8 (by kernel_rfl) 45 (by kernel_rfl)).2.2 (by decide)) rfl
            have e48 : a1.eval (.tmp 48) = (.bool true) := got_inj ((hp.got 11 (by kernel_rfl) 48 (by kernel_rfl)).2.2 (by decide)) rfl
            have ec2 : a1.eval (.const (.bool false)) = (.bool false) := rfl
            exact step_pick e45 ((if_pos rfl).trans e48) ⟨⟨fun h => absurd h (by decide), fun h => absurd h (by decide), fun _ => rfl⟩, Below.refl _ _⟩
          · have e49 : a1.eval (.tmp 49) = (.bool true) := got_inj ((hp.got 12 (by kernel_rfl) 49 (by kernel_rfl)).2.2 (by decide)) rfl
            exact step_move e49 ⟨⟨fun h => absurd h (by decide), fun h => absurd h (by decide), fun _ => rfl⟩, Below.refl _ _⟩
          · have e50 : a1.eval (.tmp 50) = (.bool true) := got_inj ((hp.got 13 (by kernel_rfl) 50 (by kernel_rfl)).2.2 (by decide)) rfl
            refine step_guard rfl (t := 50) rfl (c := true) e50 (fun _ => ?_) (fun h => absurd rfl h)
            have e10 : a1.eval (.tmp 10) = (.bool (decide (0 ≤ kindI s))) := hp.same 10 (by kernel_rfl)
            exact step_move e10 ⟨⟨fun h => absurd h (by decide), fun h => absurd h (by decide), fun _ => rfl⟩, Below.refl _ _⟩
          · have e50 : a1.eval (.tmp 50) = (.bool true) := got_inj ((hp.got 13 (by kernel_rfl) 50 (by kernel_rfl)).2.2 (by decide)) rfl
            refine step_guard rfl (t := 50) rfl (c := true) e50 (fun _ => ?_) (fun h => absurd rfl h)
            have e12 : a1.eval (.tmp 12) = (.bool (decide (0 ≤ kindI s))) := hp.same 12 (by kernel_rfl)
            exact step_move e12 ⟨⟨fun h => absurd h (by decide), fun h => absurd h (by decide), fun _ => rfl⟩, Below.refl _ _⟩
          · have e50 : a1.eval (.tmp 50) = (.bool true) := got_inj ((hp.got 13 (by kernel_rfl) 50 (by kernel_rfl)).2.2 (by decide)) rfl
            refine step_guard rfl (t := 50) rfl (c := true) e50 (fun _ => ?_) (fun h => absurd rfl h)
            have e51 : a1.eval (.tmp 51) = (.bool (decide (0 ≤ kindI s))) := got_inj ((hp.got 14 (by kernel_rfl) 51 (by kernel_rfl)).2.2 (by decide)) rfl
            have e52 : a1.eval (.tmp 52) = (.bool (decide (0 ≤ kindI s))) := got_inj ((hp.got 15 (by kernel_rfl) 52 (by kernel_rfl)).2.2 (by decide)) rfl
            exact step_eq_bool e51 e52 (by kernel_rfl) (by simp) ⟨⟨fun h => absurd h (by decide), fun h => absurd h (by decide), fun _ => rfl⟩, Below.refl _ _⟩
          · have e50 : a1.eval (.tmp 50) = (.bool true) := got_inj ((hp.got 13 (by kernel_rfl) 50 (by kernel_rfl)).2.2 (by decide)) rfl
            have e53 : a1.eval (.tmp 53) = (.bool true) := got_inj ((hp.got 16 (by kernel_rfl) 53 (by kernel_rfl)).2.2 (by decide)) rfl
            have ec2 : a1.eval (.const (.bool false)) = (.bool false) := rfl
            exact step_pick e50 ((if_pos rfl).trans e53) ⟨⟨fun h => absurd h (by decide), fun h => absurd h (by decide), fun _ => rfl⟩, Below.refl _ _⟩
          · have e54 : a1.eval (.tmp 54) = (.bool true) := got_inj ((hp.got 17 (by kernel_rfl) 54 (by kernel_rfl)).2.2 (by decide)) rfl
            exact step_move e54 ⟨⟨fun h => absurd h (by decide), fun h => absurd h (by decide), fun _ => rfl⟩, Below.refl _ _⟩
          · have e55 : a1.eval (.tmp 55) = (.bool true) := got_inj ((hp.got 18 (by kernel_rfl) 55 (by kernel_rfl)).2.2 (by decide)) rfl
            refine step_guard rfl (t := 55) rfl (c := true) e55 (fun _ => ?_) (fun h => absurd rfl h)
            have e4 : a1.eval (.tmp 4) = (.pointer (some ⟨w.heap.size, 0, none⟩)) := hp.same 4 (by kernel_rfl)
            exact step_load_blk aggC e4 rfl (HB1.out.below (hbc2.trans (hp.below.mono hbc2.size))) ⟨⟨fun h => absurd h (by decide), fun h => absurd h (by decide), fun _ => rfl⟩, Below.refl _ _⟩
          · have e55 : a1.eval (.tmp 55) = (.bool true) := got_inj ((hp.got 18 (by kernel_rfl) 55 (by kernel_rfl)).2.2 (by decide)) rfl
            refine step_guard rfl (t := 55) rfl (c := true) e55 (fun _ => ?_) (fun h => absurd rfl h)
            have e56 : a1.eval (.tmp 56) = (.agg (cmdV c A n cap).toArray) := got_inj ((hp.got 19 (by kernel_rfl) 56 (by kernel_rfl)).2.2 (by decide)) rfl
            refine step_call Tryd.call27 (by simp only [List.map_toArray, List.map_cons, List.map_nil, e56]) ((command_Check c A n cap w1 (HR1.out.below (hbc2.trans (hp.below.mono hbc2.size))) (by have := HC.out.data; omega) (HC.out.nums _ (by simp [nums])) (T1.out.below (hbw2.trans (hp.below.mono hbw2.size)) p1)).mono ?_)
            rintro e w2 ⟨rfl, hb⟩
            exact ⟨_, rfl, ⟨fun h => absurd h (by decide), fun h => absurd h (by decide), fun _ => rfl⟩, hb⟩
          · have e55 : a1.eval (.tmp 55) = (.bool true) := got_inj ((hp.got 18 (by kernel_rfl) 55 (by kernel_rfl)).2.2 (by decide)) rfl
            refine step_guard rfl (t := 55) rfl (c := true) e55 (fun _ => ?_) (fun h => absurd rfl h)
            have e4 : a1.eval (.tmp 4) = (.pointer (some ⟨w.heap.size, 0, none⟩)) := hp.same 4 (by kernel_rfl)
            exact step_load_blk aggC e4 rfl (HB1.out.below (hbc2.trans (hp.below.mono hbc2.size))) ⟨⟨fun h => absurd h (by decide), fun h => absurd h (by decide), fun _ => rfl⟩, Below.refl _ _⟩
          · have e55 : a1.eval (.tmp 55) = (.bool true) := got_inj ((hp.got 18 (by kernel_rfl) 55 (by kernel_rfl)).2.2 (by decide)) rfl
            refine step_guard rfl (t := 55) rfl (c := true) e55 (fun _ => ?_) (fun h => absurd rfl h)
            have e58 : a1.eval (.tmp 58) = (.agg (cmdV c A n cap).toArray) := got_inj ((hp.got 21 (by kernel_rfl) 58 (by kernel_rfl)).2.2 (by decide)) rfl
            refine step_call Tryd.call28 (by simp only [List.map_toArray, List.map_cons, List.map_nil, e58]) ((ref28_Check c A n cap w1 (HR1.out.below (hbc2.trans (hp.below.mono hbc2.size))) (by have := HC.out.data; omega) (HC.out.nums _ (by simp [nums]))).mono ?_)
            rintro e w2 ⟨rfl, hb⟩
            exact ⟨_, rfl, ⟨fun h => absurd h (by decide), fun h => absurd h (by decide), fun _ => rfl⟩, hb⟩
          · have e55 : a1.eval (.tmp 55) = (.bool true) := got_inj ((hp.got 18 (by kernel_rfl) 55 (by kernel_rfl)).2.2 (by decide)) rfl
            refine step_guard rfl (t := 55) rfl (c := true) e55 (fun _ => ?_) (fun h => absurd rfl h)
            have e57 : a1.eval (.tmp 57) = (.int .i64 (check c : Int)) := got_inj ((hp.got 20 (by kernel_rfl) 57 (by kernel_rfl)).2.2 (by decide)) rfl
            have e59 : a1.eval (.tmp 59) = (.int .i64 (check c : Int)) := got_inj ((hp.got 22 (by kernel_rfl) 59 (by kernel_rfl)).2.2 (by decide)) rfl
            exact step_eq_int e57 e59 (by kernel_rfl) (by simp) ⟨⟨fun h => absurd h (by decide), fun h => absurd h (by decide), fun _ => rfl⟩, Below.refl _ _⟩
          · have e55 : a1.eval (.tmp 55) = (.bool true) := got_inj ((hp.got 18 (by kernel_rfl) 55 (by kernel_rfl)).2.2 (by decide)) rfl
            have e60 : a1.eval (.tmp 60) = (.bool true) := got_inj ((hp.got 23 (by kernel_rfl) 60 (by kernel_rfl)).2.2 (by decide)) rfl
            have ec2 : a1.eval (.const (.bool false)) = (.bool false) := rfl
            exact step_pick e55 ((if_pos rfl).trans e60) ⟨⟨fun h => absurd h (by decide), fun h => absurd h (by decide), fun _ => rfl⟩, Below.refl _ _⟩
          · have e61 : a1.eval (.tmp 61) = (.bool true) := got_inj ((hp.got 24 (by kernel_rfl) 61 (by kernel_rfl)).2.2 (by decide)) rfl
            exact step_move e61 ⟨⟨fun h => absurd h (by decide), fun h => absurd h (by decide), fun _ => rfl⟩, Below.refl _ _⟩
          · have e62 : a1.eval (.tmp 62) = (.bool true) := got_inj ((hp.got 25 (by kernel_rfl) 62 (by kernel_rfl)).2.2 (by decide)) rfl
            refine step_guard rfl (t := 62) rfl (c := true) e62 (fun _ => ?_) (fun h => absurd rfl h)
            have e4 : a1.eval (.tmp 4) = (.pointer (some ⟨w.heap.size, 0, none⟩)) := hp.same 4 (by kernel_rfl)
            exact step_load_blk aggC e4 rfl (HB1.out.below (hbc2.trans (hp.below.mono hbc2.size))) ⟨⟨fun h => absurd h (by decide), fun h => absurd h (by decide), fun _ => rfl⟩, Below.refl _ _⟩
          · have e62 : a1.eval (.tmp 62) = (.bool true) := got_inj ((hp.got 25 (by kernel_rfl) 62 (by kernel_rfl)).2.2 (by decide)) rfl
            refine step_guard rfl (t := 62) rfl (c := true) e62 (fun _ => ?_) (fun h => absurd rfl h)
            have e63 : a1.eval (.tmp 63) = (.agg (cmdV c A n cap).toArray) := got_inj ((hp.got 26 (by kernel_rfl) 63 (by kernel_rfl)).2.2 (by decide)) rfl
            refine step_call Tryd.call30 (by simp only [List.map_toArray, List.map_cons, List.map_nil, e63]) ((command_Encode c A n cap w1 (HR1.out.below (hbc2.trans (hp.below.mono hbc2.size))) HC.out.nums HC.out.list (by have := F1.out; simp at this; omega) (by have := F1.out; simp at this; omega)).mono ?_)
            rintro e w2 ⟨B', b', rfl, hown, hb⟩
            exact ⟨_, rfl, ⟨fun _ => ⟨B', b', rfl, own_Rd hown⟩, fun h => absurd h (by decide), fun h => absurd rfl h.1⟩, hb⟩
          · have e62 : a1.eval (.tmp 62) = (.bool true) := got_inj ((hp.got 25 (by kernel_rfl) 62 (by kernel_rfl)).2.2 (by decide)) rfl
            refine step_guard rfl (t := 62) rfl (c := true) e62 (fun _ => ?_) (fun h => absurd rfl h)
            have e4 : a1.eval (.tmp 4) = (.pointer (some ⟨w.heap.size, 0, none⟩)) := hp.same 4 (by kernel_rfl)
            exact step_load_blk aggC e4 rfl (HB1.out.below (hbc2.trans (hp.below.mono hbc2.size))) ⟨⟨fun h => absurd h (by decide), fun h => absurd h (by decide), fun _ => rfl⟩, Below.refl _ _⟩
          · have e62 : a1.eval (.tmp 62) = (.bool true) := got_inj ((hp.got 25 (by kernel_rfl) 62 (by kernel_rfl)).2.2 (by decide)) rfl
            refine step_guard rfl (t := 62) rfl (c := true) e62 (fun _ => ?_) (fun h => absurd rfl h)
            have e65 : a1.eval (.tmp 65) = (.agg (cmdV c A n cap).toArray) := got_inj ((hp.got 28 (by kernel_rfl) 65 (by kernel_rfl)).2.2 (by decide)) rfl
            refine step_call Tryd.call31 (by simp only [List.map_toArray, List.map_cons, List.map_nil, e65]) ((ref28_Encode c A n cap w1 (HR1.out.below (hbc2.trans (hp.below.mono hbc2.size))) HC.out.nums HC.out.list (by have := F1.out; simp at this; omega) (by have := F1.out; simp at this; omega)).mono ?_)
            rintro e w2 ⟨B', b', rfl, hown, hb⟩
            exact ⟨_, rfl, ⟨fun h => absurd h (by decide), fun _ => ⟨B', b', rfl, own_Rd hown⟩, fun h => absurd rfl h.2⟩, hb⟩
          · have e62 : a1.eval (.tmp 62) = (.bool true) := got_inj ((hp.got 25 (by kernel_rfl) 62 (by kernel_rfl)).2.2 (by decide)) rfl
            refine step_guard rfl (t := 62) rfl (c := true) e62 (fun _ => ?_) (fun h => absurd rfl h)
            obtain ⟨B64, b64, e64, hr64⟩ := (hp.got 27 (by kernel_rfl) 64 (by kernel_rfl)).1 (by rfl)
            obtain ⟨B66, b66, e66, hr66⟩ := (hp.got 29 (by kernel_rfl) 66 (by kernel_rfl)).2.1 (by rfl)
            refine step_call Tryd.call29 (by simp only [List.map_toArray, List.map_cons, List.map_nil, e64, e66]) ((to_val (v' := (.bool true)) (ref01_Same (encCmd c) (encCmd c) B64 B66 (encCmd c).length (encCmd c).length b64 b66 (by have := LE1.out; omega) (by have := LE1.out; omega) w1 hr64 hr66) (by simp)).mono ?_)
            rintro e w2 ⟨rfl, hb⟩
            exact ⟨_, rfl, ⟨fun h => absurd h (by decide), fun h => absurd h (by decide), fun _ => rfl⟩, hb⟩
          · have e62 : a1.eval (.tmp 62) = (.bool true) := got_inj ((hp.got 25 (by kernel_rfl) 62 (by kernel_rfl)).2.2 (by decide)) rfl
            have e67 : a1.eval (.tmp 67) = (.bool true) := got_inj ((hp.got 30 (by kernel_rfl) 67 (by kernel_rfl)).2.2 (by decide)) rfl
            have ec2 : a1.eval (.const (.bool false)) = (.bool false) := rfl
            exact step_pick e62 ((if_pos rfl).trans e67) ⟨⟨fun h => absurd h (by decide), fun h => absurd h (by decide), fun _ => rfl⟩, Below.refl _ _⟩
          · have e68 : a1.eval (.tmp 68) = (.bool true) := got_inj ((hp.got 31 (by kernel_rfl) 68 (by kernel_rfl)).2.2 (by decide)) rfl
            exact step_move e68 ⟨⟨fun h => absurd h (by decide), fun h => absurd h (by decide), fun _ => rfl⟩, Below.refl _ _⟩
          · have e69 : a1.eval (.tmp 69) = (.bool true) := got_inj ((hp.got 32 (by kernel_rfl) 69 (by kernel_rfl)).2.2 (by decide)) rfl
            refine step_guard rfl (t := 69) rfl (c := true) e69 (fun _ => ?_) (fun h => absurd rfl h)
            have e4 : a1.eval (.tmp 4) = (.pointer (some ⟨w.heap.size, 0, none⟩)) := hp.same 4 (by kernel_rfl)
            exact step_load_blk aggC e4 rfl (HB1.out.below (hbc2.trans (hp.below.mono hbc2.size))) ⟨⟨fun h => absurd h (by decide), fun h => absurd h (by decide), fun _ => rfl⟩, Below.refl _ _⟩
          · have e69 : a1.eval (.tmp 69) = (.bool true) := got_inj ((hp.got 32 (by kernel_rfl) 69 (by kernel_rfl)).2.2 (by decide)) rfl
            refine step_guard rfl (t := 69) rfl (c := true) e69 (fun _ => ?_) (fun h => absurd rfl h)
            have e70 : a1.eval (.tmp 70) = (.agg (cmdV c A n cap).toArray) := got_inj ((hp.got 33 (by kernel_rfl) 70 (by kernel_rfl)).2.2 (by decide)) rfl
            refine step_call Tryd.call32 (by simp only [List.map_toArray, List.map_cons, List.map_nil, e70]) ((command_Digest c A n cap w1 (HR1.out.below (hbc2.trans (hp.below.mono hbc2.size))) HC.out.nums HC.out.list (by have := F1.out; simp at this; omega) (by have := F1.out; simp at this; omega) (T2.out.below (hbw2.trans (hp.below.mono hbw2.size)) p2)).mono ?_)
            rintro e w2 ⟨rfl, hb⟩
            exact ⟨_, rfl, ⟨fun h => absurd h (by decide), fun h => absurd h (by decide), fun _ => rfl⟩, hb⟩
          · have e69 : a1.eval (.tmp 69) = (.bool true) := got_inj ((hp.got 32 (by kernel_rfl) 69 (by kernel_rfl)).2.2 (by decide)) rfl
            refine step_guard rfl (t := 69) rfl (c := true) e69 (fun _ => ?_) (fun h => absurd rfl h)
            have e4 : a1.eval (.tmp 4) = (.pointer (some ⟨w.heap.size, 0, none⟩)) := hp.same 4 (by kernel_rfl)
            exact step_load_blk aggC e4 rfl (HB1.out.below (hbc2.trans (hp.below.mono hbc2.size))) ⟨⟨fun h => absurd h (by decide), fun h => absurd h (by decide), fun _ => rfl⟩, Below.refl _ _⟩
          · have e69 : a1.eval (.tmp 69) = (.bool true) := got_inj ((hp.got 32 (by kernel_rfl) 69 (by kernel_rfl)).2.2 (by decide)) rfl
            refine step_guard rfl (t := 69) rfl (c := true) e69 (fun _ => ?_) (fun h => absurd rfl h)
            have e72 : a1.eval (.tmp 72) = (.agg (cmdV c A n cap).toArray) := got_inj ((hp.got 35 (by kernel_rfl) 72 (by kernel_rfl)).2.2 (by decide)) rfl
            refine step_call Tryd.call33 (by simp only [List.map_toArray, List.map_cons, List.map_nil, e72]) ((ref28_Digest c A n cap w1 (HR1.out.below (hbc2.trans (hp.below.mono hbc2.size))) HC.out.nums HC.out.list (by have := F1.out; simp at this; omega) (by have := F1.out; simp at this; omega) (T3.out.below (hbw2.trans (hp.below.mono hbw2.size)) p3)).mono ?_)
            rintro e w2 ⟨rfl, hb⟩
            exact ⟨_, rfl, ⟨fun h => absurd h (by decide), fun h => absurd h (by decide), fun _ => rfl⟩, hb⟩
          · have e69 : a1.eval (.tmp 69) = (.bool true) := got_inj ((hp.got 32 (by kernel_rfl) 69 (by kernel_rfl)).2.2 (by decide)) rfl
            refine step_guard rfl (t := 69) rfl (c := true) e69 (fun _ => ?_) (fun h => absurd rfl h)
            have e71 : a1.eval (.tmp 71) = (.agg (bv (dig 7 [encCmd c])).toArray) := got_inj ((hp.got 34 (by kernel_rfl) 71 (by kernel_rfl)).2.2 (by decide)) rfl
            have e73 : a1.eval (.tmp 73) = (.agg (bv (dig 7 [encCmd c])).toArray) := got_inj ((hp.got 36 (by kernel_rfl) 73 (by kernel_rfl)).2.2 (by decide)) rfl
            exact step_eq_agg guard_digest e71 e73 (eq_digest_same _ (dig_length _ _) w1) ⟨⟨fun h => absurd h (by decide), fun h => absurd h (by decide), fun _ => rfl⟩, Below.refl _ _⟩
          · have e69 : a1.eval (.tmp 69) = (.bool true) := got_inj ((hp.got 32 (by kernel_rfl) 69 (by kernel_rfl)).2.2 (by decide)) rfl
            have e74 : a1.eval (.tmp 74) = (.bool true) := got_inj ((hp.got 37 (by kernel_rfl) 74 (by kernel_rfl)).2.2 (by decide)) rfl
            have ec2 : a1.eval (.const (.bool false)) = (.bool false) := rfl
            exact step_pick e69 ((if_pos rfl).trans e74) ⟨⟨fun h => absurd h (by decide), fun h => absurd h (by decide), fun _ => rfl⟩, Below.refl _ _⟩
          · have e75 : a1.eval (.tmp 75) = (.bool true) := got_inj ((hp.got 38 (by kernel_rfl) 75 (by kernel_rfl)).2.2 (by decide)) rfl
            exact step_move e75 ⟨⟨fun h => absurd h (by decide), fun h => absurd h (by decide), fun _ => rfl⟩, Below.refl _ _⟩
          · have e76 : a1.eval (.tmp 76) = (.bool true) := got_inj ((hp.got 39 (by kernel_rfl) 76 (by kernel_rfl)).2.2 (by decide)) rfl
            refine step_guard rfl (t := 76) rfl (c := true) e76 (fun _ => ?_) (fun h => absurd rfl h)
            have e4 : a1.eval (.tmp 4) = (.pointer (some ⟨w.heap.size, 0, none⟩)) := hp.same 4 (by kernel_rfl)
            exact step_load_blk aggC e4 rfl (HB1.out.below (hbc2.trans (hp.below.mono hbc2.size))) ⟨⟨fun h => absurd h (by decide), fun h => absurd h (by decide), fun _ => rfl⟩, Below.refl _ _⟩
          · have e76 : a1.eval (.tmp 76) = (.bool true) := got_inj ((hp.got 39 (by kernel_rfl) 76 (by kernel_rfl)).2.2 (by decide)) rfl
            refine step_guard rfl (t := 76) rfl (c := true) e76 (fun _ => ?_) (fun h => absurd rfl h)
            have e5 : a1.eval (.tmp 5) = (.pointer (some ⟨w.heap.size + 1, 0, none⟩)) := hp.same 5 (by kernel_rfl)
            exact step_load_blk aggC e5 rfl (HB2.out.below (hbc2.trans (hp.below.mono hbc2.size))) ⟨⟨fun h => absurd h (by decide), fun h => absurd h (by decide), fun _ => rfl⟩, Below.refl _ _⟩
          · have e76 : a1.eval (.tmp 76) = (.bool true) := got_inj ((hp.got 39 (by kernel_rfl) 76 (by kernel_rfl)).2.2 (by decide)) rfl
            refine step_guard rfl (t := 76) rfl (c := true) e76 (fun _ => ?_) (fun h => absurd rfl h)
            have e77 : a1.eval (.tmp 77) = (.agg (cmdV c A n cap).toArray) := got_inj ((hp.got 40 (by kernel_rfl) 77 (by kernel_rfl)).2.2 (by decide)) rfl
            have e78 : a1.eval (.tmp 78) = (.agg (cmdV d B m cap').toArray) := got_inj ((hp.got 41 (by kernel_rfl) 78 (by kernel_rfl)).2.2 (by decide)) rfl
            refine step_call Tryd.call34 (by simp only [List.map_toArray, List.map_cons, List.map_nil, e77, e78]) ((command_Same c d A B n m cap cap' w1 (HR1.out.below (hbc2.trans (hp.below.mono hbc2.size))) (HR2.out.below (hbc2.trans (hp.below.mono hbc2.size)))).mono ?_)
            rintro e w2 ⟨rfl, hb⟩
            exact ⟨_, rfl, ⟨fun h => absurd h (by decide), fun h => absurd h (by decide), fun _ => rfl⟩, hb⟩
          · have e76 : a1.eval (.tmp 76) = (.bool true) := got_inj ((hp.got 39 (by kernel_rfl) 76 (by kernel_rfl)).2.2 (by decide)) rfl
            refine step_guard rfl (t := 76) rfl (c := true) e76 (fun _ => ?_) (fun h => absurd rfl h)
            have e4 : a1.eval (.tmp 4) = (.pointer (some ⟨w.heap.size, 0, none⟩)) := hp.same 4 (by kernel_rfl)
            exact step_load_blk aggC e4 rfl (HB1.out.below (hbc2.trans (hp.below.mono hbc2.size))) ⟨⟨fun h => absurd h (by decide), fun h => absurd h (by decide), fun _ => rfl⟩, Below.refl _ _⟩
          · have e76 : a1.eval (.tmp 76) = (.bool true) := got_inj ((hp.got 39 (by kernel_rfl) 76 (by kernel_rfl)).2.2 (by decide)) rfl
            refine step_guard rfl (t := 76) rfl (c := true) e76 (fun _ => ?_) (fun h => absurd rfl h)
            have e5 : a1.eval (.tmp 5) = (.pointer (some ⟨w.heap.size + 1, 0, none⟩)) := hp.same 5 (by kernel_rfl)
            exact step_load_blk aggC e5 rfl (HB2.out.below (hbc2.trans (hp.below.mono hbc2.size))) ⟨⟨fun h => absurd h (by decide), fun h => absurd h (by decide), fun _ => rfl⟩, Below.refl _ _⟩
          · have e76 : a1.eval (.tmp 76) = (.bool true) := got_inj ((hp.got 39 (by kernel_rfl) 76 (by kernel_rfl)).2.2 (by decide)) rfl
            refine step_guard rfl (t := 76) rfl (c := true) e76 (fun _ => ?_) (fun h => absurd rfl h)
            have e80 : a1.eval (.tmp 80) = (.agg (cmdV c A n cap).toArray) := got_inj ((hp.got 43 (by kernel_rfl) 80 (by kernel_rfl)).2.2 (by decide)) rfl
            have e81 : a1.eval (.tmp 81) = (.agg (cmdV d B m cap').toArray) := got_inj ((hp.got 44 (by kernel_rfl) 81 (by kernel_rfl)).2.2 (by decide)) rfl
            refine step_call Tryd.call35 (by simp only [List.map_toArray, List.map_cons, List.map_nil, e80, e81]) ((ref28_Same c d A B n m cap cap' w1 (by have h1 := F1.out; simp at h1; omega) (by have h1 := F2.out; simp at h1; omega) (HR1.out.below (hbc2.trans (hp.below.mono hbc2.size))) (HR2.out.below (hbc2.trans (hp.below.mono hbc2.size)))).mono ?_)
            rintro e w2 ⟨rfl, hb⟩
            exact ⟨_, rfl, ⟨fun h => absurd h (by decide), fun h => absurd h (by decide), fun _ => rfl⟩, hb⟩
          · have e76 : a1.eval (.tmp 76) = (.bool true) := got_inj ((hp.got 39 (by kernel_rfl) 76 (by kernel_rfl)).2.2 (by decide)) rfl
            refine step_guard rfl (t := 76) rfl (c := true) e76 (fun _ => ?_) (fun h => absurd rfl h)
            have e79 : a1.eval (.tmp 79) = (.bool (decide (c = d))) := got_inj ((hp.got 42 (by kernel_rfl) 79 (by kernel_rfl)).2.2 (by decide)) rfl
            have e82 : a1.eval (.tmp 82) = (.bool (decide (c = d))) := got_inj ((hp.got 45 (by kernel_rfl) 82 (by kernel_rfl)).2.2 (by decide)) rfl
            exact step_eq_bool e79 e82 (by kernel_rfl) (by simp) ⟨⟨fun h => absurd h (by decide), fun h => absurd h (by decide), fun _ => rfl⟩, Below.refl _ _⟩
          · have e76 : a1.eval (.tmp 76) = (.bool true) := got_inj ((hp.got 39 (by kernel_rfl) 76 (by kernel_rfl)).2.2 (by decide)) rfl
            have e83 : a1.eval (.tmp 83) = (.bool true) := got_inj ((hp.got 46 (by kernel_rfl) 83 (by kernel_rfl)).2.2 (by decide)) rfl
            have ec2 : a1.eval (.const (.bool false)) = (.bool false) := rfl
            exact step_pick e76 ((if_pos rfl).trans e83) ⟨⟨fun h => absurd h (by decide), fun h => absurd h (by decide), fun _ => rfl⟩, Below.refl _ _⟩
        · intro w1 v A hb hv hd hs
          obtain rfl : v = (.bool true) := got_inj (hv.2.2 (by decide)) rfl
          clear hv
          have hbz := hbw2.trans (hb.mono hbw2.size)
          go_wp2_with fail
          refine ret_set rfl (by rw [hs]; simp) ?_
          exact ⟨rfl, hbz⟩
      · have g1 : decide ((100 : Int) < (s.length : Int)) = true := by simp; omega
        go_enter Tryd.func3, Tryd.ntmps3
        go_wp2_with (with_reducible refine stop_load ?_)
        change StopAt _ _ _ _ _ _ ((w.alloc (.cells (cmdV c A n cap).toArray 24)).alloc (.cells (cmdV d B m cap').toArray 24))
        have HB1 := Shut.mk hB1
        have HB2 := Shut.mk hB2
        have HR1 := Shut.mk hR1
        have HR2 := Shut.mk hR2
        clear hB1 hB2 hR1 hR2
        generalize (w.alloc (.cells (cmdV c A n cap).toArray 24)).alloc (.cells (cmdV d B m cap').toArray 24) = w0 at *
        refine at_load_blk aggC rfl rfl HB1.out ?_
        go_wp2_with fail
        refine (law28_few c A n cap w0 (by have := HC.out.data; omega)).mono ?_
        rintro e w1 ⟨rfl, hb1⟩
        have hbc := hb1
        have hbw1 := hbw.trans (hbc.mono hbw.size)
        rw [F1.out]
        go_wp2_with (with_reducible refine stop_load ?_)
        refine stop_want rfl ?_
        refine at_load_blk aggC rfl rfl (HB2.out.below hbc) ?_
        go_wp2_with fail
        refine (law28_few d B m cap' w1 (by have := HD.out.data; omega)).mono ?_
        rintro e w2 ⟨rfl, hb2⟩
        have hbc2 := hbc.trans (hb2.mono hbc.size)
        have hbw2 := hbw.trans (hbc2.mono hbw.size)
        rw [F2.out]
        clear hb1 hb2 hbc hbw1
        clear w1
        go_wp2_with fail
        refine (HS.out w2 hbw2).mono ?_
        rintro e w9 ⟨rfl, hb9⟩
        go_wp2_with fail
        go_ret
        exact ⟨rfl, hbw2.trans (hb9.mono hbw2.size)⟩
    · have F2 := Shut.mk (Bool.eq_false_iff.2 f2)
      clear f2
      go_enter Tryd.func3, Tryd.ntmps3
      go_wp2_with (with_reducible refine stop_load ?_)
      change StopAt _ _ _ _ _ _ ((w.alloc (.cells (cmdV c A n cap).toArray 24)).alloc (.cells (cmdV d B m cap').toArray 24))
      have HB1 := Shut.mk hB1
      have HB2 := Shut.mk hB2
      have HR1 := Shut.mk hR1
      have HR2 := Shut.mk hR2
      clear hB1 hB2 hR1 hR2
      generalize (w.alloc (.cells (cmdV c A n cap).toArray 24)).alloc (.cells (cmdV d B m cap').toArray 24) = w0 at *
      refine at_load_blk aggC rfl rfl HB1.out ?_
      go_wp2_with fail
      refine (law28_few c A n cap w0 (by have := HC.out.data; omega)).mono ?_
      rintro e w1 ⟨rfl, hb1⟩
      have hbc := hb1
      have hbw1 := hbw.trans (hbc.mono hbw.size)
      rw [F1.out]
      go_wp2_with (with_reducible refine stop_load ?_)
      refine stop_want rfl ?_
      refine at_load_blk aggC rfl rfl (HB2.out.below hbc) ?_
      go_wp2_with fail
      refine (law28_few d B m cap' w1 (by have := HD.out.data; omega)).mono ?_
      rintro e w2 ⟨rfl, hb2⟩
      have hbc2 := hbc.trans (hb2.mono hbc.size)
      have hbw2 := hbw.trans (hbc2.mono hbw.size)
      rw [F2.out]
      clear hb1 hb2 hbc hbw1
      clear w1
      go_wp2_with fail
      refine (HS.out w2 hbw2).mono ?_
      rintro e w9 ⟨rfl, hb9⟩
      go_wp2_with fail
      go_ret
      exact ⟨rfl, hbw2.trans (hb9.mono hbw2.size)⟩
  · have F1 := Shut.mk (Bool.eq_false_iff.2 f1)
    clear f1
    go_enter Tryd.func3, Tryd.ntmps3
    go_wp2_with (with_reducible refine stop_load ?_)
    change StopAt _ _ _ _ _ _ ((w.alloc (.cells (cmdV c A n cap).toArray 24)).alloc (.cells (cmdV d B m cap').toArray 24))
    have HB1 := Shut.mk hB1
    have HB2 := Shut.mk hB2
    have HR1 := Shut.mk hR1
    have HR2 := Shut.mk hR2
    clear hB1 hB2 hR1 hR2
    generalize (w.alloc (.cells (cmdV c A n cap).toArray 24)).alloc (.cells (cmdV d B m cap').toArray 24) = w0 at *
    refine at_load_blk aggC rfl rfl HB1.out ?_
    go_wp2_with fail
    refine (law28_few c A n cap w0 (by have := HC.out.data; omega)).mono ?_
    rintro e w1 ⟨rfl, hb1⟩
    have hbc := hb1
    have hbw1 := hbw.trans (hbc.mono hbw.size)
    rw [F1.out]
    go_wp2_with fail
    refine (HS.out w1 hbw1).mono ?_
    rintro e w9 ⟨rfl, hb9⟩
    go_wp2_with fail
    go_ret
    exact ⟨rfl, hbw1.trans (hb9.mono hbw1.size)⟩
theorem decCmd_list {bs : List UInt8} {cm : Cmd} (h : decCmd bs = .ok cm) : cm.list.length ≤ bs.length := by
  unfold decCmd at h
  split at h
  · cases h
  · split at h
    · cases h
    · split at h
      · cases h
      · rename_i ks j hk
        split at h
        · cases h
        · split at h
          · injection h with h
            subst h
            have := (enc_of_decList (by omega) encInt decInt (fun b x k hb => ⟨(enc_of_dec hb).1, (enc_of_dec hb).2.2.1⟩) hk).2.2.2
            simp only [List.length_drop] at this
            show ks.length ≤ bs.length
            omega
          · cases h
theorem law28_DecodesAsSpecified (bs : List UInt8) (A : Option Addr) (n c : Nat) (w : World) (hrd : Rd w A n 1 (bv bs)) (hc : n ≤ c)
    (t1 : Tab w 0 rowsV) (t2 : Tab w 4 (uv ks)) (t3 : Tab w 1 (uv ks)) :
    Calls Tryd.prog 4 #[.slice A n c] w fun e w' => e = .returned (.bool true) ∧ Below w.heap.size w w' := by
  have p1 : 0 < w.heap.size := t1.lt rfl
  have p2 : 4 < w.heap.size := t2.lt rfl
  have p3 : 1 < w.heap.size := t3.lt rfl
  have HS := Shut.mk (fun w1 (h : Below w.heap.size w w1) => law28_sanity w1 (t1.below h p1) (t2.below h p2) (t3.below h p3))
  have T1 := Shut.mk t1
  have T2 := Shut.mk t2
  have T3 := Shut.mk t3
  clear t1 t2 t3
  have hl : bs.length = n := by have := hrd.len; rw [bv_length] at this; omega
  have HL := Shut.mk hl
  have HR := Shut.mk hrd
  clear hrd hl
  by_cases f : n ≤ 4000
  · have g1 : decide ((4000 : Int) < (n : Int)) = false := by simp; omega
    cases hdec : decCmd bs with
    | error e0 =>
      have HD := Shut.mk hdec
      clear hdec
      go_enter Tryd.func4, Tryd.ntmps4
      go_wp2_with fail
      refine (command_Decode bs A n c w HR.out hc (by omega) T1.out).mono ?_
      rintro e w1 ⟨hb1, hpost⟩
      rw [HD.out] at hpost
      obtain rfl := hpost
      go_wp2_with (with_reducible refine stop_store ?_)
      refine at_store_new aggC (vs := cmdV zeroCmd none 0 0) rfl rfl rfl rfl (cmdV_one zeroCmd none 0 0) ?_
      intro w2 hS1 hb2 hz2
      have hbw2 := hb1.trans (hb2.mono hb1.size)
      have HS1 := Shut.mk hS1
      clear hS1 hb2 hb1 hz2
      generalize w1.heap.size = g1 at *
      clear w1
      go_wp2_with fail
      refine (ref28_Decode bs A n c w2 (HR.out.below hbw2) hc (by omega)).mono ?_
      rintro e w3 ⟨hb3, hpost⟩
      rw [HD.out] at hpost
      obtain rfl := hpost
      go_wp2_with (with_reducible refine stop_store ?_)
      refine at_store_new aggC (vs := cmdV zeroCmd none 0 0) rfl rfl rfl rfl (cmdV_one zeroCmd none 0 0) ?_
      intro w4 hS2 hb4 hz4
      have hbc := hb3.trans (hb4.mono hb3.size)
      have hbw4 := hbw2.trans (hbc.mono hbw2.size)
      have HS2 := Shut.mk hS2
      have HS1' := Shut.mk (HS1.out.below hbc)
      clear hS2 hb4 hb3 hz4 hbc HS1 hbw2
      generalize w3.heap.size = g2 at *
      clear w3
      go_wp2_with fail
      refine (HS.out w4 hbw4).mono ?_
      rintro e w5 ⟨rfl, hb5⟩
      have hbw5 := hbw4.trans (hb5.mono hbw4.size)
      go_wp2_with (with_reducible refine stop_load ?_)
      refine stop_want rfl ?_
      refine at_load_blk aggC rfl rfl (HS1'.out.below hb5) ?_
      go_wp2_with (with_reducible refine stop_load ?_)
      refine stop_want rfl ?_
      refine at_load_blk aggC rfl rfl (HS2.out.below hb5) ?_
      go_wp2_with fail
      refine (ref28_Same zeroCmd zeroCmd none none 0 0 0 0 w5 (by omega) (by omega) (Rd.empty w5 none 1) (Rd.empty w5 none 1)).mono ?_
      rintro e w6 ⟨rfl, hb6⟩
      rw [decide_eq_true (rfl : zeroCmd = zeroCmd)]
      go_wp2_with fail
      go_ret
      exact ⟨rfl, hbw5.trans (hb6.mono hbw5.size)⟩
    | ok cm =>
      have hcl := decCmd_list hdec
      have HD := Shut.mk hdec
      have HCL := Shut.mk hcl
      clear hdec hcl
      go_enter Tryd.func4, Tryd.ntmps4
      go_wp2_with fail
      refine (command_Decode bs A n c w HR.out hc (by omega) T1.out).mono ?_
      rintro e w1 ⟨hb1, hpost⟩
      rw [HD.out] at hpost
      obtain ⟨D, dn, dc, rfl, hD⟩ := hpost
      have hdn : dn ≤ 4000 := by have h1 := hD.len; rw [iv_length] at h1; have h2 := HCL.out; have h3 := HL.out; omega
      have HD1 := Shut.mk hD
      clear hD
      go_wp2_with (with_reducible refine stop_store ?_)
      refine at_store_new aggC (vs := cmdV cm D dn dc) rfl rfl rfl rfl (cmdV_one cm D dn dc) ?_
      intro w2 hS1 hb2 hz2
      have hbw2 := hb1.trans (hb2.mono hb1.size)
      have HS1 := Shut.mk hS1
      have HD2 := Shut.mk (HD1.out.below hb2)
      clear HD1
      clear hS1 hb2 hb1 hz2
      generalize w1.heap.size = g1 at *
      clear w1
      go_wp2_with fail
      refine (ref28_Decode bs A n c w2 (HR.out.below hbw2) hc (by omega)).mono ?_
      rintro e w3 ⟨hb3, hpost⟩
      rw [HD.out] at hpost
      obtain ⟨D2, dn2, dc2, rfl, hE⟩ := hpost
      have hdn2 : dn2 ≤ 4000 := by have h1 := hE.len; rw [iv_length] at h1; have h2 := HCL.out; have h3 := HL.out; omega
      have HE1 := Shut.mk hE
      clear hE
      go_wp2_with (with_reducible refine stop_store ?_)
      refine at_store_new aggC (vs := cmdV cm D2 dn2 dc2) rfl rfl rfl rfl (cmdV_one cm D2 dn2 dc2) ?_
      intro w4 hS2 hb4 hz4
      have hbc := hb3.trans (hb4.mono hb3.size)
      have hbw4 := hbw2.trans (hbc.mono hbw2.size)
      have HS2 := Shut.mk hS2
      have HS1' := Shut.mk (HS1.out.below hbc)
      have HD3 := Shut.mk (HD2.out.below hbc)
      have HE2 := Shut.mk (HE1.out.below hb4)
      clear HD2 HE1
      clear hS2 hb4 hb3 hz4 hbc HS1 hbw2
      generalize w3.heap.size = g2 at *
      clear w3
      go_wp2_with fail
      refine (HS.out w4 hbw4).mono ?_
      rintro e w5 ⟨rfl, hb5⟩
      have hbw5 := hbw4.trans (hb5.mono hbw4.size)
      go_wp2_with (with_reducible refine stop_load ?_)
      refine stop_want rfl ?_
      refine at_load_blk aggC rfl rfl (HS1'.out.below hb5) ?_
      go_wp2_with (with_reducible refine stop_load ?_)
      refine stop_want rfl ?_
      refine at_load_blk aggC rfl rfl (HS2.out.below hb5) ?_
      go_wp2_with fail
      refine (ref28_Same cm cm D D2 dn dn2 dc dc2 w5 (by omega) (by omega) (HD3.out.below hb5) (HE2.out.below hb5)).mono ?_
      rintro e w6 ⟨rfl, hb6⟩
      rw [decide_eq_true (rfl : cm = cm)]
      go_wp2_with fail
      go_ret
      exact ⟨rfl, hbw5.trans (hb6.mono hbw5.size)⟩
  · have g1 : decide ((4000 : Int) < (n : Int)) = true := by simp; omega
    go_enter Tryd.func4, Tryd.ntmps4
    go_wp2_with fail
    refine (HS.out w (Below.refl _ _)).mono ?_
    rintro e w1 ⟨rfl, hb1⟩
    go_wp2_with fail
    go_ret
    exact ⟨rfl, hb1⟩
theorem law28_RoundTrip (c : Cmd) (A : Option Addr) (n cap : Nat) (w : World) (h1 : Rd w A n 1 (iv c.list)) (hc : InC c)
    (t1 : Tab w 0 rowsV) (t2 : Tab w 4 (uv ks)) (t3 : Tab w 1 (uv ks)) :
    Calls Tryd.prog 5 #[.agg (cmdV c A n cap).toArray] w fun e w' => e = .returned (.bool true) ∧ Below w.heap.size w w' := by
  have p1 : 0 < w.heap.size := t1.lt rfl
  have p2 : 4 < w.heap.size := t2.lt rfl
  have p3 : 1 < w.heap.size := t3.lt rfl
  have HS := Shut.mk (fun w1 (h : Below w.heap.size w w1) => law28_sanity w1 (t1.below h p1) (t2.below h p2) (t3.below h p3))
  have T1 := Shut.mk t1
  have T2 := Shut.mk t2
  have T3 := Shut.mk t3
  clear t1 t2 t3
  have HC := Shut.mk hc
  have el1 : n = c.list.length := by have := h1.len; rw [iv_length] at this; omega
  have EL1 := Shut.mk el1
  clear hc el1
  have hB1 := Blk.new w 24 (cmdV c A n cap)
  have hbw := below_alloc w (.cells (cmdV c A n cap).toArray 24)
  have hR1 := h1.below hbw
  clear h1
  by_cases f1 : (decide (c.data.length ≤ 3000) && decide (n ≤ 200)) = true
  · have F1 := Shut.mk f1
    clear f1
    have LE1 := Shut.mk (encCmd_length c (by have := F1.out; simp at this; omega) (by have h1 := F1.out; have h2 := EL1.out; simp at h1; omega))
    have hdec := decCmd_enc c HC.out.nums HC.out.list (by have := HC.out.data; omega) (by have := HC.out.size; omega)
    by_cases hk : check c = 0
    · rw [if_pos hk] at hdec
      have HK := Shut.mk hk
      have HDEC := Shut.mk hdec
      clear hk hdec
      go_enter Tryd.func5, Tryd.ntmps5
      go_wp2_with (with_reducible refine stop_load ?_)
      change StopAt _ _ _ _ _ _ (w.alloc (.cells (cmdV c A n cap).toArray 24))
      have HB1 := Shut.mk hB1
      have HR1 := Shut.mk hR1
      clear hB1 hR1
      generalize w.alloc (.cells (cmdV c A n cap).toArray 24) = w0 at *
      refine at_load_blk aggC rfl rfl HB1.out ?_
      go_wp2_with fail
      refine (law28_few c A n cap w0 (by have := HC.out.data; omega)).mono ?_
      rintro e w1 ⟨rfl, hbc⟩
      have hbw1 := hbw.trans (hbc.mono hbw.size)
      rw [F1.out]
      go_wp2_with (with_reducible refine stop_load ?_)
      refine at_load_blk aggC rfl rfl (HB1.out.below hbc) ?_
      go_wp2_with fail
      refine (command_Encode c A n cap w1 (HR1.out.below hbc) HC.out.nums HC.out.list (by have := F1.out; simp at this; omega) (by have := F1.out; simp at this; omega)).mono ?_
      rintro e w2 ⟨B, b, rfl, hown, hb2⟩
      have hrd := own_Rd hown
      have hcb := own_cap hown
      have hbc2 := hbc.trans (hb2.mono hbc.size)
      have hbw2 := hbw.trans (hbc2.mono hbw.size)
      clear hown hb2 hbc hbw1
      clear w1
      have HRD := Shut.mk hrd
      clear hrd
      go_wp2_with fail
      refine (command_Decode (encCmd c) B (encCmd c).length b w2 HRD.out hcb (by have := LE1.out; omega) (T1.out.below hbw2 p1)).mono ?_
      rintro e w3 ⟨hb3, hpost⟩
      rw [HDEC.out] at hpost
      obtain ⟨D, dn, dc, rfl, hD⟩ := hpost
      obtain rfl : n = dn := by have h1 := hD.len; rw [iv_length] at h1; have := EL1.out; omega
      have hbc3 := hbc2.trans (hb3.mono hbc2.size)
      clear hb3 hbc2 hbw2 HRD hcb
      clear w2
      go_wp2_with (with_reducible refine stop_store ?_)
      refine at_store_new aggC (vs := cmdV c D n dc) rfl rfl rfl rfl (cmdV_one c D n dc) ?_
      intro w4 hS hb4 hz4
      have hbc4 := hbc3.trans (hb4.mono hbc3.size)
      have HS1 := Shut.mk hS
      have HD1 := Shut.mk (hD.below hb4)
      clear hD
      clear hS hb4 hbc3 hz4
      generalize w3.heap.size = g3 at *
      clear w3
      go_wp2_with (with_reducible refine stop_load ?_)
      refine at_load_blk aggC rfl rfl (HB1.out.below hbc4) ?_
      go_wp2_with fail
      refine (command_Check c A n cap w4 (HR1.out.below hbc4) (by have := HC.out.data; omega) (HC.out.nums _ (by simp [nums])) (T1.out.below (hbw.trans (hbc4.mono hbw.size)) p1)).mono ?_
      rintro e w5 ⟨rfl, hb5⟩
      have HS5 := Shut.mk (HS1.out.below hb5)
      have HD5 := Shut.mk (HD1.out.below hb5)
      clear HD1
      have hbc2 := hbc4.trans (hb5.mono hbc4.size)
      have hbw2 := hbw.trans (hbc2.mono hbw.size)
      clear hb5 hbc4 HS1
      clear w4
      rw [HK.out]
      go_wp2_with fail
      refine wp_region_last 31 (fun i v w1 => ([(.bool true), (.bool true), (.int .i64 0), (.int .i64 0), (.bool true), (.bool true), (.bool true), (.int .i64 0), (.bool true), (.bool true), (.agg (cmdV c A n cap).toArray), (.agg (cmdV c D n dc).toArray), (.bool true), (.bool true), (.bool true), (.agg (cmdV c A n cap).toArray), (.agg (bv (dig 7 [encCmd c])).toArray), (.agg (cmdV c D n dc).toArray), (.agg (bv (dig 7 [encCmd c])).toArray), (.bool true), (.bool true), (.bool true), undef, undef, undef, undef, undef, undef, undef, (.bool true), (.bool true)] : List Value)[i]? = some v) (by kernel_rfl) (by kernel_rfl) ?_ ?_ rfl (j := 30) (by decide) rfl ?_
      · intro i v w1 w2 hi h hb
        exact h
      · refine Steps.cons (fun a1 w1 hp => ?_) (Steps.cons (fun a1 w1 hp => ?_) (Steps.cons (fun a1 w1 hp => ?_) (Steps.cons (fun a1 w1 hp => ?_) (Steps.cons (fun a1 w1 hp => ?_) (Steps.cons (fun a1 w1 hp => ?_) (Steps.cons (fun a1 w1 hp => ?_) (Steps.cons (fun a1 w1 hp => ?_) (Steps.cons (fun a1 w1 hp => ?_) (Steps.cons (fun a1 w1 hp => ?_) (Steps.cons (fun a1 w1 hp => ?_) (Steps.cons (fun a1 w1 hp => ?_) (Steps.cons (fun a1 w1 hp => ?_) (Steps.cons (fun a1 w1 hp => ?_) (Steps.cons (fun a1 w1 hp => ?_) (Steps.cons (fun a1 w1 hp => ?_) (Steps.cons (fun a1 w1 hp => ?_) (Steps.cons (fun a1 w1 hp => ?_) (Steps.cons (fun a1 w1 hp => ?_) (Steps.cons (fun a1 w1 hp => ?_) (Steps.cons (fun a1 w1 hp => ?_) (Steps.cons (fun a1 w1 hp => ?_) (Steps.cons (fun a1 w1 hp => ?_) (Steps.cons (fun a1 w1 hp => ?_) (Steps.cons (fun a1 w1 hp => ?_) (Steps.cons (fun a1 w1 hp => ?_) (Steps.cons (fun a1 w1 hp => ?_) (Steps.cons (fun a1 w1 hp => ?_) (Steps.cons (fun a1 w1 hp => ?_) (Steps.cons (fun a1 w1 hp => ?_) (Steps.cons (fun a1 w1 hp => ?_) (Steps.nil)))))))))))))))))))))))))))))))
        · refine step_call Tryd.call22 (args := #[]) (by simp) ((HS.out w1 (hbw2.trans (hp.below.mono hbw2.size))).mono ?_)
          rintro e w2 ⟨rfl, hb⟩
          exact ⟨_, rfl, rfl, hb⟩
        · have e18 : a1.eval (.tmp 18) = (.bool true) := got_inj (hp.got 0 (by kernel_rfl) 18 (by kernel_rfl)) rfl
          exact step_move e18 ⟨rfl, Below.refl _ _⟩
        · have e19 : a1.eval (.tmp 19) = (.bool true) := got_inj (hp.got 1 (by kernel_rfl) 19 (by kernel_rfl)) rfl
          refine step_guard rfl (t := 19) rfl (c := true) e19 (fun _ => ?_) (fun h => absurd rfl h)
          have e4 : a1.eval (.tmp 4) = (.int .i64 0) := hp.same 4 (by kernel_rfl)
          exact step_move e4 ⟨rfl, Below.refl _ _⟩
        · have e19 : a1.eval (.tmp 19) = (.bool true) := got_inj (hp.got 1 (by kernel_rfl) 19 (by kernel_rfl)) rfl
          refine step_guard rfl (t := 19) rfl (c := true) e19 (fun _ => ?_) (fun h => absurd rfl h)
          have e5 : a1.eval (.tmp 5) = (.int .i64 0) := hp.same 5 (by kernel_rfl)
          exact step_move e5 ⟨rfl, Below.refl _ _⟩
        · have e19 : a1.eval (.tmp 19) = (.bool true) := got_inj (hp.got 1 (by kernel_rfl) 19 (by kernel_rfl)) rfl
          refine step_guard rfl (t := 19) rfl (c := true) e19 (fun _ => ?_) (fun h => absurd rfl h)
          have e20 : a1.eval (.tmp 20) = (.int .i64 0) := got_inj (hp.got 2 (by kernel_rfl) 20 (by kernel_rfl)) rfl
          have e21 : a1.eval (.tmp 21) = (.int .i64 0) := got_inj (hp.got 3 (by kernel_rfl) 21 (by kernel_rfl)) rfl
          exact step_eq_int e20 e21 (by kernel_rfl) (by simp) ⟨rfl, Below.refl _ _⟩
        · have e19 : a1.eval (.tmp 19) = (.bool true) := got_inj (hp.got 1 (by kernel_rfl) 19 (by kernel_rfl)) rfl
          have e22 : a1.eval (.tmp 22) = (.bool true) := got_inj (hp.got 4 (by kernel_rfl) 22 (by kernel_rfl)) rfl
          have ec2 : a1.eval (.const (.bool false)) = (.bool false) := rfl
          exact step_pick e19 ((if_pos rfl).trans e22) ⟨rfl, Below.refl _ _⟩
        · have e23 : a1.eval (.tmp 23) = (.bool true) := got_inj (hp.got 5 (by kernel_rfl) 23 (by kernel_rfl)) rfl
          exact step_move e23 ⟨rfl, Below.refl _ _⟩
        · have e24 : a1.eval (.tmp 24) = (.bool true) := got_inj (hp.got 6 (by kernel_rfl) 24 (by kernel_rfl)) rfl
          refine step_guard rfl (t := 24) rfl (c := true) e24 (fun _ => ?_) (fun h => absurd rfl h)
          have e4 : a1.eval (.tmp 4) = (.int .i64 0) := hp.same 4 (by kernel_rfl)
          exact step_move e4 ⟨rfl, Below.refl _ _⟩
        · have e24 : a1.eval (.tmp 24) = (.bool true) := got_inj (hp.got 6 (by kernel_rfl) 24 (by kernel_rfl)) rfl
          refine step_guard rfl (t := 24) rfl (c := true) e24 (fun _ => ?_) (fun h => absurd rfl h)
          have e25 : a1.eval (.tmp 25) = (.int .i64 0) := got_inj (hp.got 7 (by kernel_rfl) 25 (by kernel_rfl)) rfl
          have ec2 : a1.eval (.const (.int .i64 0)) = (.int .i64 0) := rfl
          exact step_eq_int e25 ec2 (by kernel_rfl) (by simp) ⟨rfl, Below.refl _ _⟩
        · have e24 : a1.eval (.tmp 24) = (.bool true) := got_inj (hp.got 6 (by kernel_rfl) 24 (by kernel_rfl)) rfl
          refine step_guard rfl (t := 24) rfl (c := true) e24 (fun _ => ?_) (fun h => absurd rfl h)
          have e26 : a1.eval (.tmp 26) = (.bool true) := got_inj (hp.got 8 (by kernel_rfl) 26 (by kernel_rfl)) rfl
          exact step_move e26 ⟨rfl, Below.refl _ _⟩
        · have e27 : a1.eval (.tmp 27) = (.bool true) := got_inj (hp.got 9 (by kernel_rfl) 27 (by kernel_rfl)) rfl
          refine step_guard rfl (t := 27) rfl (c := true) e27 (fun _ => ?_) (fun h => absurd rfl h)
          have e1 : a1.eval (.tmp 1) = (.pointer (some ⟨w.heap.size, 0, none⟩)) := hp.same 1 (by kernel_rfl)
          exact step_load_blk aggC e1 rfl (HB1.out.below (hbc2.trans (hp.below.mono hbc2.size))) ⟨rfl, Below.refl _ _⟩
        · have e27 : a1.eval (.tmp 27) = (.bool true) := got_inj (hp.got 9 (by kernel_rfl) 27 (by kernel_rfl)) rfl
          refine step_guard rfl (t := 27) rfl (c := true) e27 (fun _ => ?_) (fun h => absurd rfl h)
          have e3 : a1.eval (.tmp 3) = (.pointer (some ⟨g3, 0, none⟩)) := hp.same 3 (by kernel_rfl)
          exact step_load_blk aggC e3 rfl (HS5.out.below hp.below) ⟨rfl, Below.refl _ _⟩
        · have e27 : a1.eval (.tmp 27) = (.bool true) := got_inj (hp.got 9 (by kernel_rfl) 27 (by kernel_rfl)) rfl
          refine step_guard rfl (t := 27) rfl (c := true) e27 (fun _ => ?_) (fun h => absurd rfl h)
          have e28 : a1.eval (.tmp 28) = (.agg (cmdV c A n cap).toArray) := got_inj (hp.got 10 (by kernel_rfl) 28 (by kernel_rfl)) rfl
          have e29 : a1.eval (.tmp 29) = (.agg (cmdV c D n dc).toArray) := got_inj (hp.got 11 (by kernel_rfl) 29 (by kernel_rfl)) rfl
          refine step_call Tryd.call34 (by simp only [List.map_toArray, List.map_cons, List.map_nil, e28, e29]) ((to_val (v' := (.bool true)) (command_Same c c A D n n cap dc w1 (HR1.out.below (hbc2.trans (hp.below.mono hbc2.size))) (HD5.out.below hp.below)) (by simp)).mono ?_)
          rintro e w2 ⟨rfl, hb⟩
          exact ⟨_, rfl, rfl, hb⟩
        · have e24 : a1.eval (.tmp 24) = (.bool true) := got_inj (hp.got 6 (by kernel_rfl) 24 (by kernel_rfl)) rfl
          refine step_guard rfl (t := 24) rfl (c := true) e24 (fun _ => ?_) (fun h => absurd rfl h)
          have e27 : a1.eval (.tmp 27) = (.bool true) := got_inj (hp.got 9 (by kernel_rfl) 27 (by kernel_rfl)) rfl
          have e30 : a1.eval (.tmp 30) = (.bool true) := got_inj (hp.got 12 (by kernel_rfl) 30 (by kernel_rfl)) rfl
          have ec3 : a1.eval (.const (.bool false)) = (.bool false) := rfl
          exact step_pick e27 ((if_pos rfl).trans e30) ⟨rfl, Below.refl _ _⟩
        · have e24 : a1.eval (.tmp 24) = (.bool true) := got_inj (hp.got 6 (by kernel_rfl) 24 (by kernel_rfl)) rfl
          refine step_guard rfl (t := 24) rfl (c := true) e24 (fun _ => ?_) (fun h => absurd rfl h)
          have e31 : a1.eval (.tmp 31) = (.bool true) := got_inj (hp.got 13 (by kernel_rfl) 31 (by kernel_rfl)) rfl
          exact step_move e31 ⟨rfl, Below.refl _ _⟩
        · have e32 : a1.eval (.tmp 32) = (.bool true) := got_inj (hp.got 14 (by kernel_rfl) 32 (by kernel_rfl)) rfl
          refine step_guard rfl (t := 32) rfl (c := true) e32 (fun _ => ?_) (fun h => absurd rfl h)
          have e1 : a1.eval (.tmp 1) = (.pointer (some ⟨w.heap.size, 0, none⟩)) := hp.same 1 (by kernel_rfl)
          exact step_load_blk aggC e1 rfl (HB1.out.below (hbc2.trans (hp.below.mono hbc2.size))) ⟨rfl, Below.refl _ _⟩
        · have e32 : a1.eval (.tmp 32) = (.bool true) := got_inj (hp.got 14 (by kernel_rfl) 32 (by kernel_rfl)) rfl
          refine step_guard rfl (t := 32) rfl (c := true) e32 (fun _ => ?_) (fun h => absurd rfl h)
          have e33 : a1.eval (.tmp 33) = (.agg (cmdV c A n cap).toArray) := got_inj (hp.got 15 (by kernel_rfl) 33 (by kernel_rfl)) rfl
          refine step_call Tryd.call32 (by simp only [List.map_toArray, List.map_cons, List.map_nil, e33]) ((command_Digest c A n cap w1 (HR1.out.below (hbc2.trans (hp.below.mono hbc2.size))) HC.out.nums HC.out.list (by have := F1.out; simp at this; omega) (by have := F1.out; simp at this; omega) (T2.out.below (hbw2.trans (hp.below.mono hbw2.size)) p2)).mono ?_)
          rintro e w2 ⟨rfl, hb⟩
          exact ⟨_, rfl, rfl, hb⟩
        · have e32 : a1.eval (.tmp 32) = (.bool true) := got_inj (hp.got 14 (by kernel_rfl) 32 (by kernel_rfl)) rfl
          refine step_guard rfl (t := 32) rfl (c := true) e32 (fun _ => ?_) (fun h => absurd rfl h)
          have e3 : a1.eval (.tmp 3) = (.pointer (some ⟨g3, 0, none⟩)) := hp.same 3 (by kernel_rfl)
          exact step_load_blk aggC e3 rfl (HS5.out.below hp.below) ⟨rfl, Below.refl _ _⟩
        · have e32 : a1.eval (.tmp 32) = (.bool true) := got_inj (hp.got 14 (by kernel_rfl) 32 (by kernel_rfl)) rfl
          refine step_guard rfl (t := 32) rfl (c := true) e32 (fun _ => ?_) (fun h => absurd rfl h)
          have e35 : a1.eval (.tmp 35) = (.agg (cmdV c D n dc).toArray) := got_inj (hp.got 17 (by kernel_rfl) 35 (by kernel_rfl)) rfl
          refine step_call Tryd.call32 (by simp only [List.map_toArray, List.map_cons, List.map_nil, e35]) ((command_Digest c D n dc w1 (HD5.out.below hp.below) HC.out.nums HC.out.list (by have := F1.out; simp at this; omega) (by have := F1.out; simp at this; omega) (T2.out.below (hbw2.trans (hp.below.mono hbw2.size)) p2)).mono ?_)
          rintro e w2 ⟨rfl, hb⟩
          exact ⟨_, rfl, rfl, hb⟩
        · have e32 : a1.eval (.tmp 32) = (.bool true) := got_inj (hp.got 14 (by kernel_rfl) 32 (by kernel_rfl)) rfl
          refine step_guard rfl (t := 32) rfl (c := true) e32 (fun _ => ?_) (fun h => absurd rfl h)
          have e34 : a1.eval (.tmp 34) = (.agg (bv (dig 7 [encCmd c])).toArray) := got_inj (hp.got 16 (by kernel_rfl) 34 (by kernel_rfl)) rfl
          have e36 : a1.eval (.tmp 36) = (.agg (bv (dig 7 [encCmd c])).toArray) := got_inj (hp.got 18 (by kernel_rfl) 36 (by kernel_rfl)) rfl
          exact step_eq_agg guard_digest e34 e36 (eq_digest_same _ (dig_length _ _) w1) ⟨rfl, Below.refl _ _⟩
        · have e24 : a1.eval (.tmp 24) = (.bool true) := got_inj (hp.got 6 (by kernel_rfl) 24 (by kernel_rfl)) rfl
          refine step_guard rfl (t := 24) rfl (c := true) e24 (fun _ => ?_) (fun h => absurd rfl h)
          have e32 : a1.eval (.tmp 32) = (.bool true) := got_inj (hp.got 14 (by kernel_rfl) 32 (by kernel_rfl)) rfl
          have e37 : a1.eval (.tmp 37) = (.bool true) := got_inj (hp.got 19 (by kernel_rfl) 37 (by kernel_rfl)) rfl
          have ec3 : a1.eval (.const (.bool false)) = (.bool false) := rfl
          exact step_pick e32 ((if_pos rfl).trans e37) ⟨rfl, Below.refl _ _⟩
        · have e24 : a1.eval (.tmp 24) = (.bool true) := got_inj (hp.got 6 (by kernel_rfl) 24 (by kernel_rfl)) rfl
          refine step_guard rfl (t := 24) rfl (c := true) e24 (fun _ => ?_) (fun h => absurd rfl h)
          have e38 : a1.eval (.tmp 38) = (.bool true) := got_inj (hp.got 20 (by kernel_rfl) 38 (by kernel_rfl)) rfl
          exact step_move e38 ⟨rfl, Below.refl _ _⟩
        · have e39 : a1.eval (.tmp 39) = (.bool true) := got_inj (hp.got 21 (by kernel_rfl) 39 (by kernel_rfl)) rfl
          exact step_guard rfl rfl e39 (fun h => absurd h (by decide)) (fun _ => ⟨rfl, Below.refl _ _⟩)
        · have e39 : a1.eval (.tmp 39) = (.bool true) := got_inj (hp.got 21 (by kernel_rfl) 39 (by kernel_rfl)) rfl
          exact step_guard rfl rfl e39 (fun h => absurd h (by decide)) (fun _ => ⟨rfl, Below.refl _ _⟩)
        · have e39 : a1.eval (.tmp 39) = (.bool true) := got_inj (hp.got 21 (by kernel_rfl) 39 (by kernel_rfl)) rfl
          exact step_guard rfl rfl e39 (fun h => absurd h (by decide)) (fun _ => ⟨rfl, Below.refl _ _⟩)
        · have e42 : a1.eval (.tmp 42) = undef := got_inj (hp.got 24 (by kernel_rfl) 42 (by kernel_rfl)) rfl
          exact step_guard_un rfl (t := 42) rfl e42 (⟨rfl, Below.refl _ _⟩)
        · have e42 : a1.eval (.tmp 42) = undef := got_inj (hp.got 24 (by kernel_rfl) 42 (by kernel_rfl)) rfl
          exact step_guard_un rfl (t := 42) rfl e42 (⟨rfl, Below.refl _ _⟩)
        · have e42 : a1.eval (.tmp 42) = undef := got_inj (hp.got 24 (by kernel_rfl) 42 (by kernel_rfl)) rfl
          exact step_guard_un rfl (t := 42) rfl e42 (⟨rfl, Below.refl _ _⟩)
        · have e39 : a1.eval (.tmp 39) = (.bool true) := got_inj (hp.got 21 (by kernel_rfl) 39 (by kernel_rfl)) rfl
          exact step_guard rfl rfl e39 (fun h => absurd h (by decide)) (fun _ => ⟨rfl, Below.refl _ _⟩)
        · have e24 : a1.eval (.tmp 24) = (.bool true) := got_inj (hp.got 6 (by kernel_rfl) 24 (by kernel_rfl)) rfl
          refine step_guard rfl (t := 24) rfl (c := true) e24 (fun _ => ?_) (fun h => absurd rfl h)
          have e39 : a1.eval (.tmp 39) = (.bool true) := got_inj (hp.got 21 (by kernel_rfl) 39 (by kernel_rfl)) rfl
          have ec2 : a1.eval (.const (.bool true)) = (.bool true) := rfl
          have e46 : a1.eval (.tmp 46) = undef := got_inj (hp.got 28 (by kernel_rfl) 46 (by kernel_rfl)) rfl
          exact step_pick e39 ((if_pos rfl).trans ec2) ⟨rfl, Below.refl _ _⟩
        · have e24 : a1.eval (.tmp 24) = (.bool true) := got_inj (hp.got 6 (by kernel_rfl) 24 (by kernel_rfl)) rfl
          have e47 : a1.eval (.tmp 47) = (.bool true) := got_inj (hp.got 29 (by kernel_rfl) 47 (by kernel_rfl)) rfl
          have ec2 : a1.eval (.const (.bool false)) = (.bool false) := rfl
          exact step_pick e24 ((if_pos rfl).trans e47) ⟨rfl, Below.refl _ _⟩
      · intro w1 v A hb hv hd hs
        obtain rfl : v = (.bool true) := got_inj (hv) rfl
        clear hv
        have hbz := hbw2.trans (hb.mono hbw2.size)
        go_wp2_with fail
        refine ret_set rfl (by rw [hs]; simp) ?_
        exact ⟨rfl, hbz⟩
    · rw [if_neg hk] at hdec
      have HK := Shut.mk hk
      have HDEC := Shut.mk hdec
      clear hk hdec
      go_enter Tryd.func5, Tryd.ntmps5
      go_wp2_with (with_reducible refine stop_load ?_)
      change StopAt _ _ _ _ _ _ (w.alloc (.cells (cmdV c A n cap).toArray 24))
      have HB1 := Shut.mk hB1
      have HR1 := Shut.mk hR1
      clear hB1 hR1
      generalize w.alloc (.cells (cmdV c A n cap).toArray 24) = w0 at *
      refine at_load_blk aggC rfl rfl HB1.out ?_
      go_wp2_with fail
      refine (law28_few c A n cap w0 (by have := HC.out.data; omega)).mono ?_
      rintro e w1 ⟨rfl, hbc⟩
      have hbw1 := hbw.trans (hbc.mono hbw.size)
      rw [F1.out]
      go_wp2_with (with_reducible refine stop_load ?_)
      refine at_load_blk aggC rfl rfl (HB1.out.below hbc) ?_
      go_wp2_with fail
      refine (command_Encode c A n cap w1 (HR1.out.below hbc) HC.out.nums HC.out.list (by have := F1.out; simp at this; omega) (by have := F1.out; simp at this; omega)).mono ?_
      rintro e w2 ⟨B, b, rfl, hown, hb2⟩
      have hrd := own_Rd hown
      have hcb := own_cap hown
      have hbc2 := hbc.trans (hb2.mono hbc.size)
      have hbw2 := hbw.trans (hbc2.mono hbw.size)
      clear hown hb2 hbc hbw1
      clear w1
      have HRD := Shut.mk hrd
      clear hrd
      go_wp2_with fail
      refine (command_Decode (encCmd c) B (encCmd c).length b w2 HRD.out hcb (by have := LE1.out; omega) (T1.out.below hbw2 p1)).mono ?_
      rintro e w3 ⟨hb3, hpost⟩
      rw [HDEC.out] at hpost
      obtain rfl := hpost
      have hbc3 := hbc2.trans (hb3.mono hbc2.size)
      clear hb3 hbc2 hbw2 HRD hcb
      clear w2
      go_wp2_with (with_reducible refine stop_store ?_)
      refine at_store_new aggC (vs := cmdV zeroCmd none 0 0) rfl rfl rfl rfl (cmdV_one zeroCmd none 0 0) ?_
      intro w4 hS hb4 hz4
      have hbc4 := hbc3.trans (hb4.mono hbc3.size)
      have HS1 := Shut.mk hS
      clear hS hb4 hbc3 hz4
      generalize w3.heap.size = g3 at *
      clear w3
      go_wp2_with (with_reducible refine stop_load ?_)
      refine at_load_blk aggC rfl rfl (HB1.out.below hbc4) ?_
      go_wp2_with fail
      refine (command_Check c A n cap w4 (HR1.out.below hbc4) (by have := HC.out.data; omega) (HC.out.nums _ (by simp [nums])) (T1.out.below (hbw.trans (hbc4.mono hbw.size)) p1)).mono ?_
      rintro e w5 ⟨rfl, hb5⟩
      have HS5 := Shut.mk (HS1.out.below hb5)
      have hbc2 := hbc4.trans (hb5.mono hbc4.size)
      have hbw2 := hbw.trans (hbc2.mono hbw.size)
      clear hb5 hbc4 HS1
      clear w4
      generalize check c = k at *
      go_wp2_with fail
      refine wp_region_last 31 (fun i v w1 => ([(.bool true), (.bool true), (.int .i64 (k : Int)), (.int .i64 (k : Int)), (.bool true), (.bool true), (.bool true), (.int .i64 (k : Int)), (.bool false), (.bool false), undef, undef, undef, (.bool false), (.bool false), undef, undef, undef, undef, undef, (.bool false), (.bool false), (.int .i64 (k : Int)), (.bool true), (.bool true), (.agg (cmdV zeroCmd none 0 0).toArray), (.agg (cmdV zeroCmd none 0 0).toArray), (.bool true), (.bool true), (.bool true), (.bool true)] : List Value)[i]? = some v) (by kernel_rfl) (by kernel_rfl) ?_ ?_ rfl (j := 30) (by decide) rfl ?_
      · intro i v w1 w2 hi h hb
        exact h
      · refine Steps.cons (fun a1 w1 hp => ?_) (Steps.cons (fun a1 w1 hp => ?_) (Steps.cons (fun a1 w1 hp => ?_) (Steps.cons (fun a1 w1 hp => ?_) (Steps.cons (fun a1 w1 hp => ?_) (Steps.cons (fun a1 w1 hp => ?_) (Steps.cons (fun a1 w1 hp => ?_) (Steps.cons (fun a1 w1 hp => ?_) (Steps.cons (fun a1 w1 hp => ?_) (Steps.cons (fun a1 w1 hp => ?_) (Steps.cons (fun a1 w1 hp => ?_) (Steps.cons (fun a1 w1 hp => ?_) (Steps.cons (fun a1 w1 hp => ?_) (Steps.cons (fun a1 w1 hp => ?_) (Steps.cons (fun a1 w1 hp => ?_) (Steps.cons (fun a1 w1 hp => ?_) (Steps.cons (fun a1 w1 hp => ?_) (Steps.cons (fun a1 w1 hp => ?_) (Steps.cons (fun a1 w1 hp => ?_) (Steps.cons (fun a1 w1 hp => ?_) (Steps.cons (fun a1 w1 hp => ?_) (Steps.cons (fun a1 w1 hp => ?_) (Steps.cons (fun a1 w1 hp => ?_) (Steps.cons (fun a1 w1 hp => ?_) (Steps.cons (fun a1 w1 hp => ?_) (Steps.cons (fun a1 w1 hp => ?_) (Steps.cons (fun a1 w1 hp => ?_) (Steps.cons (fun a1 w1 hp => ?_) (Steps.cons (fun a1 w1 hp => ?_) (Steps.cons (fun a1 w1 hp => ?_) (Steps.cons (fun a1 w1 hp => ?_) (Steps.nil)))))))))))))))))))))))))))))))
        · refine step_call Tryd.call22 (args := #[]) (by simp) ((HS.out w1 (hbw2.trans (hp.below.mono hbw2.size))).mono ?_)
          rintro e w2 ⟨rfl, hb⟩
          exact ⟨_, rfl, rfl, hb⟩
        · have e18 : a1.eval (.tmp 18) = (.bool true) := got_inj (hp.got 0 (by kernel_rfl) 18 (by kernel_rfl)) rfl
          exact step_move e18 ⟨rfl, Below.refl _ _⟩
        · have e19 : a1.eval (.tmp 19) = (.bool true) := got_inj (hp.got 1 (by kernel_rfl) 19 (by kernel_rfl)) rfl
          refine step_guard rfl (t := 19) rfl (c := true) e19 (fun _ => ?_) (fun h => absurd rfl h)
          have e4 : a1.eval (.tmp 4) = (.int .i64 (k : Int)) := hp.same 4 (by kernel_rfl)
          exact step_move e4 ⟨rfl, Below.refl _ _⟩
        · have e19 : a1.eval (.tmp 19) = (.bool true) := got_inj (hp.got 1 (by kernel_rfl) 19 (by kernel_rfl)) rfl
          refine step_guard rfl (t := 19) rfl (c := true) e19 (fun _ => ?_) (fun h => absurd rfl h)
          have e5 : a1.eval (.tmp 5) = (.int .i64 (k : Int)) := hp.same 5 (by kernel_rfl)
          exact step_move e5 ⟨rfl, Below.refl _ _⟩
        · have e19 : a1.eval (.tmp 19) = (.bool true) := got_inj (hp.got 1 (by kernel_rfl) 19 (by kernel_rfl)) rfl
          refine step_guard rfl (t := 19) rfl (c := true) e19 (fun _ => ?_) (fun h => absurd rfl h)
          have e20 : a1.eval (.tmp 20) = (.int .i64 (k : Int)) := got_inj (hp.got 2 (by kernel_rfl) 20 (by kernel_rfl)) rfl
          have e21 : a1.eval (.tmp 21) = (.int .i64 (k : Int)) := got_inj (hp.got 3 (by kernel_rfl) 21 (by kernel_rfl)) rfl
          exact step_eq_int e20 e21 (by kernel_rfl) (by simp) ⟨rfl, Below.refl _ _⟩
        · have e19 : a1.eval (.tmp 19) = (.bool true) := got_inj (hp.got 1 (by kernel_rfl) 19 (by kernel_rfl)) rfl
          have e22 : a1.eval (.tmp 22) = (.bool true) := got_inj (hp.got 4 (by kernel_rfl) 22 (by kernel_rfl)) rfl
          have ec2 : a1.eval (.const (.bool false)) = (.bool false) := rfl
          exact step_pick e19 ((if_pos rfl).trans e22) ⟨rfl, Below.refl _ _⟩
        · have e23 : a1.eval (.tmp 23) = (.bool true) := got_inj (hp.got 5 (by kernel_rfl) 23 (by kernel_rfl)) rfl
          exact step_move e23 ⟨rfl, Below.refl _ _⟩
        · have e24 : a1.eval (.tmp 24) = (.bool true) := got_inj (hp.got 6 (by kernel_rfl) 24 (by kernel_rfl)) rfl
          refine step_guard rfl (t := 24) rfl (c := true) e24 (fun _ => ?_) (fun h => absurd rfl h)
          have e4 : a1.eval (.tmp 4) = (.int .i64 (k : Int)) := hp.same 4 (by kernel_rfl)
          exact step_move e4 ⟨rfl, Below.refl _ _⟩
        · have e24 : a1.eval (.tmp 24) = (.bool true) := got_inj (hp.got 6 (by kernel_rfl) 24 (by kernel_rfl)) rfl
          refine step_guard rfl (t := 24) rfl (c := true) e24 (fun _ => ?_) (fun h => absurd rfl h)
          have e25 : a1.eval (.tmp 25) = (.int .i64 (k : Int)) := got_inj (hp.got 7 (by kernel_rfl) 25 (by kernel_rfl)) rfl
          have ec2 : a1.eval (.const (.int .i64 0)) = (.int .i64 0) := rfl
          exact step_eq_int e25 ec2 (by kernel_rfl) (by have := HK.out; simp; omega) ⟨rfl, Below.refl _ _⟩
        · have e24 : a1.eval (.tmp 24) = (.bool true) := got_inj (hp.got 6 (by kernel_rfl) 24 (by kernel_rfl)) rfl
          refine step_guard rfl (t := 24) rfl (c := true) e24 (fun _ => ?_) (fun h => absurd rfl h)
          have e26 : a1.eval (.tmp 26) = (.bool false) := got_inj (hp.got 8 (by kernel_rfl) 26 (by kernel_rfl)) rfl
          exact step_move e26 ⟨rfl, Below.refl _ _⟩
        · have e27 : a1.eval (.tmp 27) = (.bool false) := got_inj (hp.got 9 (by kernel_rfl) 27 (by kernel_rfl)) rfl
          exact step_guard rfl rfl e27 (fun h => absurd h (by decide)) (fun _ => ⟨rfl, Below.refl _ _⟩)
        · have e27 : a1.eval (.tmp 27) = (.bool false) := got_inj (hp.got 9 (by kernel_rfl) 27 (by kernel_rfl)) rfl
          exact step_guard rfl rfl e27 (fun h => absurd h (by decide)) (fun _ => ⟨rfl, Below.refl _ _⟩)
        · have e27 : a1.eval (.tmp 27) = (.bool false) := got_inj (hp.got 9 (by kernel_rfl) 27 (by kernel_rfl)) rfl
          exact step_guard rfl rfl e27 (fun h => absurd h (by decide)) (fun _ => ⟨rfl, Below.refl _ _⟩)
        · have e24 : a1.eval (.tmp 24) = (.bool true) := got_inj (hp.got 6 (by kernel_rfl) 24 (by kernel_rfl)) rfl
          refine step_guard rfl (t := 24) rfl (c := true) e24 (fun _ => ?_) (fun h => absurd rfl h)
          have e27 : a1.eval (.tmp 27) = (.bool false) := got_inj (hp.got 9 (by kernel_rfl) 27 (by kernel_rfl)) rfl
          have e30 : a1.eval (.tmp 30) = undef := got_inj (hp.got 12 (by kernel_rfl) 30 (by kernel_rfl)) rfl
          have ec3 : a1.eval (.const (.bool false)) = (.bool false) := rfl
          exact step_pick e27 ((if_neg (by decide)).trans ec3) ⟨rfl, Below.refl _ _⟩
        · have e24 : a1.eval (.tmp 24) = (.bool true) := got_inj (hp.got 6 (by kernel_rfl) 24 (by kernel_rfl)) rfl
          refine step_guard rfl (t := 24) rfl (c := true) e24 (fun _ => ?_) (fun h => absurd rfl h)
          have e31 : a1.eval (.tmp 31) = (.bool false) := got_inj (hp.got 13 (by kernel_rfl) 31 (by kernel_rfl)) rfl
          exact step_move e31 ⟨rfl, Below.refl _ _⟩
        · have e32 : a1.eval (.tmp 32) = (.bool false) := got_inj (hp.got 14 (by kernel_rfl) 32 (by kernel_rfl)) rfl
          exact step_guard rfl rfl e32 (fun h => absurd h (by decide)) (fun _ => ⟨rfl, Below.refl _ _⟩)
        · have e32 : a1.eval (.tmp 32) = (.bool false) := got_inj (hp.got 14 (by kernel_rfl) 32 (by kernel_rfl)) rfl
          exact step_guard rfl rfl e32 (fun h => absurd h (by decide)) (fun _ => ⟨rfl, Below.refl _ _⟩)
        · have e32 : a1.eval (.tmp 32) = (.bool false) := got_inj (hp.got 14 (by kernel_rfl) 32 (by kernel_rfl)) rfl
          exact step_guard rfl rfl e32 (fun h => absurd h (by decide)) (fun _ => ⟨rfl, Below.refl _ _⟩)
        · have e32 : a1.eval (.tmp 32) = (.bool false) := got_inj (hp.got 14 (by kernel_rfl) 32 (by kernel_rfl)) rfl
          exact step_guard rfl rfl e32 (fun h => absurd h (by decide)) (fun _ => ⟨rfl, Below.refl _ _⟩)
        · have e32 : a1.eval (.tmp 32) = (.bool false) := got_inj (hp.got 14 (by kernel_rfl) 32 (by kernel_rfl)) rfl
          exact step_guard rfl rfl e32 (fun h => absurd h (by decide)) (fun _ => ⟨rfl, Below.refl _ _⟩)
        · have e24 : a1.eval (.tmp 24) = (.bool true) := got_inj (hp.got 6 (by kernel_rfl) 24 (by kernel_rfl)) rfl
          refine step_guard rfl (t := 24) rfl (c := true) e24 (fun _ => ?_) (fun h => absurd rfl h)
          have e32 : a1.eval (.tmp 32) = (.bool false) := got_inj (hp.got 14 (by kernel_rfl) 32 (by kernel_rfl)) rfl
          have e37 : a1.eval (.tmp 37) = undef := got_inj (hp.got 19 (by kernel_rfl) 37 (by kernel_rfl)) rfl
          have ec3 : a1.eval (.const (.bool false)) = (.bool false) := rfl
          exact step_pick e32 ((if_neg (by decide)).trans ec3) ⟨rfl, Below.refl _ _⟩
        · have e24 : a1.eval (.tmp 24) = (.bool true) := got_inj (hp.got 6 (by kernel_rfl) 24 (by kernel_rfl)) rfl
          refine step_guard rfl (t := 24) rfl (c := true) e24 (fun _ => ?_) (fun h => absurd rfl h)
          have e38 : a1.eval (.tmp 38) = (.bool false) := got_inj (hp.got 20 (by kernel_rfl) 38 (by kernel_rfl)) rfl
          exact step_move e38 ⟨rfl, Below.refl _ _⟩
        · have e39 : a1.eval (.tmp 39) = (.bool false) := got_inj (hp.got 21 (by kernel_rfl) 39 (by kernel_rfl)) rfl
          refine step_guard rfl (t := 39) rfl (c := false) e39 (fun _ => ?_) (fun h => absurd rfl h)
          have e4 : a1.eval (.tmp 4) = (.int .i64 (k : Int)) := hp.same 4 (by kernel_rfl)
          exact step_move e4 ⟨rfl, Below.refl _ _⟩
        · have e39 : a1.eval (.tmp 39) = (.bool false) := got_inj (hp.got 21 (by kernel_rfl) 39 (by kernel_rfl)) rfl
          refine step_guard rfl (t := 39) rfl (c := false) e39 (fun _ => ?_) (fun h => absurd rfl h)
          have e40 : a1.eval (.tmp 40) = (.int .i64 (k : Int)) := got_inj (hp.got 22 (by kernel_rfl) 40 (by kernel_rfl)) rfl
          have ec2 : a1.eval (.const (.int .i64 0)) = (.int .i64 0) := rfl
          exact step_neq_int e40 ec2 (by kernel_rfl) (by have := HK.out; simp; omega) ⟨rfl, Below.refl _ _⟩
        · have e39 : a1.eval (.tmp 39) = (.bool false) := got_inj (hp.got 21 (by kernel_rfl) 39 (by kernel_rfl)) rfl
          refine step_guard rfl (t := 39) rfl (c := false) e39 (fun _ => ?_) (fun h => absurd rfl h)
          have e41 : a1.eval (.tmp 41) = (.bool true) := got_inj (hp.got 23 (by kernel_rfl) 41 (by kernel_rfl)) rfl
          exact step_move e41 ⟨rfl, Below.refl _ _⟩
        · have e42 : a1.eval (.tmp 42) = (.bool true) := got_inj (hp.got 24 (by kernel_rfl) 42 (by kernel_rfl)) rfl
          refine step_guard rfl (t := 42) rfl (c := true) e42 (fun _ => ?_) (fun h => absurd rfl h)
          have e3 : a1.eval (.tmp 3) = (.pointer (some ⟨g3, 0, none⟩)) := hp.same 3 (by kernel_rfl)
          exact step_load_blk aggC e3 rfl (HS5.out.below hp.below) ⟨rfl, Below.refl _ _⟩
        · have e42 : a1.eval (.tmp 42) = (.bool true) := got_inj (hp.got 24 (by kernel_rfl) 42 (by kernel_rfl)) rfl
          refine step_guard rfl (t := 42) rfl (c := true) e42 (fun _ => ?_) (fun h => absurd rfl h)
          exact step_run (v := .agg (cmdV zeroCmd none 0 0).toArray) (by kernel_rfl) ⟨rfl, Below.refl _ _⟩
        · have e42 : a1.eval (.tmp 42) = (.bool true) := got_inj (hp.got 24 (by kernel_rfl) 42 (by kernel_rfl)) rfl
          refine step_guard rfl (t := 42) rfl (c := true) e42 (fun _ => ?_) (fun h => absurd rfl h)
          have e43 : a1.eval (.tmp 43) = (.agg (cmdV zeroCmd none 0 0).toArray) := got_inj (hp.got 25 (by kernel_rfl) 43 (by kernel_rfl)) rfl
          have e44 : a1.eval (.tmp 44) = (.agg (cmdV zeroCmd none 0 0).toArray) := got_inj (hp.got 26 (by kernel_rfl) 44 (by kernel_rfl)) rfl
          refine step_call Tryd.call35 (by simp only [List.map_toArray, List.map_cons, List.map_nil, e43, e44]) ((to_val (v' := (.bool true)) (ref28_Same zeroCmd zeroCmd none none 0 0 0 0 w1 (by omega) (by omega) (Rd.empty w1 none 1) (Rd.empty w1 none 1)) (by simp)).mono ?_)
          rintro e w2 ⟨rfl, hb⟩
          exact ⟨_, rfl, rfl, hb⟩
        · have e39 : a1.eval (.tmp 39) = (.bool false) := got_inj (hp.got 21 (by kernel_rfl) 39 (by kernel_rfl)) rfl
          refine step_guard rfl (t := 39) rfl (c := false) e39 (fun _ => ?_) (fun h => absurd rfl h)
          have e42 : a1.eval (.tmp 42) = (.bool true) := got_inj (hp.got 24 (by kernel_rfl) 42 (by kernel_rfl)) rfl
          have e45 : a1.eval (.tmp 45) = (.bool true) := got_inj (hp.got 27 (by kernel_rfl) 45 (by kernel_rfl)) rfl
          have ec3 : a1.eval (.const (.bool false)) = (.bool false) := rfl
          exact step_pick e42 ((if_pos rfl).trans e45) ⟨rfl, Below.refl _ _⟩
        · have e24 : a1.eval (.tmp 24) = (.bool true) := got_inj (hp.got 6 (by kernel_rfl) 24 (by kernel_rfl)) rfl
          refine step_guard rfl (t := 24) rfl (c := true) e24 (fun _ => ?_) (fun h => absurd rfl h)
          have e39 : a1.eval (.tmp 39) = (.bool false) := got_inj (hp.got 21 (by kernel_rfl) 39 (by kernel_rfl)) rfl
          have ec2 : a1.eval (.const (.bool true)) = (.bool true) := rfl
          have e46 : a1.eval (.tmp 46) = (.bool true) := got_inj (hp.got 28 (by kernel_rfl) 46 (by kernel_rfl)) rfl
          exact step_pick e39 ((if_neg (by decide)).trans e46) ⟨rfl, Below.refl _ _⟩
        · have e24 : a1.eval (.tmp 24) = (.bool true) := got_inj (hp.got 6 (by kernel_rfl) 24 (by kernel_rfl)) rfl
          have e47 : a1.eval (.tmp 47) = (.bool true) := got_inj (hp.got 29 (by kernel_rfl) 47 (by kernel_rfl)) rfl
          have ec2 : a1.eval (.const (.bool false)) = (.bool false) := rfl
          exact step_pick e24 ((if_pos rfl).trans e47) ⟨rfl, Below.refl _ _⟩
      · intro w1 v A hb hv hd hs
        obtain rfl : v = (.bool true) := got_inj (hv) rfl
        clear hv
        have hbz := hbw2.trans (hb.mono hbw2.size)
        go_wp2_with fail
        refine ret_set rfl (by rw [hs]; simp) ?_
        exact ⟨rfl, hbz⟩
  · have F1 := Shut.mk (Bool.eq_false_iff.2 f1)
    clear f1
    go_enter Tryd.func5, Tryd.ntmps5
    go_wp2_with (with_reducible refine stop_load ?_)
    change StopAt _ _ _ _ _ _ (w.alloc (.cells (cmdV c A n cap).toArray 24))
    have HB1 := Shut.mk hB1
    have HR1 := Shut.mk hR1
    clear hB1 hR1
    generalize w.alloc (.cells (cmdV c A n cap).toArray 24) = w0 at *
    refine at_load_blk aggC rfl rfl HB1.out ?_
    go_wp2_with fail
    refine (law28_few c A n cap w0 (by have := HC.out.data; omega)).mono ?_
    rintro e w1 ⟨rfl, hbc⟩
    have hbw1 := hbw.trans (hbc.mono hbw.size)
    rw [F1.out]
    go_wp2_with fail
    refine (HS.out w1 hbw1).mono ?_
    rintro e w9 ⟨rfl, hb9⟩
    go_wp2_with fail
    go_ret
    exact ⟨rfl, hbw1.trans (hb9.mono hbw1.size)⟩
end Go.Proofs.YtedegedceeefdaaDoor

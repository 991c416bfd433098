/- For every command custodylaw28.CommandFields returns true and the arguments read afterwards as before (the tied card of the seat); no condition beyond those of the given statement. -/
import Derived.Test.YtedegedceeefdaaDoorJLA
import Derived.Test.YtedegedceeefdaaDoorJKK
import Derived.Test.YtedegedceeefdaaDoorJLC
import Derived.Test.YtedegedceeefdaaDoorJMF
import Derived.Test.YtedegedceeefdaaDoorJQH
import Derived.Test.YtedegedceeefdaaDoorTie
import Derived.Test.YtedegedceeefdaaDoorCards
set_option linter.all false
set_option linter.unusedVariables false
set_option linter.unusedSimpArgs false
set_option linter.unnecessarySimpa false
set_option linter.deprecated false
/-! Walks: custodylaw28.CommandNames. -/
namespace Go.Proofs.YtedegedceeefdaaDoor
open Go.RowKit Go.Cw Cu
set_option maxRecDepth 100000
set_option maxHeartbeats 2000000
set_option linter.unusedVariables false
set_option linter.unusedSimpArgs false
theorem names_in (k : Nat) (hk : k < 27) : nameOf ((k : Int) + 1) ≠ [] ∧ kindI (nameOf ((k : Int) + 1)) = (k : Int) := by
  have : ∀ j : Fin 27, nameOf ((j.val : Int) + 1) ≠ [] ∧ kindI (nameOf ((j.val : Int) + 1)) = (j.val : Int) := by decide +kernel
  exact this ⟨k, hk⟩
theorem kind_nil : kindI [] = -1 := by decide +kernel
theorem law28_Names (n : Int) (hn : inI64 n) (w : World) (t1 : Tab w 0 rowsV) (t2 : Tab w 4 (uv ks)) (t3 : Tab w 1 (uv ks)) :
    Calls Tryd.prog 8 #[.int .i64 n] w fun e w' => e = .returned (.bool true) ∧ Below w.heap.size w w' := by
  have p1 : 0 < w.heap.size := t1.lt rfl
  have p2 : 4 < w.heap.size := t2.lt rfl
  have p3 : 1 < w.heap.size := t3.lt rfl
  have hname := command_Name n hn w t1
  have hkind := command_Kind (nameOf n) w t1
  have HS := fun w1 (h : Below w.heap.size w w1) => law28_sanity w1 (t1.below h p1) (t2.below h p2) (t3.below h p3)
  clear t1 t2 t3
  rcases isKind_split n with ⟨k, hk27, rfl, hK⟩ | hK
  · obtain ⟨h1, h2⟩ := names_in k hk27
    rw [h2] at hkind
    generalize nameOf ((k : Int) + 1) = s at *
    have HNAME := Shut.mk hname
    have HKIND := Shut.mk hkind
    have HSAN := Shut.mk HS
    have H1 := Shut.mk h1
    clear hname hkind HS h1 h2 hK
    have g1 : decide ((k : Int) + 1 < 1) = false := by simp; omega
    have g2 : decide (27 < (k : Int) + 1) = false := by simp; omega
    have g3 : decide ((0 : Int) ≤ (k : Int)) = true := by simp
    go_enter Tryd.func8, Tryd.ntmps8
    go_wp2_with fail
    refine HNAME.out.mono ?_
    rintro e w1 ⟨rfl, rfl⟩
    go_wp2_with fail
    refine HKIND.out.mono ?_
    rintro e w1 ⟨rfl, hb1⟩
    go_wp2_with fail
    refine (HSAN.out w1 hb1).mono ?_
    rintro e w2 ⟨rfl, hb2⟩
    have g4 : (s == ([] : List UInt8)) = false := by have := H1.out; simp [this]
    go_wp2_with fail
    go_ret
    exact ⟨rfl, hb1.trans (hb2.mono hb1.size)⟩
  · have hs : nameOf n = [] := by unfold nameOf; rw [hK]; rfl
    rw [hs] at hname hkind
    rw [kind_nil] at hkind
    have HNAME := Shut.mk hname
    have HKIND := Shut.mk hkind
    have HSAN := Shut.mk HS
    clear hname hkind HS hs
    by_cases h1 : n < 1
    · have g1 : decide (n < 1) = true := by simp [h1]
      clear hK
      go_enter Tryd.func8, Tryd.ntmps8
      go_wp2_with fail
      refine HNAME.out.mono ?_
      rintro e w1 ⟨rfl, rfl⟩
      go_wp2_with fail
      refine HKIND.out.mono ?_
      rintro e w1 ⟨rfl, hb1⟩
      go_wp2_with fail
      refine (HSAN.out w1 hb1).mono ?_
      rintro e w2 ⟨rfl, hb2⟩
      go_wp2_with fail
      go_ret
      exact ⟨rfl, hb1.trans (hb2.mono hb1.size)⟩
    · have g1 : decide (n < 1) = false := by simp [h1]
      have g2 : decide (27 < n) = true := by unfold isKind at hK; simp at hK; simp; omega
      clear hK
      go_enter Tryd.func8, Tryd.ntmps8
      go_wp2_with fail
      refine HNAME.out.mono ?_
      rintro e w1 ⟨rfl, rfl⟩
      go_wp2_with fail
      refine HKIND.out.mono ?_
      rintro e w1 ⟨rfl, hb1⟩
      go_wp2_with fail
      refine (HSAN.out w1 hb1).mono ?_
      rintro e w2 ⟨rfl, hb2⟩
      go_wp2_with fail
      go_ret
      exact ⟨rfl, hb1.trans (hb2.mono hb1.size)⟩
end Go.Proofs.YtedegedceeefdaaDoor
/-! Walks: custodylaw28, CommandFields. -/
namespace Go.Proofs.YtedegedceeefdaaDoor
open Go.RowKit Go.Cw Cu
set_option maxRecDepth 100000
set_option maxHeartbeats 2000000
set_option linter.unusedVariables false
set_option linter.unusedSimpArgs false
theorem law28_Fields (c : Cmd) (A : Option Addr) (n cap : Nat) (w : World) (h1 : Rd w A n 1 (iv c.list)) (hc : InC c)
    (t1 : Tab w 0 rowsV) (t2 : Tab w 4 (uv ks)) (t3 : Tab w 1 (uv ks)) :
    Calls Tryd.prog 7 #[.agg (cmdV c A n cap).toArray] w fun e w' => e = .returned (.bool true) ∧ Below w.heap.size w w' := by
  have p1 : 0 < w.heap.size := t1.lt rfl
  have p2 : 4 < w.heap.size := t2.lt rfl
  have p3 : 1 < w.heap.size := t3.lt rfl
  have HS := Shut.mk (fun w1 (h : Below w.heap.size w w1) => law28_sanity w1 (t1.below h p1) (t2.below h p2) (t3.below h p3))
  have T1 := Shut.mk t1
  have T2 := Shut.mk t2
  have T3 := Shut.mk t3
  clear t1 t2 t3
  have HC := Shut.mk hc
  have el1 : n = c.list.length := by have := h1.len; rw [iv_length] at this; omega
  have EL1 := Shut.mk el1
  clear hc el1
  have hB1 := Blk.new w 24 (cmdV c A n cap)
  have hbw := below_alloc w (.cells (cmdV c A n cap).toArray 24)
  have hR1 := h1.below hbw
  clear h1
  by_cases f1 : (decide (c.data.length ≤ 3000) && decide (n ≤ 200)) = true
  · have F1 := Shut.mk f1
    clear f1
    by_cases hk : check c = 0
    · have hfit := fit_of hk
      have HK := Shut.mk hk
      clear hk
      by_cases k1 : c.kind = 14 ∨ c.kind = 16 ∨ c.kind = 20 ∨ c.kind = 21 ∨ c.kind = 22 ∨ c.kind = 26
      · have hcc := fit_none hfit (uses_none _ k1)
        obtain ⟨K, K1, K2, K3, K4, K5, D, L⟩ := c
        simp only [Cmd.mk.injEq, true_and] at hcc
        obtain ⟨rfl, rfl, rfl, rfl, rfl, rfl, rfl⟩ := hcc
        simp only at k1
        clear hfit
        rcases k1 with rfl | rfl | rfl | rfl | rfl | rfl
        · skip
          go_enter Tryd.func7, Tryd.ntmps7
          go_wp2_with (with_reducible refine stop_load ?_)
          change StopAt _ _ _ _ _ _ (w.alloc (.cells (cmdV ⟨14, 0, 0, 0, 0, 0, [], []⟩ A n cap).toArray 24))
          have HB1 := Shut.mk hB1
          have HR1 := Shut.mk hR1
          clear hB1 hR1
          generalize w.alloc (.cells (cmdV ⟨14, 0, 0, 0, 0, 0, [], []⟩ A n cap).toArray 24) = w0 at *
          refine at_load_blk aggC rfl rfl HB1.out ?_
          go_wp2_with fail
          refine (law28_few ⟨14, 0, 0, 0, 0, 0, [], []⟩ A n cap w0 (by have := HC.out.data; omega)).mono ?_
          rintro e w1 ⟨rfl, hbc⟩
          have hbw1 := hbw.trans (hbc.mono hbw.size)
          rw [F1.out]
          go_wp2_with (with_reducible refine stop_load ?_)
          refine stop_want rfl ?_
          refine at_load_blk aggC rfl rfl (HB1.out.below hbc) ?_
          go_wp2_with fail
          refine (command_Check ⟨14, 0, 0, 0, 0, 0, [], []⟩ A n cap w1 (HR1.out.below hbc) (by have := HC.out.data; omega) (HC.out.nums _ (by simp [nums])) (T1.out.below hbw1 p1)).mono ?_
          rintro e w2 ⟨rfl, hb2⟩
          have hbc2 := hbc.trans (hb2.mono hbc.size)
          have hbw2 := hbw.trans (hbc2.mono hbw.size)
          clear hb2 hbc hbw1
          clear w1
          rw [HK.out]
          have k0 := (HB1.out.below hbc2).cell (j := 0) rfl
          go_wp2_with fail
          refine (HS.out w2 hbw2).mono ?_
          rintro e w3 ⟨rfl, hb3⟩
          have hbc3 := hbc2.trans (hb3.mono hbc2.size)
          have hbw3 := hbw.trans (hbc3.mono hbw.size)
          clear k0 hb3 hbc2 hbw2
          clear w2
          go_wp2_with (with_reducible refine stop_load (t := 24) ?_)
          refine stop_want rfl ?_
          refine at_load_blk aggC rfl rfl (HB1.out.below hbc3) ?_
          have k0 := (HB1.out.below hbc3).cell (j := 0) rfl
          go_wp2_with fail
          refine (command_Same ⟨14, 0, 0, 0, 0, 0, [], []⟩ ⟨14, 0, 0, 0, 0, 0, [], []⟩ A none n 0 cap 0 w3 (HR1.out.below hbc3) (Rd.empty w3 none 1)).mono ?_
          rintro e w4 ⟨rfl, hb4⟩
          rw [decide_eq_true (rfl : (⟨14, 0, 0, 0, 0, 0, [], []⟩ : Cmd) = ⟨14, 0, 0, 0, 0, 0, [], []⟩)]
          go_wp2_with fail
          go_ret
          exact ⟨rfl, hbw3.trans (hb4.mono hbw3.size)⟩
        · skip
          go_enter Tryd.func7, Tryd.ntmps7
          go_wp2_with (with_reducible refine stop_load ?_)
          change StopAt _ _ _ _ _ _ (w.alloc (.cells (cmdV ⟨16, 0, 0, 0, 0, 0, [], []⟩ A n cap).toArray 24))
          have HB1 := Shut.mk hB1
          have HR1 := Shut.mk hR1
          clear hB1 hR1
          generalize w.alloc (.cells (cmdV ⟨16, 0, 0, 0, 0, 0, [], []⟩ A n cap).toArray 24) = w0 at *
          refine at_load_blk aggC rfl rfl HB1.out ?_
          go_wp2_with fail
          refine (law28_few ⟨16, 0, 0, 0, 0, 0, [], []⟩ A n cap w0 (by have := HC.out.data; omega)).mono ?_
          rintro e w1 ⟨rfl, hbc⟩
          have hbw1 := hbw.trans (hbc.mono hbw.size)
          rw [F1.out]
          go_wp2_with (with_reducible refine stop_load ?_)
          refine stop_want rfl ?_
          refine at_load_blk aggC rfl rfl (HB1.out.below hbc) ?_
          go_wp2_with fail
          refine (command_Check ⟨16, 0, 0, 0, 0, 0, [], []⟩ A n cap w1 (HR1.out.below hbc) (by have := HC.out.data; omega) (HC.out.nums _ (by simp [nums])) (T1.out.below hbw1 p1)).mono ?_
          rintro e w2 ⟨rfl, hb2⟩
          have hbc2 := hbc.trans (hb2.mono hbc.size)
          have hbw2 := hbw.trans (hbc2.mono hbw.size)
          clear hb2 hbc hbw1
          clear w1
          rw [HK.out]
          have k0 := (HB1.out.below hbc2).cell (j := 0) rfl
          go_wp2_with fail
          refine (HS.out w2 hbw2).mono ?_
          rintro e w3 ⟨rfl, hb3⟩
          have hbc3 := hbc2.trans (hb3.mono hbc2.size)
          have hbw3 := hbw.trans (hbc3.mono hbw.size)
          clear k0 hb3 hbc2 hbw2
          clear w2
          go_wp2_with (with_reducible refine stop_load (t := 24) ?_)
          refine stop_want rfl ?_
          refine at_load_blk aggC rfl rfl (HB1.out.below hbc3) ?_
          have k0 := (HB1.out.below hbc3).cell (j := 0) rfl
          go_wp2_with fail
          refine (command_Same ⟨16, 0, 0, 0, 0, 0, [], []⟩ ⟨16, 0, 0, 0, 0, 0, [], []⟩ A none n 0 cap 0 w3 (HR1.out.below hbc3) (Rd.empty w3 none 1)).mono ?_
          rintro e w4 ⟨rfl, hb4⟩
          rw [decide_eq_true (rfl : (⟨16, 0, 0, 0, 0, 0, [], []⟩ : Cmd) = ⟨16, 0, 0, 0, 0, 0, [], []⟩)]
          go_wp2_with fail
          go_ret
          exact ⟨rfl, hbw3.trans (hb4.mono hbw3.size)⟩
        · skip
          go_enter Tryd.func7, Tryd.ntmps7
          go_wp2_with (with_reducible refine stop_load ?_)
          change StopAt _ _ _ _ _ _ (w.alloc (.cells (cmdV ⟨20, 0, 0, 0, 0, 0, [], []⟩ A n cap).toArray 24))
          have HB1 := Shut.mk hB1
          have HR1 := Shut.mk hR1
          clear hB1 hR1
          generalize w.alloc (.cells (cmdV ⟨20, 0, 0, 0, 0, 0, [], []⟩ A n cap).toArray 24) = w0 at *
          refine at_load_blk aggC rfl rfl HB1.out ?_
          go_wp2_with fail
          refine (law28_few ⟨20, 0, 0, 0, 0, 0, [], []⟩ A n cap w0 (by have := HC.out.data; omega)).mono ?_
          rintro e w1 ⟨rfl, hbc⟩
          have hbw1 := hbw.trans (hbc.mono hbw.size)
          rw [F1.out]
          go_wp2_with (with_reducible refine stop_load ?_)
          refine stop_want rfl ?_
          refine at_load_blk aggC rfl rfl (HB1.out.below hbc) ?_
          go_wp2_with fail
          refine (command_Check ⟨20, 0, 0, 0, 0, 0, [], []⟩ A n cap w1 (HR1.out.below hbc) (by have := HC.out.data; omega) (HC.out.nums _ (by simp [nums])) (T1.out.below hbw1 p1)).mono ?_
          rintro e w2 ⟨rfl, hb2⟩
          have hbc2 := hbc.trans (hb2.mono hbc.size)
          have hbw2 := hbw.trans (hbc2.mono hbw.size)
          clear hb2 hbc hbw1
          clear w1
          rw [HK.out]
          have k0 := (HB1.out.below hbc2).cell (j := 0) rfl
          go_wp2_with fail
          refine (HS.out w2 hbw2).mono ?_
          rintro e w3 ⟨rfl, hb3⟩
          have hbc3 := hbc2.trans (hb3.mono hbc2.size)
          have hbw3 := hbw.trans (hbc3.mono hbw.size)
          clear k0 hb3 hbc2 hbw2
          clear w2
          go_wp2_with (with_reducible refine stop_load (t := 24) ?_)
          refine stop_want rfl ?_
          refine at_load_blk aggC rfl rfl (HB1.out.below hbc3) ?_
          have k0 := (HB1.out.below hbc3).cell (j := 0) rfl
          go_wp2_with fail
          refine (command_Same ⟨20, 0, 0, 0, 0, 0, [], []⟩ ⟨20, 0, 0, 0, 0, 0, [], []⟩ A none n 0 cap 0 w3 (HR1.out.below hbc3) (Rd.empty w3 none 1)).mono ?_
          rintro e w4 ⟨rfl, hb4⟩
          rw [decide_eq_true (rfl : (⟨20, 0, 0, 0, 0, 0, [], []⟩ : Cmd) = ⟨20, 0, 0, 0, 0, 0, [], []⟩)]
          go_wp2_with fail
          go_ret
          exact ⟨rfl, hbw3.trans (hb4.mono hbw3.size)⟩
        · skip
          go_enter Tryd.func7, Tryd.ntmps7
          go_wp2_with (with_reducible refine stop_load ?_)
          change StopAt _ _ _ _ _ _ (w.alloc (.cells (cmdV ⟨21, 0, 0, 0, 0, 0, [], []⟩ A n cap).toArray 24))
          have HB1 := Shut.mk hB1
          have HR1 := Shut.mk hR1
          clear hB1 hR1
          generalize w.alloc (.cells (cmdV ⟨21, 0, 0, 0, 0, 0, [], []⟩ A n cap).toArray 24) = w0 at *
          refine at_load_blk aggC rfl rfl HB1.out ?_
          go_wp2_with fail
          refine (law28_few ⟨21, 0, 0, 0, 0, 0, [], []⟩ A n cap w0 (by have := HC.out.data; omega)).mono ?_
          rintro e w1 ⟨rfl, hbc⟩
          have hbw1 := hbw.trans (hbc.mono hbw.size)
          rw [F1.out]
          go_wp2_with (with_reducible refine stop_load ?_)
          refine stop_want rfl ?_
          refine at_load_blk aggC rfl rfl (HB1.out.below hbc) ?_
          go_wp2_with fail
          refine (command_Check ⟨21, 0, 0, 0, 0, 0, [], []⟩ A n cap w1 (HR1.out.below hbc) (by have := HC.out.data; omega) (HC.out.nums _ (by simp [nums])) (T1.out.below hbw1 p1)).mono ?_
          rintro e w2 ⟨rfl, hb2⟩
          have hbc2 := hbc.trans (hb2.mono hbc.size)
          have hbw2 := hbw.trans (hbc2.mono hbw.size)
          clear hb2 hbc hbw1
          clear w1
          rw [HK.out]
          have k0 := (HB1.out.below hbc2).cell (j := 0) rfl
          go_wp2_with fail
          refine (HS.out w2 hbw2).mono ?_
          rintro e w3 ⟨rfl, hb3⟩
          have hbc3 := hbc2.trans (hb3.mono hbc2.size)
          have hbw3 := hbw.trans (hbc3.mono hbw.size)
          clear k0 hb3 hbc2 hbw2
          clear w2
          go_wp2_with (with_reducible refine stop_load (t := 24) ?_)
          refine stop_want rfl ?_
          refine at_load_blk aggC rfl rfl (HB1.out.below hbc3) ?_
          have k0 := (HB1.out.below hbc3).cell (j := 0) rfl
          go_wp2_with fail
          refine (command_Same ⟨21, 0, 0, 0, 0, 0, [], []⟩ ⟨21, 0, 0, 0, 0, 0, [], []⟩ A none n 0 cap 0 w3 (HR1.out.below hbc3) (Rd.empty w3 none 1)).mono ?_
          rintro e w4 ⟨rfl, hb4⟩
          rw [decide_eq_true (rfl : (⟨21, 0, 0, 0, 0, 0, [], []⟩ : Cmd) = ⟨21, 0, 0, 0, 0, 0, [], []⟩)]
          go_wp2_with fail
          go_ret
          exact ⟨rfl, hbw3.trans (hb4.mono hbw3.size)⟩
        · skip
          go_enter Tryd.func7, Tryd.ntmps7
          go_wp2_with (with_reducible refine stop_load ?_)
          change StopAt _ _ _ _ _ _ (w.alloc (.cells (cmdV ⟨22, 0, 0, 0, 0, 0, [], []⟩ A n cap).toArray 24))
          have HB1 := Shut.mk hB1
          have HR1 := Shut.mk hR1
          clear hB1 hR1
          generalize w.alloc (.cells (cmdV ⟨22, 0, 0, 0, 0, 0, [], []⟩ A n cap).toArray 24) = w0 at *
          refine at_load_blk aggC rfl rfl HB1.out ?_
          go_wp2_with fail
          refine (law28_few ⟨22, 0, 0, 0, 0, 0, [], []⟩ A n cap w0 (by have := HC.out.data; omega)).mono ?_
          rintro e w1 ⟨rfl, hbc⟩
          have hbw1 := hbw.trans (hbc.mono hbw.size)
          rw [F1.out]
          go_wp2_with (with_reducible refine stop_load ?_)
          refine stop_want rfl ?_
          refine at_load_blk aggC rfl rfl (HB1.out.below hbc) ?_
          go_wp2_with fail
          refine (command_Check ⟨22, 0, 0, 0, 0, 0, [], []⟩ A n cap w1 (HR1.out.below hbc) (by have := HC.out.data; omega) (HC.out.nums _ (by simp [nums])) (T1.out.below hbw1 p1)).mono ?_
          rintro e w2 ⟨rfl, hb2⟩
          have hbc2 := hbc.trans (hb2.mono hbc.size)
          have hbw2 := hbw.trans (hbc2.mono hbw.size)
          clear hb2 hbc hbw1
          clear w1
          rw [HK.out]
          have k0 := (HB1.out.below hbc2).cell (j := 0) rfl
          go_wp2_with fail
          refine (HS.out w2 hbw2).mono ?_
          rintro e w3 ⟨rfl, hb3⟩
          have hbc3 := hbc2.trans (hb3.mono hbc2.size)
          have hbw3 := hbw.trans (hbc3.mono hbw.size)
          clear k0 hb3 hbc2 hbw2
          clear w2
          go_wp2_with (with_reducible refine stop_load (t := 24) ?_)
          refine stop_want rfl ?_
          refine at_load_blk aggC rfl rfl (HB1.out.below hbc3) ?_
          have k0 := (HB1.out.below hbc3).cell (j := 0) rfl
          go_wp2_with fail
          refine (command_Same ⟨22, 0, 0, 0, 0, 0, [], []⟩ ⟨22, 0, 0, 0, 0, 0, [], []⟩ A none n 0 cap 0 w3 (HR1.out.below hbc3) (Rd.empty w3 none 1)).mono ?_
          rintro e w4 ⟨rfl, hb4⟩
          rw [decide_eq_true (rfl : (⟨22, 0, 0, 0, 0, 0, [], []⟩ : Cmd) = ⟨22, 0, 0, 0, 0, 0, [], []⟩)]
          go_wp2_with fail
          go_ret
          exact ⟨rfl, hbw3.trans (hb4.mono hbw3.size)⟩
        · skip
          go_enter Tryd.func7, Tryd.ntmps7
          go_wp2_with (with_reducible refine stop_load ?_)
          change StopAt _ _ _ _ _ _ (w.alloc (.cells (cmdV ⟨26, 0, 0, 0, 0, 0, [], []⟩ A n cap).toArray 24))
          have HB1 := Shut.mk hB1
          have HR1 := Shut.mk hR1
          clear hB1 hR1
          generalize w.alloc (.cells (cmdV ⟨26, 0, 0, 0, 0, 0, [], []⟩ A n cap).toArray 24) = w0 at *
          refine at_load_blk aggC rfl rfl HB1.out ?_
          go_wp2_with fail
          refine (law28_few ⟨26, 0, 0, 0, 0, 0, [], []⟩ A n cap w0 (by have := HC.out.data; omega)).mono ?_
          rintro e w1 ⟨rfl, hbc⟩
          have hbw1 := hbw.trans (hbc.mono hbw.size)
          rw [F1.out]
          go_wp2_with (with_reducible refine stop_load ?_)
          refine stop_want rfl ?_
          refine at_load_blk aggC rfl rfl (HB1.out.below hbc) ?_
          go_wp2_with fail
          refine (command_Check ⟨26, 0, 0, 0, 0, 0, [], []⟩ A n cap w1 (HR1.out.below hbc) (by have := HC.out.data; omega) (HC.out.nums _ (by simp [nums])) (T1.out.below hbw1 p1)).mono ?_
          rintro e w2 ⟨rfl, hb2⟩
          have hbc2 := hbc.trans (hb2.mono hbc.size)
          have hbw2 := hbw.trans (hbc2.mono hbw.size)
          clear hb2 hbc hbw1
          clear w1
          rw [HK.out]
          have k0 := (HB1.out.below hbc2).cell (j := 0) rfl
          go_wp2_with fail
          refine (HS.out w2 hbw2).mono ?_
          rintro e w3 ⟨rfl, hb3⟩
          have hbc3 := hbc2.trans (hb3.mono hbc2.size)
          have hbw3 := hbw.trans (hbc3.mono hbw.size)
          clear k0 hb3 hbc2 hbw2
          clear w2
          go_wp2_with (with_reducible refine stop_load (t := 24) ?_)
          refine stop_want rfl ?_
          refine at_load_blk aggC rfl rfl (HB1.out.below hbc3) ?_
          have k0 := (HB1.out.below hbc3).cell (j := 0) rfl
          go_wp2_with fail
          refine (command_Same ⟨26, 0, 0, 0, 0, 0, [], []⟩ ⟨26, 0, 0, 0, 0, 0, [], []⟩ A none n 0 cap 0 w3 (HR1.out.below hbc3) (Rd.empty w3 none 1)).mono ?_
          rintro e w4 ⟨rfl, hb4⟩
          rw [decide_eq_true (rfl : (⟨26, 0, 0, 0, 0, 0, [], []⟩ : Cmd) = ⟨26, 0, 0, 0, 0, 0, [], []⟩)]
          go_wp2_with fail
          go_ret
          exact ⟨rfl, hbw3.trans (hb4.mono hbw3.size)⟩
      · by_cases k2 : c.kind = 3 ∨ c.kind = 12 ∨ c.kind = 13
        · have hcc := fit_key hfit (uses_key _ k2)
          obtain ⟨K, K1, K2, K3, K4, K5, D, L⟩ := c
          simp only [Cmd.mk.injEq, true_and] at hcc
          obtain ⟨rfl, rfl, rfl, rfl, rfl, rfl⟩ := hcc
          simp only at k2
          clear hfit k1
          rcases k2 with rfl | rfl | rfl
          · skip
            go_enter Tryd.func7, Tryd.ntmps7
            go_wp2_with (with_reducible refine stop_load ?_)
            change StopAt _ _ _ _ _ _ (w.alloc (.cells (cmdV ⟨3, K1, 0, 0, 0, 0, [], []⟩ A n cap).toArray 24))
            have HB1 := Shut.mk hB1
            have HR1 := Shut.mk hR1
            clear hB1 hR1
            generalize w.alloc (.cells (cmdV ⟨3, K1, 0, 0, 0, 0, [], []⟩ A n cap).toArray 24) = w0 at *
            refine at_load_blk aggC rfl rfl HB1.out ?_
            go_wp2_with fail
            refine (law28_few ⟨3, K1, 0, 0, 0, 0, [], []⟩ A n cap w0 (by have := HC.out.data; omega)).mono ?_
            rintro e w1 ⟨rfl, hbc⟩
            have hbw1 := hbw.trans (hbc.mono hbw.size)
            rw [F1.out]
            go_wp2_with (with_reducible refine stop_load ?_)
            refine stop_want rfl ?_
            refine at_load_blk aggC rfl rfl (HB1.out.below hbc) ?_
            go_wp2_with fail
            refine (command_Check ⟨3, K1, 0, 0, 0, 0, [], []⟩ A n cap w1 (HR1.out.below hbc) (by have := HC.out.data; omega) (HC.out.nums _ (by simp [nums])) (T1.out.below hbw1 p1)).mono ?_
            rintro e w2 ⟨rfl, hb2⟩
            have hbc2 := hbc.trans (hb2.mono hbc.size)
            have hbw2 := hbw.trans (hbc2.mono hbw.size)
            clear hb2 hbc hbw1
            clear w1
            rw [HK.out]
            have k0 := (HB1.out.below hbc2).cell (j := 0) rfl
            go_wp2_with fail
            refine (HS.out w2 hbw2).mono ?_
            rintro e w3 ⟨rfl, hb3⟩
            have hbc3 := hbc2.trans (hb3.mono hbc2.size)
            have hbw3 := hbw.trans (hbc3.mono hbw.size)
            clear k0 hb3 hbc2 hbw2
            clear w2
            go_wp2_with (with_reducible refine stop_load (t := 24) ?_)
            refine stop_want rfl ?_
            refine at_load_blk aggC rfl rfl (HB1.out.below hbc3) ?_
            have k0 := (HB1.out.below hbc3).cell (j := 0) rfl
            have k1 := (HB1.out.below hbc3).cell (j := 1) rfl
            go_wp2_with fail
            refine (command_Same ⟨3, K1, 0, 0, 0, 0, [], []⟩ ⟨3, K1, 0, 0, 0, 0, [], []⟩ A none n 0 cap 0 w3 (HR1.out.below hbc3) (Rd.empty w3 none 1)).mono ?_
            rintro e w4 ⟨rfl, hb4⟩
            rw [decide_eq_true (rfl : (⟨3, K1, 0, 0, 0, 0, [], []⟩ : Cmd) = ⟨3, K1, 0, 0, 0, 0, [], []⟩)]
            go_wp2_with fail
            go_ret
            exact ⟨rfl, hbw3.trans (hb4.mono hbw3.size)⟩
          · skip
            go_enter Tryd.func7, Tryd.ntmps7
            go_wp2_with (with_reducible refine stop_load ?_)
            change StopAt _ _ _ _ _ _ (w.alloc (.cells (cmdV ⟨12, K1, 0, 0, 0, 0, [], []⟩ A n cap).toArray 24))
            have HB1 := Shut.mk hB1
            have HR1 := Shut.mk hR1
            clear hB1 hR1
            generalize w.alloc (.cells (cmdV ⟨12, K1, 0, 0, 0, 0, [], []⟩ A n cap).toArray 24) = w0 at *
            refine at_load_blk aggC rfl rfl HB1.out ?_
            go_wp2_with fail
            refine (law28_few ⟨12, K1, 0, 0, 0, 0, [], []⟩ A n cap w0 (by have := HC.out.data; omega)).mono ?_
            rintro e w1 ⟨rfl, hbc⟩
            have hbw1 := hbw.trans (hbc.mono hbw.size)
            rw [F1.out]
            go_wp2_with (with_reducible refine stop_load ?_)
            refine stop_want rfl ?_
            refine at_load_blk aggC rfl rfl (HB1.out.below hbc) ?_
            go_wp2_with fail
            refine (command_Check ⟨12, K1, 0, 0, 0, 0, [], []⟩ A n cap w1 (HR1.out.below hbc) (by have := HC.out.data; omega) (HC.out.nums _ (by simp [nums])) (T1.out.below hbw1 p1)).mono ?_
            rintro e w2 ⟨rfl, hb2⟩
            have hbc2 := hbc.trans (hb2.mono hbc.size)
            have hbw2 := hbw.trans (hbc2.mono hbw.size)
            clear hb2 hbc hbw1
            clear w1
            rw [HK.out]
            have k0 := (HB1.out.below hbc2).cell (j := 0) rfl
            go_wp2_with fail
            refine (HS.out w2 hbw2).mono ?_
            rintro e w3 ⟨rfl, hb3⟩
            have hbc3 := hbc2.trans (hb3.mono hbc2.size)
            have hbw3 := hbw.trans (hbc3.mono hbw.size)
            clear k0 hb3 hbc2 hbw2
            clear w2
            go_wp2_with (with_reducible refine stop_load (t := 24) ?_)
            refine stop_want rfl ?_
            refine at_load_blk aggC rfl rfl (HB1.out.below hbc3) ?_
            have k0 := (HB1.out.below hbc3).cell (j := 0) rfl
            have k1 := (HB1.out.below hbc3).cell (j := 1) rfl
            go_wp2_with fail
            refine (command_Same ⟨12, K1, 0, 0, 0, 0, [], []⟩ ⟨12, K1, 0, 0, 0, 0, [], []⟩ A none n 0 cap 0 w3 (HR1.out.below hbc3) (Rd.empty w3 none 1)).mono ?_
            rintro e w4 ⟨rfl, hb4⟩
            rw [decide_eq_true (rfl : (⟨12, K1, 0, 0, 0, 0, [], []⟩ : Cmd) = ⟨12, K1, 0, 0, 0, 0, [], []⟩)]
            go_wp2_with fail
            go_ret
            exact ⟨rfl, hbw3.trans (hb4.mono hbw3.size)⟩
          · skip
            go_enter Tryd.func7, Tryd.ntmps7
            go_wp2_with (with_reducible refine stop_load ?_)
            change StopAt _ _ _ _ _ _ (w.alloc (.cells (cmdV ⟨13, K1, 0, 0, 0, 0, [], []⟩ A n cap).toArray 24))
            have HB1 := Shut.mk hB1
            have HR1 := Shut.mk hR1
            clear hB1 hR1
            generalize w.alloc (.cells (cmdV ⟨13, K1, 0, 0, 0, 0, [], []⟩ A n cap).toArray 24) = w0 at *
            refine at_load_blk aggC rfl rfl HB1.out ?_
            go_wp2_with fail
            refine (law28_few ⟨13, K1, 0, 0, 0, 0, [], []⟩ A n cap w0 (by have := HC.out.data; omega)).mono ?_
            rintro e w1 ⟨rfl, hbc⟩
            have hbw1 := hbw.trans (hbc.mono hbw.size)
            rw [F1.out]
            go_wp2_with (with_reducible refine stop_load ?_)
            refine stop_want rfl ?_
            refine at_load_blk aggC rfl rfl (HB1.out.below hbc) ?_
            go_wp2_with fail
            refine (command_Check ⟨13, K1, 0, 0, 0, 0, [], []⟩ A n cap w1 (HR1.out.below hbc) (by have := HC.out.data; omega) (HC.out.nums _ (by simp [nums])) (T1.out.below hbw1 p1)).mono ?_
            rintro e w2 ⟨rfl, hb2⟩
            have hbc2 := hbc.trans (hb2.mono hbc.size)
            have hbw2 := hbw.trans (hbc2.mono hbw.size)
            clear hb2 hbc hbw1
            clear w1
            rw [HK.out]
            have k0 := (HB1.out.below hbc2).cell (j := 0) rfl
            go_wp2_with fail
            refine (HS.out w2 hbw2).mono ?_
            rintro e w3 ⟨rfl, hb3⟩
            have hbc3 := hbc2.trans (hb3.mono hbc2.size)
            have hbw3 := hbw.trans (hbc3.mono hbw.size)
            clear k0 hb3 hbc2 hbw2
            clear w2
            go_wp2_with (with_reducible refine stop_load (t := 24) ?_)
            refine stop_want rfl ?_
            refine at_load_blk aggC rfl rfl (HB1.out.below hbc3) ?_
            have k0 := (HB1.out.below hbc3).cell (j := 0) rfl
            have k1 := (HB1.out.below hbc3).cell (j := 1) rfl
            go_wp2_with fail
            refine (command_Same ⟨13, K1, 0, 0, 0, 0, [], []⟩ ⟨13, K1, 0, 0, 0, 0, [], []⟩ A none n 0 cap 0 w3 (HR1.out.below hbc3) (Rd.empty w3 none 1)).mono ?_
            rintro e w4 ⟨rfl, hb4⟩
            rw [decide_eq_true (rfl : (⟨13, K1, 0, 0, 0, 0, [], []⟩ : Cmd) = ⟨13, K1, 0, 0, 0, 0, [], []⟩)]
            go_wp2_with fail
            go_ret
            exact ⟨rfl, hbw3.trans (hb4.mono hbw3.size)⟩
        · by_cases k3 : c.kind = 1
          · have hcc := fit_grant hfit (by rw [k3]; exact uses_grant)
            obtain ⟨K, K1, K2, K3, K4, K5, D, L⟩ := c
            simp only [Cmd.mk.injEq, true_and] at hcc
            obtain ⟨rfl, rfl, rfl, rfl⟩ := hcc
            simp only at k3
            subst k3
            clear hfit k1 k2
            go_enter Tryd.func7, Tryd.ntmps7
            go_wp2_with (with_reducible refine stop_load ?_)
            change StopAt _ _ _ _ _ _ (w.alloc (.cells (cmdV ⟨1, 0, 0, K3, K4, K5, [], []⟩ A n cap).toArray 24))
            have HB1 := Shut.mk hB1
            have HR1 := Shut.mk hR1
            clear hB1 hR1
            generalize w.alloc (.cells (cmdV ⟨1, 0, 0, K3, K4, K5, [], []⟩ A n cap).toArray 24) = w0 at *
            refine at_load_blk aggC rfl rfl HB1.out ?_
            go_wp2_with fail
            refine (law28_few ⟨1, 0, 0, K3, K4, K5, [], []⟩ A n cap w0 (by have := HC.out.data; omega)).mono ?_
            rintro e w1 ⟨rfl, hbc⟩
            have hbw1 := hbw.trans (hbc.mono hbw.size)
            rw [F1.out]
            go_wp2_with (with_reducible refine stop_load ?_)
            refine stop_want rfl ?_
            refine at_load_blk aggC rfl rfl (HB1.out.below hbc) ?_
            go_wp2_with fail
            refine (command_Check ⟨1, 0, 0, K3, K4, K5, [], []⟩ A n cap w1 (HR1.out.below hbc) (by have := HC.out.data; omega) (HC.out.nums _ (by simp [nums])) (T1.out.below hbw1 p1)).mono ?_
            rintro e w2 ⟨rfl, hb2⟩
            have hbc2 := hbc.trans (hb2.mono hbc.size)
            have hbw2 := hbw.trans (hbc2.mono hbw.size)
            clear hb2 hbc hbw1
            clear w1
            rw [HK.out]
            have k0 := (HB1.out.below hbc2).cell (j := 0) rfl
            go_wp2_with fail
            refine (HS.out w2 hbw2).mono ?_
            rintro e w3 ⟨rfl, hb3⟩
            have hbc3 := hbc2.trans (hb3.mono hbc2.size)
            have hbw3 := hbw.trans (hbc3.mono hbw.size)
            clear k0 hb3 hbc2 hbw2
            clear w2
            go_wp2_with (with_reducible refine stop_load (t := 24) ?_)
            refine stop_want rfl ?_
            refine at_load_blk aggC rfl rfl (HB1.out.below hbc3) ?_
            have k0 := (HB1.out.below hbc3).cell (j := 0) rfl
            have k3 := (HB1.out.below hbc3).cell (j := 3) rfl
            have k4 := (HB1.out.below hbc3).cell (j := 4) rfl
            have k5 := (HB1.out.below hbc3).cell (j := 5) rfl
            go_wp2_with fail
            refine (command_Same ⟨1, 0, 0, K3, K4, K5, [], []⟩ ⟨1, 0, 0, K3, K4, K5, [], []⟩ A none n 0 cap 0 w3 (HR1.out.below hbc3) (Rd.empty w3 none 1)).mono ?_
            rintro e w4 ⟨rfl, hb4⟩
            rw [decide_eq_true (rfl : (⟨1, 0, 0, K3, K4, K5, [], []⟩ : Cmd) = ⟨1, 0, 0, K3, K4, K5, [], []⟩)]
            go_wp2_with fail
            go_ret
            exact ⟨rfl, hbw3.trans (hb4.mono hbw3.size)⟩
          · have hsp := fit_split hfit
            have hki := hfit.kind
            have hnn : nameOf c.kind ≠ [] := by
              unfold isKind at hki
              simp only [Bool.and_eq_true, decide_eq_true_eq] at hki
              have := (names_in (c.kind - 1).toNat (by omega)).1
              rwa [show (((c.kind - 1).toNat : Nat) : Int) + 1 = c.kind by omega] at this
            have HNE := Shut.mk hnn
            have HSP := Shut.mk hsp
            clear hfit hnn hsp hki
            have q14 : (c.kind == 14) = false := by simp; omega
            have q16 : (c.kind == 16) = false := by simp; omega
            have q20 : (c.kind == 20) = false := by simp; omega
            have q21 : (c.kind == 21) = false := by simp; omega
            have q22 : (c.kind == 22) = false := by simp; omega
            have q26 : (c.kind == 26) = false := by simp; omega
            have q3 : (c.kind == 3) = false := by simp; omega
            have q12 : (c.kind == 12) = false := by simp; omega
            have q13 : (c.kind == 13) = false := by simp; omega
            have q1 : (c.kind == 1) = false := by simp; omega
            clear k1 k2 k3
            go_enter Tryd.func7, Tryd.ntmps7
            go_wp2_with (with_reducible refine stop_load ?_)
            change StopAt _ _ _ _ _ _ (w.alloc (.cells (cmdV c A n cap).toArray 24))
            have HB1 := Shut.mk hB1
            have HR1 := Shut.mk hR1
            clear hB1 hR1
            generalize w.alloc (.cells (cmdV c A n cap).toArray 24) = w0 at *
            refine at_load_blk aggC rfl rfl HB1.out ?_
            go_wp2_with fail
            refine (law28_few c A n cap w0 (by have := HC.out.data; omega)).mono ?_
            rintro e w1 ⟨rfl, hbc⟩
            have hbw1 := hbw.trans (hbc.mono hbw.size)
            rw [F1.out]
            go_wp2_with (with_reducible refine stop_load ?_)
            refine stop_want rfl ?_
            refine at_load_blk aggC rfl rfl (HB1.out.below hbc) ?_
            go_wp2_with fail
            refine (command_Check c A n cap w1 (HR1.out.below hbc) (by have := HC.out.data; omega) (HC.out.nums _ (by simp [nums])) (T1.out.below hbw1 p1)).mono ?_
            rintro e w2 ⟨rfl, hb2⟩
            have hbc2 := hbc.trans (hb2.mono hbc.size)
            have hbw2 := hbw.trans (hbc2.mono hbw.size)
            clear hb2 hbc hbw1
            clear w1
            rw [HK.out]
            have k0 := (HB1.out.below hbc2).cell (j := 0) rfl
            go_wp2_with fail
            refine (HS.out w2 hbw2).mono ?_
            rintro e w3 ⟨rfl, hb3⟩
            have hbc3 := hbc2.trans (hb3.mono hbc2.size)
            have hbw3 := hbw.trans (hbc3.mono hbw.size)
            clear k0 hb3 hbc2 hbw2
            clear w2
            have k0 := (HB1.out.below hbc3).cell (j := 0) rfl
            have k7 := (HB1.out.below hbc3).cell (j := 7) (v := .slice A n cap) rfl
            go_wp2_with fail
            refine (command_Name c.kind (HC.out.nums _ (by simp [nums])) w3 (T1.out.below hbw3 p1)).mono ?_
            rintro e w4 ⟨rfl, rfl⟩
            obtain ⟨nm, hnm⟩ : ∃ nm, nm = nameOf c.kind := ⟨_, rfl⟩
            rw [← hnm] at HNE ⊢
            clear hnm
            have hne : (nm == ([] : List UInt8)) = false := by have := HNE.out; simp [this]
            have HF : Shut ((((n : Int) == 0) == (c.kind != 18)) = true) := ⟨by
              have h1 := HSP.out
              have h2 := EL1.out
              by_cases hl : c.list = []
              · have h3 := h1.1 hl
                rw [hl] at h2
                simp at h2
                subst h2
                simp [h3]
              · have h3 : c.kind = 18 := Decidable.byContradiction fun h => hl (h1.2 h)
                have h4 : n ≠ 0 := fun h => hl (List.eq_nil_of_length_eq_zero (by omega))
                simp [h3, h4]⟩
            go_wp2_with fail
            go_ret
            exact ⟨congrArg (fun b => Ending.returned (Value.bool b)) HF.out, hbw3⟩
    · have HK := Shut.mk hk
      clear hk
      go_enter Tryd.func7, Tryd.ntmps7
      go_wp2_with (with_reducible refine stop_load ?_)
      change StopAt _ _ _ _ _ _ (w.alloc (.cells (cmdV c A n cap).toArray 24))
      have HB1 := Shut.mk hB1
      have HR1 := Shut.mk hR1
      clear hB1 hR1
      generalize w.alloc (.cells (cmdV c A n cap).toArray 24) = w0 at *
      refine at_load_blk aggC rfl rfl HB1.out ?_
      go_wp2_with fail
      refine (law28_few c A n cap w0 (by have := HC.out.data; omega)).mono ?_
      rintro e w1 ⟨rfl, hbc⟩
      have hbw1 := hbw.trans (hbc.mono hbw.size)
      rw [F1.out]
      go_wp2_with (with_reducible refine stop_load ?_)
      refine stop_want rfl ?_
      refine at_load_blk aggC rfl rfl (HB1.out.below hbc) ?_
      go_wp2_with fail
      refine (command_Check c A n cap w1 (HR1.out.below hbc) (by have := HC.out.data; omega) (HC.out.nums _ (by simp [nums])) (T1.out.below hbw1 p1)).mono ?_
      rintro e w2 ⟨rfl, hb2⟩
      have hbc2 := hbc.trans (hb2.mono hbc.size)
      have hbw2 := hbw.trans (hbc2.mono hbw.size)
      clear hb2 hbc hbw1
      clear w1
      have HKK : Shut ((((check c : Nat) : Int) != 0) = true) := ⟨by have := HK.out; simp; omega⟩
      generalize check c = k at *
      have hkk := HKK.out
      go_wp2_with fail
      refine (HS.out w2 hbw2).mono ?_
      rintro e w9 ⟨rfl, hb9⟩
      go_wp2_with fail
      go_ret
      exact ⟨rfl, hbw2.trans (hb9.mono hbw2.size)⟩
  · have F1 := Shut.mk (Bool.eq_false_iff.2 f1)
    clear f1
    go_enter Tryd.func7, Tryd.ntmps7
    go_wp2_with (with_reducible refine stop_load ?_)
    change StopAt _ _ _ _ _ _ (w.alloc (.cells (cmdV c A n cap).toArray 24))
    have HB1 := Shut.mk hB1
    have HR1 := Shut.mk hR1
    clear hB1 hR1
    generalize w.alloc (.cells (cmdV c A n cap).toArray 24) = w0 at *
    refine at_load_blk aggC rfl rfl HB1.out ?_
    go_wp2_with fail
    refine (law28_few c A n cap w0 (by have := HC.out.data; omega)).mono ?_
    rintro e w1 ⟨rfl, hbc⟩
    have hbw1 := hbw.trans (hbc.mono hbw.size)
    rw [F1.out]
    go_wp2_with fail
    refine (HS.out w1 hbw1).mono ?_
    rintro e w9 ⟨rfl, hb9⟩
    go_wp2_with fail
    go_ret
    exact ⟨rfl, hbw1.trans (hb9.mono hbw1.size)⟩
end Go.Proofs.YtedegedceeefdaaDoor
/-! CommandFields: the row and the card. -/
namespace Go.Proofs.YtedegedceeefdaaDoor
open Go.ChangeShapes Go.WideShapes Go.ChangeAt Go.WideMaps Go.WideElems Go.RowKit Go.Cw Cu Go.ChangeMaps
set_option maxRecDepth 100000
set_option maxHeartbeats 1000000
theorem commandFields_lifted (os : Os) (started : os.Started) (H : Type) (enc : TypeId × Value → H) :
    ReturnsInHanded {} Tryd.checked os 7 .any (fun w args => (Rows.commandFieldsSpec.pre enc Tryd.prog Tryd.f7 [] false w args ∧ laidMetH Tryd.prog laid28 w) ∧ sizedMet enc Tryd.prog Tryd.f7 (OpenSpec.ofChange Rows.commandFieldsSpec) false w args)
      (Rows.commandFieldsSpec.post enc Tryd.prog Tryd.f7 false true false false) := by
  refine returnsInHanded_of_change_and (C := Tryd.checked) (X := fun w _ => laidMetH Tryd.prog laid28 w) (fun _ _ _ hh h => h.of_heap hh) own28 started (by kernel_rfl) Tryd.func7
    (ChangeSpec.witness_shaped (enc := enc) (C := Tryd.checked) (os := os) (X := fun w _ => laidMetH Tryd.prog laid28 w) false (World.doorLaid Tryd.prog 61 os) #[.agg #[.int .i64 0, .int .i64 0, .int .i64 0, .int .i64 0, .int .i64 0, .int .i64 0, .string ⟨#[]⟩, .slice none 0 0]] 8 rfl (World.shaped_of_RefB (by kernel_rfl) (by kernel_rfl)) (by kernel_rfl) (by kernel_rfl) (by kernel_rfl) (door_met28 os _)) ?_
  intro W base args ds gs before hval0 hW _ _ hL _
  have hval : ∀ (j : Nat) t v, Tryd.f7.params[j]? = some t → args[j]? = some v → Value.okWide Tryd.prog W .any base t v := hval0
  have hW' := hW
  obtain ⟨p, q, hA0, hV, rfl, hfz, hnd⟩ := hW
  have hA : DataW.TrodAll enc Tryd.prog W 0 (fun _ => true) true Tryd.f7.params.toList args.toList ds p := hA0
  rw [Tryd.params7] at hA hval
  obtain ⟨v0, d0, rfl, rfl, h0⟩ := trodAll_one hA
  have o0 := hval 0 24 v0 rfl rfl
  obtain ⟨t1, t2, t3⟩ := of_laid28 hL
  clear hA0 hval0
  obtain ⟨c, A, n, cap, rfl, r0, i0⟩ := arg_cmd o0 h0
  refine (law28_Fields c A n cap W r0 i0 t1 t2 t3).mono fun e W' ⟨he, hw⟩ => ?_
  subst he
  exact ⟨_, rfl, law_post (tb := 4) laid_out (by kernel_rfl) rfl (by kernel_rfl) rfl rfl hW' hw⟩
theorem commandFields_closed : joinedFacts Tryd.prog 7 Tryd.f7 Rows.commandFieldsSpec Rows.commandFieldsRow = true :=
  closed_of laid_out maps_rowed no_stops no_stopKnobs stops_heard may_enter lifts_final make_cut plain_keys
    (by as_aux_lemma => kernel_rfl) (by as_aux_lemma => kernel_rfl) (by as_aux_lemma => kernel_rfl)
    rfl rfl (by as_aux_lemma => kernel_rfl) (by as_aux_lemma => kernel_rfl) (by as_aux_lemma => kernel_rfl) (by as_aux_lemma => kernel_rfl)
    (by as_aux_lemma => kernel_rfl) (by as_aux_lemma => kernel_rfl) (by as_aux_lemma => kernel_rfl)
    (by as_aux_lemma => kernel_rfl) (by as_aux_lemma => kernel_rfl)
    (by as_aux_lemma => kernel_rfl) (by as_aux_lemma => kernel_rfl) (by as_aux_lemma => kernel_rfl) (by as_aux_lemma => kernel_rfl)
    rfl rfl rfl rfl rfl rfl (by as_aux_lemma => kernel_rfl)
    (by as_aux_lemma => kernel_rfl) (by as_aux_lemma => kernel_rfl)
theorem commandFields_holds : Rows.CommandFieldsSaid :=
  OpenClaim.holds_of_wide 7 Tryd.f7 rfl rfl rfl rfl rfl rfl rfl ⟨rfl, rfl, rfl, rfl, rfl⟩ rfl rfl rfl rfl rfl (by kernel_rfl) Tryd.func7
    commandFields_closed (of_decide_eq_true (by kernel_rfl)) (by unfold Func.isWrapper; first | (rw [if_pos (by decide +kernel)]; kernel_rfl) | (rw [if_neg (by decide +kernel)]; exact ⟨rfl, rfl⟩))
    (fun os started H enc _ => commandFields_lifted os started H enc)
theorem commandFields_card : Rows.CommandFieldsCardSaid :=
  Claim7.holds_tied_plain_at .later [] [.data, .data, .widerDeep] true (true, "063d8e3e1cec467c49fe5ef97593c1e22b4843db90c6cecddc6eb7faab9ccf1f") false
    commandFields_holds (fun _ h => by cases h) (by as_aux_lemma => kernel_rfl) (fun _ h => by cases h) commandFields_row_tie rfl ⟨rfl, rfl⟩ main_is rfl
    (fun f fn hf hfn => by
      obtain rfl : f = 7 := Option.some.inj ((show Tryd.prog.funcNamed "custody/custodylaw28.CommandFields" = some 7 by kernel_rfl).symm.trans hf) |>.symm
      obtain rfl : fn = Tryd.f7 := (Option.some.inj (Tryd.func7.symm.trans hfn)).symm
      exact ⟨by kernel_rfl, fun j t ht => by
        rw [Tryd.params7] at ht
        have hm : t ∈ [24] := by simpa using Array.mem_of_getElem? ht
        have hall : ([24].all fun u => !Tryd.prog.wantsStandIn u) = true := by kernel_rfl
        exact (show Tryd.prog.wantsStandIn t = false by simpa using List.all_eq_true.1 hall t hm)⟩)
    (by as_aux_lemma => kernel_rfl)
#print axioms commandFields_card
end Go.Proofs.YtedegedceeefdaaDoor

/- Parts of the proof: Ca, Cb, Cc, Cd, Ce. -/
import Derived.Test.YtedegedceeefdaaDoorJFF
import Derived.Test.YtedegedceeefdaaDoorJPL
import Derived.Test.YtedegedceeefdaaDoorJWW
set_option linter.all false
set_option linter.unusedVariables false
set_option linter.unusedSimpArgs false
set_option linter.unnecessarySimpa false
set_option linter.deprecated false
/-! Walks: package command, names and checks. -/
namespace Go.Proofs.YtedegedceeefdaaDoor
open Go.RowKit Go.Cw Cu
set_option maxRecDepth 100000
set_option maxHeartbeats 1000000
set_option linter.unusedVariables false
set_option linter.unusedSimpArgs false
def rowCells (r : Row) : List Value := [.string ⟨r.name.toArray⟩, .int .i64 (r.uses : Int), .int .i64 (r.least : Int), .int .i64 (r.most : Int)]
def rowsV : List Value := rws.flatMap rowCells
theorem rowsV_at (n : Int) (h : isKind n = true) (j : Nat) (hj : j < 4) : rowsV[4 * (n - 1).toNat + j]? = (rowCells (rowOf n))[j]? := by
  unfold rowsV
  rw [flat_get rowCells 4 (fun _ => rfl) _ _ _ hj, rowOf_get n h]; rfl
theorem command_isKind (n : Int) (w : World) : Calls Tryd.prog 90 #[.int .i64 n] w fun e w' => e = .returned (.bool (isKind n)) ∧ w = w' := by
  by_cases h1 : 1 ≤ n
  · by_cases h2 : n ≤ 27
    · have h3 : Shut (isKind n = true) := ⟨by unfold isKind; simp; omega⟩
      have g1 : decide (1 ≤ n) = true := by simp; omega
      have g2 : decide (n ≤ 27) = true := by simp; omega
      go_enter Tryd.func90, Tryd.ntmps90
      go_wp2_with fail
      go_ret
      exact ⟨by rw [h3.out]; rfl, rfl⟩
    · have h3 : Shut (isKind n = false) := ⟨by unfold isKind; simp; omega⟩
      have g1 : decide (1 ≤ n) = true := by simp; omega
      have g2 : decide (n ≤ 27) = false := by simp; omega
      go_enter Tryd.func90, Tryd.ntmps90
      go_wp2_with fail
      go_ret
      exact ⟨by rw [h3.out]; rfl, rfl⟩
  · have h3 : Shut (isKind n = false) := ⟨by unfold isKind; simp; omega⟩
    have g1 : decide (1 ≤ n) = false := by simp; omega
    go_enter Tryd.func90, Tryd.ntmps90
    go_wp2_with fail
    go_ret
    exact ⟨by rw [h3.out]; rfl, rfl⟩
theorem isKind_split (n : Int) : (∃ k : Nat, k < 27 ∧ n = (k : Int) + 1 ∧ isKind n = true) ∨ isKind n = false := by
  by_cases h : isKind n = true
  · left
    have h2 := h
    unfold isKind at h2
    simp only [Bool.and_eq_true, decide_eq_true_eq] at h2
    exact ⟨(n - 1).toNat, by omega, by omega, h⟩
  · right; simpa using h
theorem row_cell {w : World} (ht : Tab w 0 rowsV) (k : Nat) (hk : k < 27) (j : Nat) (hj : j < 4) {v : Value} (hv : (rowCells (rowOf ((k : Int) + 1)))[j]? = some v) : w.cell? ⟨0, k * 4 + j, none⟩ = some v := by
  refine ht _ _ ?_
  have h : isKind ((k : Int) + 1) = true := by unfold isKind; simp; omega
  have := rowsV_at ((k : Int) + 1) h j hj
  rw [show 4 * ((k : Int) + 1 - 1).toNat + j = k * 4 + j by omega] at this
  rw [this]; exact hv
theorem command_Name (n : Int) (hn : inI64 n) (w : World) (ht : Tab w 0 rowsV) : Calls Tryd.prog 25 #[.int .i64 n] w fun e w' => e = .returned (.string ⟨(nameOf n).toArray⟩) ∧ w = w' := by
  have hk := command_isKind n w
  rcases isKind_split n with ⟨k, hk27, rfl, h⟩ | h
  · have hr : nameOf ((k : Int) + 1) = (rowOf ((k : Int) + 1)).name := by unfold nameOf; rw [if_pos h]
    have hc := row_cell ht k hk27 0 (by omega) rfl
    rw [Nat.add_zero] at hc
    rw [h] at hk
    have HR := Shut.mk hr
    have HK := Shut.mk hk
    clear hr hk h ht
    go_enter Tryd.func25, Tryd.ntmps25
    go_wp2_with fail
    refine HK.out.mono ?_
    rintro e w1 ⟨rfl, rfl⟩
    go_wp2_with fail
    go_ret
    exact ⟨by rw [HR.out]; rfl, rfl⟩
  · have hr : nameOf n = [] := by unfold nameOf; rw [h]; rfl
    rw [h] at hk
    have HR := Shut.mk hr
    have HK := Shut.mk hk
    clear hr hk h ht
    go_enter Tryd.func25, Tryd.ntmps25
    go_wp2_with fail
    refine HK.out.mono ?_
    rintro e w1 ⟨rfl, rfl⟩
    go_wp2_with fail
    go_ret
    exact ⟨by rw [HR.out]; rfl, rfl⟩
end Go.Proofs.YtedegedceeefdaaDoor
/-! Walks: package command, Check. -/
namespace Go.Proofs.YtedegedceeefdaaDoor
open Go.RowKit Go.Cw Cu
set_option maxRecDepth 100000
set_option maxHeartbeats 1000000
set_option linter.unusedVariables false
set_option linter.unusedSimpArgs false
theorem and_i64 (a b : Nat) (ha : a < 9223372036854775808) (hb : b < 9223372036854775808) : bits .and .i64 (a : Int) (b : Int) = ((a &&& b : Nat) : Int) :=
  (bits_nat .i64 63 (by decide) (fun n h0 h1 => IntWalk.i64_in n (by omega)) a b ha hb).1
theorem command_number (r : Row) (f : Nat) (fi n most : Int) (hfi : fi = (f : Int)) (hu : r.uses < 64) (hf : f < 64) (w : World) :
    Calls Tryd.prog 91 #[.agg (rowCells r).toArray, .int .i64 fi, .int .i64 n, .int .i64 most] w fun e w' => e = .returned (.bool (numB r.uses f n most)) ∧ Below w.heap.size w w' := by
  subst hfi
  have ha := and_i64 r.uses f (by omega) (by omega)
  unfold rowCells
  by_cases h0 : r.uses &&& f = 0
  · have g0 : (bits BinOp.and IntKind.i64 (r.uses : Int) (f : Int) == 0) = true := by rw [ha, h0]; rfl
    have hR : Shut (numB r.uses f n most = (decide (0 ≤ n) && decide (n ≤ 0))) := ⟨by unfold numB; rw [if_pos h0]⟩
    generalize numB r.uses f n most = res at *
    clear ha h0
    by_cases h1 : 0 ≤ n
    · have g1 : decide (0 ≤ n) = true := by simp; omega
      go_enter Tryd.func91, Tryd.ntmps91
      go_wp2_with fail
      go_ret
      exact ⟨by rw [hR.out]; simp [h1], (Below.refl _ _).alloc (Nat.le_refl _) _⟩
    · have g1 : decide (0 ≤ n) = false := by simp; omega
      go_enter Tryd.func91, Tryd.ntmps91
      go_wp2_with fail
      go_ret
      exact ⟨by rw [hR.out]; simp; omega, (Below.refl _ _).alloc (Nat.le_refl _) _⟩
  · have g0 : (bits BinOp.and IntKind.i64 (r.uses : Int) (f : Int) == 0) = false := by rw [ha]; simp; omega
    have hR : Shut (numB r.uses f n most = (decide (0 ≤ n) && decide (n ≤ most))) := ⟨by unfold numB; rw [if_neg h0]⟩
    generalize numB r.uses f n most = res at *
    clear ha h0
    by_cases h1 : 0 ≤ n
    · have g1 : decide (0 ≤ n) = true := by simp; omega
      go_enter Tryd.func91, Tryd.ntmps91
      go_wp2_with fail
      go_ret
      exact ⟨by rw [hR.out]; simp [h1], (Below.refl _ _).alloc (Nat.le_refl _) _⟩
    · have g1 : decide (0 ≤ n) = false := by simp; omega
      go_enter Tryd.func91, Tryd.ntmps91
      go_wp2_with fail
      go_ret
      exact ⟨by rw [hR.out]; simp; omega, (Below.refl _ _).alloc (Nat.le_refl _) _⟩
theorem int_eq0 (n : Nat) : ((n : Int) == 0) = (n == 0) := by
  cases n with
  | zero => rfl
  | succ n => simp; omega
theorem incB_take (l : List Int) : ∀ (k : Nat) (last : Int), incB last l = true → incB last (l.take k) = true := by
  induction l with
  | nil => intro k last h; simpa using h
  | cons x r ih =>
    intro k last h
    cases k with
    | zero => rfl
    | succ k =>
      simp only [incB, List.take_succ_cons, Bool.and_eq_true] at h ⊢
      exact ⟨h.1, ih k x h.2⟩
/-- The last element, or 0. -/
def lastOf (l : List Int) : Int := l.getLast?.getD 0
theorem incB_snoc (l : List Int) (x : Int) : ∀ last : Int, incB last (l ++ [x]) = (incB last l && decide ((l.getLast?.getD last) < x) && decide (x ≤ 4096)) := by
  induction l with
  | nil => intro last; simp only [List.nil_append, incB, List.getLast?_nil, Option.getD_none, Bool.and_true, Bool.true_and]; rfl
  | cons y r ih =>
    intro last
    simp only [List.cons_append, incB, ih y]
    have : (y :: r).getLast?.getD last = r.getLast?.getD y := by
      cases r with
      | nil => rfl
      | cons z s => simp [List.getLast?_cons_cons, List.getLast?_eq_getLast]
    rw [this]
    cases decide (last < y) <;> cases decide (y ≤ 4096) <;> cases incB y r <;> rfl
theorem incB_app (a b : List Int) : ∀ last : Int, incB last (a ++ b) = true → incB last a = true := by
  induction a with
  | nil => intro last h; rfl
  | cons x r ih =>
    intro last h
    simp only [List.cons_append, incB, Bool.and_eq_true] at h ⊢
    exact ⟨h.1, ih x h.2⟩
theorem command_keys (r : Row) (hu : r.uses < 64) (xs : List Int) (A : Option Addr) (n c : Nat) (w : World) (hrd : Rd w A n 1 (iv xs)) :
    Calls Tryd.prog 92 #[.agg (rowCells r).toArray, .slice A n c] w fun e w' => e = .returned (.bool (keysB r.uses xs)) ∧ Below w.heap.size w w' := by
  have hl := hrd.len
  rw [iv_length, Nat.mul_one] at hl
  have hmax := hrd.max
  have ha := and_i64 r.uses 8 (by omega) (by omega)
  rw [show ((8 : Nat) : Int) = 8 from rfl] at ha
  unfold rowCells
  by_cases h0 : r.uses &&& 8 = 0
  · have g0 : (bits BinOp.and IntKind.i64 (r.uses : Int) 8 == 0) = true := by rw [ha, h0]; rfl
    have hR : Shut (keysB r.uses xs = (n == 0)) := ⟨by unfold keysB; rw [if_pos h0, ← hl]; cases xs <;> rfl⟩
    generalize keysB r.uses xs = res at *
    clear ha h0 hl
    go_enter Tryd.func92, Tryd.ntmps92
    go_wp2_with fail
    go_ret
    exact ⟨by rw [hR.out]; exact congrArg (fun b => Ending.returned (.bool b)) (int_eq0 n), (Below.refl _ _).alloc (Nat.le_refl _) _⟩
  · have g0 : (bits BinOp.and IntKind.i64 (r.uses : Int) 8 == 0) = false := by rw [ha]; simp; omega
    have hR : Shut (keysB r.uses xs = (incB 0 xs && !xs.isEmpty)) := ⟨by unfold keysB; rw [if_neg h0]⟩
    generalize keysB r.uses xs = res at *
    have HL := Shut.mk hl
    clear ha h0 hl
    have hb1 := (Below.refl w.heap.size w).alloc (Nat.le_refl _) (.cells #[.string ⟨r.name.toArray⟩, .int .i64 (r.uses : Int), .int .i64 (r.least : Int), .int .i64 (r.most : Int)] 113)
    go_enter Tryd.func92, Tryd.ntmps92
    go_wp2_with fail
    go_loop [17, 5] (fun i last => ∃ k : Nat, k ≤ n ∧ i = .int .i64 k ∧ Shut (incB 0 (xs.take k) = true) ∧ last = .int .i64 ((xs.take k).getLast?.getD 0)) (fun i _ => n - (intOf i).toNat)
    case atStart => exact ⟨0, by omega, rfl, ⟨rfl⟩, rfl⟩
    case round =>
      obtain ⟨k, hk, rfl, hI, rfl⟩ := hrel
      by_cases hkn : k < n
      · obtain ⟨g, o, x, rfl, hcx, hx⟩ := hrd.i64_at hb1 hkn
        have hs := incB_snoc (xs.take k) x 0
        have ht : xs.take (k + 1) = xs.take k ++ [x] := by rw [List.take_add_one, hx]; rfl
        have hlast : (xs.take (k + 1)).getLast?.getD 0 = x := by rw [ht]; simp
        rw [hI.out, Bool.true_and, ← ht] at hs
        generalize (xs.take k).getLast?.getD 0 = last at *
        have HS := Shut.mk hs
        have HLA := Shut.mk hlast
        clear hx hs ht hlast
        by_cases hlt : last < x
        · by_cases hle : x ≤ 4096
          · have g1 : decide (x ≤ last) = false := by simp; omega
            have g2 : decide (4096 < x) = false := by simp; omega
            go_wp2_with fail
            go_round
            case rel => exact ⟨k + 1, by omega, by go_num, ⟨by rw [HS.out]; simp [hlt, hle]⟩, by rw [HLA.out]⟩
            case measure => simp [intOf]; omega
          · have g1 : decide (x ≤ last) = false := by simp; omega
            have g2 : decide (4096 < x) = true := by simp; omega
            go_wp2_with fail
            go_ret
            refine ⟨?_, hb1⟩
            rw [hR.out]
            have h1 : incB 0 xs = false := by
              cases hh : incB 0 xs with
              | false => rfl
              | true =>
                have h2 := incB_app (xs.take (k + 1)) (xs.drop (k + 1)) 0 (by rw [List.take_append_drop]; exact hh)
                rw [HS.out] at h2
                simp at h2; omega
            rw [h1]; rfl
        · have g1 : decide (x ≤ last) = true := by simp; omega
          go_wp2_with fail
          go_ret
          refine ⟨?_, hb1⟩
          rw [hR.out]
          have h1 : incB 0 xs = false := by
            cases hh : incB 0 xs with
            | false => rfl
            | true =>
              have h2 := incB_app (xs.take (k + 1)) (xs.drop (k + 1)) 0 (by rw [List.take_append_drop]; exact hh)
              rw [HS.out] at h2
              simp at h2; omega
          rw [h1]; rfl
      · obtain rfl : k = n := by omega
        go_wp2_with fail
        go_ret
        refine ⟨?_, hb1⟩
        have hI2 := hI.out
        have hl := HL.out
        rw [List.take_of_length_le (by omega)] at hI2
        rw [hR.out, hI2]
        cases xs with
        | nil => simp at hl; subst hl; rfl
        | cons y ys => simp at hl; simp; omega
end Go.Proofs.YtedegedceeefdaaDoor
/-! Walks: package command, Check. -/
namespace Go.Proofs.YtedegedceeefdaaDoor
open Go.RowKit Go.Cw Cu
set_option maxRecDepth 100000
set_option maxHeartbeats 4000000
set_option linter.unusedVariables false
set_option linter.unusedSimpArgs false
def cmdV (c : Cmd) (A : Option Addr) (n cap : Nat) : List Value :=
  [.int .i64 c.kind, .int .i64 c.key, .int .i64 c.other, .int .i64 c.type, .int .i64 c.uses, .int .i64 c.life, .string ⟨c.data.toArray⟩, .slice A n cap]
theorem aggC : AggT Tryd.prog 24 8 := ⟨by kernel_rfl, by kernel_rfl⟩
theorem aggRow : AggT Tryd.prog 113 4 := ⟨by kernel_rfl, by kernel_rfl⟩
theorem rowCells_one (r : Row) : ∀ v ∈ rowCells r, v.oneCell' = true := by intro v hv; simp [rowCells] at hv; rcases hv with rfl | rfl | rfl | rfl <;> rfl
theorem row_uses (k : Nat) (hk : k < 27) : (rowOf ((k : Int) + 1)).uses < 64 := by
  have : ∀ j : Fin 27, (rowOf ((j.val : Int) + 1)).uses < 64 := by decide +kernel
  exact this ⟨k, hk⟩
theorem uses_andNot (u : Int) (h0 : 0 ≤ u) (h1 : u ≤ 956) : (bits BinOp.andNot IntKind.i64 u 956 != 0) = !usesB u := by
  have : ∀ j : Fin 957, (bits BinOp.andNot IntKind.i64 (j.val : Int) 956 != 0) = !usesB (j.val : Int) := by decide +kernel
  have h := this ⟨u.toNat, by omega⟩
  rwa [show ((u.toNat : Nat) : Int) = u by omega] at h
theorem numB_uses {u : Nat} {n : Int} (h : numB u 4 n 956 = true) : 0 ≤ n ∧ n ≤ 956 := by
  unfold numB at h
  simp only [Bool.and_eq_true, decide_eq_true_eq] at h
  split at h <;> omega
theorem command_Check (c : Cmd) (A : Option Addr) (n cap : Nat) (w : World) (hrd : Rd w A n 1 (iv c.list)) (hd : c.data.length ≤ 9223372036854775807) (hk64 : inI64 c.kind) (ht : Tab w 0 rowsV) :
    Calls Tryd.prog 27 #[.agg (cmdV c A n cap).toArray] w fun e w' => e = .returned (.int .i64 (check c : Int)) ∧ Below w.heap.size w w' := by
  have hik := command_isKind c.kind
  have hb0 := below_alloc w (.cells (cmdV c A n cap).toArray 24)
  have hB0 := Blk.new w 24 (cmdV c A n cap)
  have hz0 : (w.alloc (.cells (cmdV c A n cap).toArray 24)).heap.size = w.heap.size + 1 := by simp
  obtain ⟨K, K1, K2, K3, K4, K5, D, L⟩ := c
  rcases isKind_split K with ⟨k, hk27, rfl, hK⟩ | hK
  · have hg : 0 < w.heap.size := ht.lt rfl
    have hrow := fun (w1 : World) (hb : Below w.heap.size w w1) j hj v hv => row_cell (ht.below hb hg) k hk27 j hj (v := v) hv
    have hu := row_uses k hk27
    have hres : check ⟨(k : Int) + 1, K1, K2, K3, K4, K5, D, L⟩ = check ⟨(k : Int) + 1, K1, K2, K3, K4, K5, D, L⟩ := rfl
    conv at hres => rhs; unfold check
    simp only [hK, cond_true, numsB] at hres
    generalize check ⟨(k : Int) + 1, K1, K2, K3, K4, K5, D, L⟩ = res at *
    generalize rowOf ((k : Int) + 1) = r at *
    have n1 := command_number r 1 1 K1 4294967296 rfl hu (by omega)
    have n2 := command_number r 2 2 K2 4294967296 rfl hu (by omega)
    have n3 := command_number r 4 4 K3 31 rfl hu (by omega)
    have n4 := command_number r 4 4 K4 956 rfl hu (by omega)
    have n5 := command_number r 4 4 K5 1099511627776 rfl hu (by omega)
    have hks := fun (w1 : World) (h : Rd w1 A n 1 (iv L)) => command_keys r hu L A n cap w1 h
    have hu4 : numB r.uses 4 K4 956 = true → 0 ≤ K4 ∧ K4 ≤ 956 := numB_uses
    simp only at *
    generalize numB r.uses 1 K1 4294967296 = b1 at *
    generalize numB r.uses 2 K2 4294967296 = b2 at *
    generalize numB r.uses 4 K3 31 = b3 at *
    generalize numB r.uses 4 K4 956 = b4 at *
    generalize numB r.uses 4 K5 1099511627776 = b5 at *
    generalize keysB r.uses L = b6 at *
    rw [hK] at hik
    have HIK := Shut.mk hik
    have HRES := Shut.mk hres
    have HROW := Shut.mk hrow
    have N1 := Shut.mk n1
    have N2 := Shut.mk n2
    have N3 := Shut.mk n3
    have N4 := Shut.mk n4
    have N5 := Shut.mk n5
    have HKS := Shut.mk hks
    have HU4 := Shut.mk hu4
    have HB0 := Shut.mk hB0
    clear hik hres hrow n1 n2 n3 n4 n5 hks hu4 hB0 hK ht
    have c0 := HB0.out.cell (j := 0) rfl
    go_enter Tryd.func27, Tryd.ntmps27
    go_wp2_with fail
    change Calls _ _ _ (w.alloc (.cells (cmdV ⟨(k : Int) + 1, K1, K2, K3, K4, K5, D, L⟩ A n cap).toArray 24)) _
    generalize w.alloc (.cells (cmdV ⟨(k : Int) + 1, K1, K2, K3, K4, K5, D, L⟩ A n cap).toArray 24) = w1 at *
    refine (HIK.out w1).mono ?_
    rintro e w2 ⟨rfl, rfl⟩
    go_wp2_with (with_reducible refine stop_load (t := 113) ?_)
    refine at_load_agg (g := 0) (o := k * 4) (cs := rowCells r) aggRow rfl rfl (fun j v hj => HROW.out w1 hb0 j (by have := (List.getElem?_eq_some_iff.1 hj).1; simpa [rowCells] using this) v hj) ?_
    go_wp2_with (with_reducible refine stop_store ?_)
    refine at_store_new aggRow (by rw [hz0]; rfl) rfl rfl (by rfl) (rowCells_one r) ?_
    intro w2 hR2 hal hz2
    have HB2 := Shut.mk (HB0.out.below hal)
    have hb2 := hb0.trans (hal.mono (by omega))
    rw [hz0] at hR2 hz2
    have HR2 := Shut.mk hR2
    clear hR2 hal HB0 c0 hb0 hz0 w1
    have r0 := HR2.out.cell (j := 0) (v := .string ⟨r.name.toArray⟩) rfl
    have r1 := HR2.out.cell (j := 1) (v := .int .i64 (r.uses : Int)) rfl
    have r2 := HR2.out.cell (j := 2) (v := .int .i64 (r.least : Int)) rfl
    have r3 := HR2.out.cell (j := 3) (v := .int .i64 (r.most : Int)) rfl
    have c1 := HB2.out.cell (j := 1) (v := .int .i64 K1) rfl
    go_wp2_with fail
    clear r0 r1 r2 r3 c1
    refine (N1.out _).mono ?_
    rintro e w3 ⟨rfl, hb3⟩
    replace HB2 := Shut.mk (HB2.out.below hb3)
    replace HR2 := Shut.mk (HR2.out.below hb3)
    replace hb2 := hb2.trans (hb3.mono hb2.size)
    clear hb3
    cases b1
    · go_wp2_with fail
      go_ret
      exact ⟨by rw [HRES.out]; rfl, hb2⟩
    clear N1
    have r0 := HR2.out.cell (j := 0) (v := .string ⟨r.name.toArray⟩) rfl
    have r1 := HR2.out.cell (j := 1) (v := .int .i64 (r.uses : Int)) rfl
    have r2 := HR2.out.cell (j := 2) (v := .int .i64 (r.least : Int)) rfl
    have r3 := HR2.out.cell (j := 3) (v := .int .i64 (r.most : Int)) rfl
    have c2 := HB2.out.cell (j := 2) (v := .int .i64 K2) rfl
    go_wp2_with fail
    clear r0 r1 r2 r3 c2
    refine (N2.out _).mono ?_
    rintro e w3 ⟨rfl, hb3⟩
    replace HB2 := Shut.mk (HB2.out.below hb3)
    replace HR2 := Shut.mk (HR2.out.below hb3)
    replace hb2 := hb2.trans (hb3.mono hb2.size)
    clear hb3
    cases b2
    · go_wp2_with fail
      go_ret
      exact ⟨by rw [HRES.out]; rfl, hb2⟩
    clear N2
    have r0 := HR2.out.cell (j := 0) (v := .string ⟨r.name.toArray⟩) rfl
    have r1 := HR2.out.cell (j := 1) (v := .int .i64 (r.uses : Int)) rfl
    have r2 := HR2.out.cell (j := 2) (v := .int .i64 (r.least : Int)) rfl
    have r3 := HR2.out.cell (j := 3) (v := .int .i64 (r.most : Int)) rfl
    have c3 := HB2.out.cell (j := 3) (v := .int .i64 K3) rfl
    go_wp2_with fail
    clear r0 r1 r2 r3 c3
    refine (N3.out _).mono ?_
    rintro e w3 ⟨rfl, hb3⟩
    replace HB2 := Shut.mk (HB2.out.below hb3)
    replace HR2 := Shut.mk (HR2.out.below hb3)
    replace hb2 := hb2.trans (hb3.mono hb2.size)
    clear hb3
    cases b3
    · go_wp2_with fail
      go_ret
      exact ⟨by rw [HRES.out]; rfl, hb2⟩
    clear N3
    have r0 := HR2.out.cell (j := 0) (v := .string ⟨r.name.toArray⟩) rfl
    have r1 := HR2.out.cell (j := 1) (v := .int .i64 (r.uses : Int)) rfl
    have r2 := HR2.out.cell (j := 2) (v := .int .i64 (r.least : Int)) rfl
    have r3 := HR2.out.cell (j := 3) (v := .int .i64 (r.most : Int)) rfl
    have c4 := HB2.out.cell (j := 4) (v := .int .i64 K4) rfl
    go_wp2_with fail
    clear r0 r1 r2 r3 c4
    refine (N4.out _).mono ?_
    rintro e w3 ⟨rfl, hb3⟩
    replace HB2 := Shut.mk (HB2.out.below hb3)
    replace HR2 := Shut.mk (HR2.out.below hb3)
    replace hb2 := hb2.trans (hb3.mono hb2.size)
    clear hb3
    cases b4
    · go_wp2_with fail
      go_ret
      exact ⟨by rw [HRES.out]; rfl, hb2⟩
    clear N4
    have r0 := HR2.out.cell (j := 0) (v := .string ⟨r.name.toArray⟩) rfl
    have r1 := HR2.out.cell (j := 1) (v := .int .i64 (r.uses : Int)) rfl
    have r2 := HR2.out.cell (j := 2) (v := .int .i64 (r.least : Int)) rfl
    have r3 := HR2.out.cell (j := 3) (v := .int .i64 (r.most : Int)) rfl
    have c5 := HB2.out.cell (j := 5) (v := .int .i64 K5) rfl
    go_wp2_with fail
    clear r0 r1 r2 r3 c5
    refine (N5.out _).mono ?_
    rintro e w3 ⟨rfl, hb3⟩
    replace HB2 := Shut.mk (HB2.out.below hb3)
    replace HR2 := Shut.mk (HR2.out.below hb3)
    replace hb2 := hb2.trans (hb3.mono hb2.size)
    clear hb3
    cases b5
    · go_wp2_with fail
      go_ret
      exact ⟨by rw [HRES.out]; rfl, hb2⟩
    clear N5
    obtain ⟨hu0, hu1⟩ := HU4.out trivial
    have hua := uses_andNot K4 hu0 hu1
    generalize usesB K4 = b7 at *
    have HUA := Shut.mk hua
    clear hua HU4 HIK
    cases b7
    · have r0 := HR2.out.cell (j := 0) (v := .string ⟨r.name.toArray⟩) rfl
      have r1 := HR2.out.cell (j := 1) (v := .int .i64 (r.uses : Int)) rfl
      have r2 := HR2.out.cell (j := 2) (v := .int .i64 (r.least : Int)) rfl
      have r3 := HR2.out.cell (j := 3) (v := .int .i64 (r.most : Int)) rfl
      have c4 := HB2.out.cell (j := 4) (v := .int .i64 K4) rfl
      have c6 := HB2.out.cell (j := 6) (v := .string ⟨D.toArray⟩) rfl
      have c7 := HB2.out.cell (j := 7) (v := .slice A n cap) rfl
      have gU : (bits BinOp.andNot IntKind.i64 K4 956 != 0) = true := HUA.out
      go_wp2_with fail
      go_ret
      exact ⟨by rw [HRES.out]; cases b6 <;> rfl, hb2⟩
    have gU : (bits BinOp.andNot IntKind.i64 K4 956 != 0) = false := HUA.out
    have r0 := HR2.out.cell (j := 0) (v := .string ⟨r.name.toArray⟩) rfl
    have r1 := HR2.out.cell (j := 1) (v := .int .i64 (r.uses : Int)) rfl
    have r2 := HR2.out.cell (j := 2) (v := .int .i64 (r.least : Int)) rfl
    have r3 := HR2.out.cell (j := 3) (v := .int .i64 (r.most : Int)) rfl
    have c4 := HB2.out.cell (j := 4) (v := .int .i64 K4) rfl
    have c6 := HB2.out.cell (j := 6) (v := .string ⟨D.toArray⟩) rfl
    have c7 := HB2.out.cell (j := 7) (v := .slice A n cap) rfl
    go_wp2_with fail
    clear r0 r1 r2 r3 c4 c6 c7 gU
    refine (HKS.out _ (hrd.below hb2)).mono ?_
    rintro e w4 ⟨rfl, hb3⟩
    replace HB2 := Shut.mk (HB2.out.below hb3)
    replace HR2 := Shut.mk (HR2.out.below hb3)
    replace hb2 := hb2.trans (hb3.mono hb2.size)
    clear hb3
    cases b6
    · go_wp2_with fail
      go_ret
      exact ⟨by rw [HRES.out]; rfl, hb2⟩
    have ha := and_i64 r.uses 16 (by omega) (by omega)
    rw [show ((16 : Nat) : Int) = 16 from rfl] at ha
    have h16 : (bits BinOp.and IntKind.i64 (r.uses : Int) 16 == 0) = !(r.uses &&& 16 != 0) := by
      rw [ha, int_eq0]
      show _ = !(!(r.uses &&& 16 == 0))
      rw [Bool.not_not]
    generalize (r.uses &&& 16 != 0) = b8 at *
    have H16 := Shut.mk h16
    clear ha h16
    have r1 := HR2.out.cell (j := 1) (v := .int .i64 (r.uses : Int)) rfl
    have r2 := HR2.out.cell (j := 2) (v := .int .i64 (r.least : Int)) rfl
    have r3 := HR2.out.cell (j := 3) (v := .int .i64 (r.most : Int)) rfl
    have c6 := HB2.out.cell (j := 6) (v := .string ⟨D.toArray⟩) rfl
    have e6 : (({ data := D.toArray } : ByteArray)).size = D.length := rfl
    cases b8
    · have g16 : (bits BinOp.and IntKind.i64 (r.uses : Int) 16 == 0) = true := H16.out
      cases D with
      | cons x xs =>
        have hR : Shut (res = 1) := ⟨by rw [HRES.out]; rfl⟩
        clear HRES
        go_wp2_with fail
        all_goals (go_ret; exact ⟨by rw [hR.out]; rfl, hb2⟩)
      | nil =>
        by_cases hl : r.least = 0
        · by_cases hm : r.most < 0
          · omega
          · have hR : Shut (res = 0) := ⟨by rw [HRES.out, hl]; simp⟩
            clear HRES
            go_wp2_with fail
            all_goals (go_ret; exact ⟨by rw [hR.out]; rfl, hb2⟩)
        · have hR : Shut (res = 1) := ⟨by rw [HRES.out]; simp [hl]⟩
          clear HRES
          go_wp2_with fail
          all_goals (go_ret; exact ⟨by rw [hR.out]; rfl, hb2⟩)
    · have g16 : (bits BinOp.and IntKind.i64 (r.uses : Int) 16 == 0) = false := H16.out
      by_cases hl : r.least ≤ D.length
      · by_cases hm : r.most < D.length
        · have hR : Shut (res = 2) := ⟨by rw [HRES.out]; simp [hl, hm]⟩
          clear HRES
          go_wp2_with fail
          all_goals (go_ret; exact ⟨by rw [hR.out]; rfl, hb2⟩)
        · have hR : Shut (res = 0) := ⟨by rw [HRES.out]; simp [hl, hm]⟩
          clear HRES
          go_wp2_with fail
          all_goals (go_ret; exact ⟨by rw [hR.out]; rfl, hb2⟩)
      · have hR : Shut (res = 1) := ⟨by rw [HRES.out]; simp [hl]⟩
        clear HRES
        go_wp2_with fail
        all_goals (go_ret; exact ⟨by rw [hR.out]; rfl, hb2⟩)
  · have hres : check ⟨K, K1, K2, K3, K4, K5, D, L⟩ = 1 := by
      unfold check
      show (bif isKind K then _ else 1) = 1
      rw [hK]; rfl
    rw [hres]
    rw [hK] at hik
    have HIK := Shut.mk hik
    clear hik hK hres ht
    have c0 := hB0.cell (j := 0) rfl
    clear hB0
    go_enter Tryd.func27, Tryd.ntmps27
    go_wp2_with fail
    refine (HIK.out _).mono ?_
    rintro e w2 ⟨rfl, rfl⟩
    go_wp2_with fail
    go_ret
    exact ⟨rfl, hb0⟩
end Go.Proofs.YtedegedceeefdaaDoor
/-! Walks: package command, Same, Kind. -/
namespace Go.Proofs.YtedegedceeefdaaDoor
open Go.RowKit Go.Cw Cu
set_option maxRecDepth 100000
set_option maxHeartbeats 1000000
set_option linter.unusedVariables false
set_option linter.unusedSimpArgs false
theorem slices_EqualI (xs ys : List Int) (A B : Option Addr) (n m c d : Nat) (w : World) (h1 : Rd w A n 1 (iv xs)) (h2 : Rd w B m 1 (iv ys)) :
    Calls Tryd.prog 103 #[.slice A n c, .slice B m d] w fun e w' => e = .returned (.bool (decide (xs = ys))) ∧ Below w.heap.size w w' := by
  have l1 := h1.len
  have l2 := h2.len
  have m1 := h1.max
  have m2 := h2.max
  rw [iv_length] at l1 l2
  by_cases hnm : n = m
  · subst hnm
    have g1 : ((n : Int) != n) = false := by simp
    go_enter Tryd.func103, Tryd.ntmps103
    go_wp2_with fail
    go_loopw [13] (fun i wr => ∃ j : Nat, j ≤ n ∧ i = .int .i64 j ∧ Hid (xs.take j = ys.take j) ∧ Below w.heap.size w wr) (fun i _ => n - (intOf i).toNat)
    case atStart => exact ⟨0, by omega, rfl, rfl, Below.refl _ _⟩
    case round =>
      obtain ⟨j, hj, rfl, hE, hb⟩ := hrel
      by_cases hlt : j < n
      · obtain ⟨ga, oa, x, rfl, hcx, hx⟩ := h1.i64_at hb hlt
        obtain ⟨gb, ob, y, rfl, hcy, hy⟩ := h2.i64_at hb hlt
        have Hx := hid hx
        have Hy := hid hy
        clear hx hy
        by_cases hxy : x = y
        · subst hxy
          have g : (x != x) = false := by simp
          have hlt' : (j : Int) < n := by omega
          go_wp2_with fail
          go_quiet (fail)
          go_wp2_with fail
          go_roundw
          case rel => exact ⟨j + 1, by omega, by go_num, by show _ = _; rw [List.take_add_one, List.take_add_one, Hx.out, Hy.out, hE.out], below_then hb (Drw.below ⟨_, rfl⟩) hb.size⟩
          case measure => simp [intOf]; omega
        · have g : (x != y) = true := by simp; exact hxy
          have hlt' : (j : Int) < n := by omega
          have g3 := hid (show decide (xs = ys) = false by
            simp
            intro e
            have h1 := Hx.out
            have h2 := Hy.out
            rw [e, h2] at h1
            exact hxy (Option.some.inj h1).symm)
          go_wp2_with fail
          go_quiet (fail)
          go_wp2_with fail
          go_ret
          exact ⟨by rw [g3.out]; rfl, below_then hb (Drw.below ⟨_, rfl⟩) hb.size⟩
      · have g3 := hid (show decide (xs = ys) = true by
          have e := hE.out
          rw [List.take_of_length_le (by omega), List.take_of_length_le (by omega)] at e
          simp [e])
        go_wp2_with fail
        go_ret
        exact ⟨by rw [g3.out]; rfl, hb⟩
  · have g1 : ((n : Int) != m) = true := by simp; omega
    have g3 := hid (show decide (xs = ys) = false by simp; intro e; subst e; omega)
    go_enter Tryd.func103, Tryd.ntmps103
    go_wp2_with fail
    go_ret
    exact ⟨by rw [g3.out]; rfl, Below.refl _ _⟩
theorem command_Same (c d : Cmd) (A B : Option Addr) (n m cap cap' : Nat) (w : World) (h1 : Rd w A n 1 (iv c.list)) (h2 : Rd w B m 1 (iv d.list)) :
    Calls Tryd.prog 34 #[.agg (cmdV c A n cap).toArray, .agg (cmdV d B m cap').toArray] w fun e w' => e = .returned (.bool (decide (c = d))) ∧ Below w.heap.size w w' := by
  obtain ⟨K, K1, K2, K3, K4, K5, D, L⟩ := c
  obtain ⟨J, J1, J2, J3, J4, J5, E, M⟩ := d
  have hb1 := below_alloc w (.cells (cmdV ⟨K, K1, K2, K3, K4, K5, D, L⟩ A n cap).toArray 24)
  have hB1 := Blk.new w 24 (cmdV ⟨K, K1, K2, K3, K4, K5, D, L⟩ A n cap)
  have hz1 : (w.alloc (.cells (cmdV ⟨K, K1, K2, K3, K4, K5, D, L⟩ A n cap).toArray 24)).heap.size = w.heap.size + 1 := by simp
  have hdec : ∀ b : Bool, (b = true ↔ (K = J ∧ K1 = J1 ∧ K2 = J2 ∧ K3 = J3 ∧ K4 = J4 ∧ K5 = J5 ∧ D = E ∧ L = M)) → decide ((⟨K, K1, K2, K3, K4, K5, D, L⟩ : Cmd) = ⟨J, J1, J2, J3, J4, J5, E, M⟩) = b := by
    intro b hb
    cases b with
    | true => simp only [decide_eq_true_eq, Cmd.mk.injEq]; exact hb.1 rfl
    | false => simp only [decide_eq_false_iff_not, Cmd.mk.injEq]; intro h; have := hb.2 h; cases this
  generalize hres : decide ((⟨K, K1, K2, K3, K4, K5, D, L⟩ : Cmd) = ⟨J, J1, J2, J3, J4, J5, E, M⟩) = res at *
  have HD := Shut.mk hdec
  clear hdec hres
  go_enter Tryd.func34, Tryd.ntmps34
  go_wp2_with fail
  have hb2 := below_alloc (w.alloc (.cells (cmdV ⟨K, K1, K2, K3, K4, K5, D, L⟩ A n cap).toArray 24)) (.cells (cmdV ⟨J, J1, J2, J3, J4, J5, E, M⟩ B m cap').toArray 24)
  have hB2 := Blk.new (w.alloc (.cells (cmdV ⟨K, K1, K2, K3, K4, K5, D, L⟩ A n cap).toArray 24)) 24 (cmdV ⟨J, J1, J2, J3, J4, J5, E, M⟩ B m cap')
  rw [hz1] at hB2
  have hbw := hb1.trans (hb2.mono (by omega))
  have hC1 := hB1.below hb2
  change Code.wp _ _ _ _ ((w.alloc (.cells (cmdV ⟨K, K1, K2, K3, K4, K5, D, L⟩ A n cap).toArray 24)).alloc (.cells (cmdV ⟨J, J1, J2, J3, J4, J5, E, M⟩ B m cap').toArray 24))
  generalize (w.alloc (.cells (cmdV ⟨K, K1, K2, K3, K4, K5, D, L⟩ A n cap).toArray 24)).alloc (.cells (cmdV ⟨J, J1, J2, J3, J4, J5, E, M⟩ B m cap').toArray 24) = w1 at *
  clear hb1 hB1 hz1 hb2
  have c7 := hC1.cell (j := 7) (v := .slice A n cap) rfl
  have d7 := hB2.cell (j := 7) (v := .slice B m cap') rfl
  have HC1 := Shut.mk hC1
  have HB2 := Shut.mk hB2
  clear hC1 hB2
  go_quiet (fail)
  have hq : Drw w1 (w1.drewN nq) := ⟨_, rfl⟩
  replace HC1 := Shut.mk (HC1.out.drw hq)
  replace HB2 := Shut.mk (HB2.out.drw hq)
  replace hbw := below_then hbw (Drw.below hq) hbw.size
  clear hq c7 d7
  generalize w1.drewN nq = wq at *
  have c0 := HC1.out.cell (j := 0) (v := .int .i64 K) rfl
  have d0 := HB2.out.cell (j := 0) (v := .int .i64 J) rfl
  have c1 := HC1.out.cell (j := 1) (v := .int .i64 K1) rfl
  have d1 := HB2.out.cell (j := 1) (v := .int .i64 J1) rfl
  have c2 := HC1.out.cell (j := 2) (v := .int .i64 K2) rfl
  have d2 := HB2.out.cell (j := 2) (v := .int .i64 J2) rfl
  have c3 := HC1.out.cell (j := 3) (v := .int .i64 K3) rfl
  have d3 := HB2.out.cell (j := 3) (v := .int .i64 J3) rfl
  have c4 := HC1.out.cell (j := 4) (v := .int .i64 K4) rfl
  have d4 := HB2.out.cell (j := 4) (v := .int .i64 J4) rfl
  have c5 := HC1.out.cell (j := 5) (v := .int .i64 K5) rfl
  have d5 := HB2.out.cell (j := 5) (v := .int .i64 J5) rfl
  have c6 := HC1.out.cell (j := 6) (v := .string ⟨D.toArray⟩) rfl
  have d6 := HB2.out.cell (j := 6) (v := .string ⟨E.toArray⟩) rfl
  by_cases e0 : K = J
  rotate_left
  · have g : (K == J) = false := by simp; exact e0
    have hR : Shut (res = false) := ⟨HD.out false ⟨(fun h => by cases h), (fun h => absurd h.1 e0)⟩⟩
    go_wp2_with fail
    go_ret
    exact ⟨by rw [hR.out]; rfl, hbw⟩
  subst e0
  by_cases e1 : K1 = J1
  rotate_left
  · have g : (K1 == J1) = false := by simp; exact e1
    have hR : Shut (res = false) := ⟨HD.out false ⟨(fun h => by cases h), (fun h => absurd h.2.1 e1)⟩⟩
    go_wp2_with fail
    go_ret
    exact ⟨by rw [hR.out]; rfl, hbw⟩
  subst e1
  by_cases e2 : K2 = J2
  rotate_left
  · have g : (K2 == J2) = false := by simp; exact e2
    have hR : Shut (res = false) := ⟨HD.out false ⟨(fun h => by cases h), (fun h => absurd h.2.2.1 e2)⟩⟩
    go_wp2_with fail
    go_ret
    exact ⟨by rw [hR.out]; rfl, hbw⟩
  subst e2
  by_cases e3 : K3 = J3
  rotate_left
  · have g : (K3 == J3) = false := by simp; exact e3
    have hR : Shut (res = false) := ⟨HD.out false ⟨(fun h => by cases h), (fun h => absurd h.2.2.2.1 e3)⟩⟩
    go_wp2_with fail
    go_ret
    exact ⟨by rw [hR.out]; rfl, hbw⟩
  subst e3
  by_cases e4 : K4 = J4
  rotate_left
  · have g : (K4 == J4) = false := by simp; exact e4
    have hR : Shut (res = false) := ⟨HD.out false ⟨(fun h => by cases h), (fun h => absurd h.2.2.2.2.1 e4)⟩⟩
    go_wp2_with fail
    go_ret
    exact ⟨by rw [hR.out]; rfl, hbw⟩
  subst e4
  by_cases e5 : K5 = J5
  rotate_left
  · have g : (K5 == J5) = false := by simp; exact e5
    have hR : Shut (res = false) := ⟨HD.out false ⟨(fun h => by cases h), (fun h => absurd h.2.2.2.2.2.1 e5)⟩⟩
    go_wp2_with fail
    go_ret
    exact ⟨by rw [hR.out]; rfl, hbw⟩
  subst e5
  by_cases e6 : D = E
  rotate_left
  · have hR : Shut (res = false) := ⟨HD.out false ⟨(fun h => by cases h), (fun h => absurd h.2.2.2.2.2.2.1 e6)⟩⟩
    go_wp2_with fail
    go_ret
    exact ⟨by rw [hR.out]; rfl, hbw⟩
  subst e6
  have hR : Shut (res = decide (L = M)) := ⟨HD.out _ ⟨(fun h => ⟨rfl, rfl, rfl, rfl, rfl, rfl, rfl, of_decide_eq_true h⟩), (fun h => decide_eq_true h.2.2.2.2.2.2.2)⟩⟩
  have hEq := slices_EqualI L M A B n m cap cap' wq (h1.below hbw) (h2.below hbw)
  rw [← hR.out] at hEq
  have HEQ := Shut.mk hEq
  clear hEq
  go_wp2_with fail
  refine HEQ.out.mono ?_
  rintro e w3 ⟨rfl, hb3⟩
  go_wp2_with fail
  go_ret
  exact ⟨rfl, hbw.trans (hb3.mono hbw.size)⟩
end Go.Proofs.YtedegedceeefdaaDoor
/-! Walks: package command, Kind. -/
namespace Go.Proofs.YtedegedceeefdaaDoor
open Go.RowKit Go.Cw Cu
set_option maxRecDepth 100000
set_option maxHeartbeats 1000000
set_option linter.unusedVariables false
set_option linter.unusedSimpArgs false
theorem command_Kind1 (r : Row) (s : List UInt8) (g : Nat) (w : World) (hg : w.cell? ⟨g, 0, none⟩ = some (.string ⟨s.toArray⟩)) :
    Calls Tryd.prog 88 #[.agg (rowCells r).toArray, .pointer (some ⟨g, 0, none⟩)] w fun e w' => e = .returned (.bool (r.name == s)) ∧ Below w.heap.size w w' := by
  have hgl := World.block_lt_of_cell? w _ hg
  have hb := below_alloc w (.cells (rowCells r).toArray 113)
  have hc := (hb.cell (p := ⟨g, 0, none⟩) hgl).trans hg
  obtain ⟨nm, u, le, mo⟩ := r
  by_cases hrs : nm = s
  · subst hrs
    have hR : Shut ((nm == nm) = true) := ⟨by simp⟩
    generalize (nm == nm) = res at *
    unfold rowCells at *
    go_enter Tryd.func88, Tryd.ntmps88
    go_wp2_with fail
    go_ret
    exact ⟨by rw [hR.out]; rfl, hb⟩
  · have hR : Shut ((nm == s) = false) := ⟨by simp [hrs]⟩
    show Calls _ _ _ _ fun e w' => e = .returned (.bool (nm == s)) ∧ _
    generalize (nm == s) = res at *
    unfold rowCells at *
    go_enter Tryd.func88, Tryd.ntmps88
    go_wp2_with fail
    go_ret
    exact ⟨by rw [hR.out]; simp [hrs], hb⟩
def kindI (s : List UInt8) : Int := match kindAt s with
  | some k => (k : Int)
  | none => -1
theorem index_rows (s : List UInt8) (g : Nat) (w : World) (hg : w.cell? ⟨g, 0, none⟩ = some (.string ⟨s.toArray⟩)) (ht : Tab w 0 rowsV) :
    Calls Tryd.prog 87 #[.slice (some ⟨0, 0, none⟩) 27 27, .func (.func 88) #[] #[.pointer (some ⟨g, 0, none⟩)]] w fun e w' =>
      e = .returned (.int .i64 (kindI s)) ∧ Below w.heap.size w w' := by
  have hgl := World.block_lt_of_cell? w _ hg
  have hrl : 0 < w.heap.size := ht.lt rfl
  generalize hres : kindI s = res
  have HRES := Shut.mk hres
  have HG := Shut.mk hg
  have HT := Shut.mk ht
  clear hres hg ht
  go_enter Tryd.func87, Tryd.ntmps87
  go_wp2_with fail
  go_loopw [8] (fun i wr => ∃ k : Nat, k ≤ 27 ∧ i = .int .i64 k ∧ Shut (∀ j : Nat, j < k → (rowOf ((j : Int) + 1)).name ≠ s) ∧ Below w.heap.size w wr) (fun i _ => 27 - (intOf i).toNat)
  case atStart => exact ⟨0, by omega, rfl, ⟨fun j hj => by omega⟩, Below.refl _ _⟩
  case round =>
    obtain ⟨k, hk, rfl, hN, hb⟩ := hrel
    by_cases hk27 : k < 27
    · have hcs : ∀ j v, (rowCells (rowOf ((k : Int) + 1)))[j]? = some v → wr.cell? ⟨0, k * 4 + j, none⟩ = some v := fun j v hv =>
        row_cell (HT.out.below hb hrl) k hk27 j (by have := (List.getElem?_eq_some_iff.1 hv).1; simpa [rowCells] using this) hv
      have hget := rowOf_get ((k : Int) + 1) (by unfold isKind; simp; omega)
      have HGET := Shut.mk hget
      clear hget
      generalize hr : rowOf ((k : Int) + 1) = r at *
      have HRW := Shut.mk hr
      have HCS := Shut.mk hcs
      clear hr hcs
      go_wp2_with (with_reducible refine stop_load (t := 113) ?_)
      refine at_load_agg (g := 0) (o := k * 4) (cs := rowCells r) aggRow rfl rfl HCS.out ?_
      have hk1 := command_Kind1 r s g wr ((hb.cell (p := ⟨g, 0, none⟩) hgl).trans HG.out)
      by_cases hrs : r.name = s
      · rw [show (r.name == s) = true by simp [hrs]] at hk1
        have HK1 := Shut.mk hk1
        have hR : Shut (res = (k : Int)) := ⟨by
          rw [← HRES.out]
          unfold kindI
          have : kindAt s = some k := by
            unfold kindAt
            refine List.findIdx?_eq_some_iff_getElem.2 ⟨by rw [rws_length]; omega, ?_, fun j hj => ?_⟩
            · have := HGET.out
              rw [show ((k : Int) + 1 - 1).toNat = k by omega] at this
              rw [(List.getElem?_eq_some_iff.1 this).2]
              simp [hrs]
            · have h1 := hN.out j hj
              have h2 := rowOf_get ((j : Int) + 1) (by unfold isKind; simp; omega)
              rw [show ((j : Int) + 1 - 1).toNat = j by omega] at h2
              rw [(List.getElem?_eq_some_iff.1 h2).2]
              simpa using h1
          rw [this]⟩
        clear hrs hk1
        go_wp2_with fail
        refine HK1.out.mono ?_
        rintro e w3 ⟨rfl, hb3⟩
        go_wp2_with fail
        go_ret
        exact ⟨by rw [hR.out]; rfl, hb.trans (hb3.mono hb.size)⟩
      · rw [show (r.name == s) = false by simp [hrs]] at hk1
        have HK1 := Shut.mk hk1
        have HRS := Shut.mk hrs
        clear hrs hk1
        go_wp2_with fail
        refine HK1.out.mono ?_
        rintro e w3 ⟨rfl, hb3⟩
        have hb4 := hb.trans (hb3.mono hb.size)
        clear hb3
        go_wp2_with fail
        go_roundw
        case rel =>
          refine ⟨k + 1, by omega, by go_num, ⟨fun j hj => ?_⟩, hb4⟩
          rcases Nat.lt_or_ge j k with h | h
          · exact hN.out j h
          · obtain rfl : j = k := by omega
            rw [HRW.out]; exact HRS.out
        case measure => simp [intOf]; omega
    · obtain rfl : k = 27 := by omega
      have hR : Shut (res = -1) := ⟨by
        rw [← HRES.out]
        unfold kindI
        have : kindAt s = none := by
          unfold kindAt
          refine List.findIdx?_eq_none_iff.2 fun r hr => ?_
          obtain ⟨j, hj⟩ := List.getElem?_of_mem hr
          have hjl : j < 27 := by have := (List.getElem?_eq_some_iff.1 hj).1; rwa [rws_length] at this
          have h1 := hN.out j hjl
          have h2 := rowOf_get ((j : Int) + 1) (by unfold isKind; simp; omega)
          rw [show ((j : Int) + 1 - 1).toNat = j by omega, hj] at h2
          rw [← Option.some.inj h2] at h1
          simpa using h1
        rw [this]⟩
      go_wp2_with fail
      go_ret
      exact ⟨by rw [hR.out]; rfl, hb⟩
theorem kindI_range (s : List UInt8) : -1 ≤ kindI s ∧ kindI s < 27 := by
  unfold kindI
  cases h : kindAt s with
  | none => simp
  | some k =>
    unfold kindAt at h
    have := (List.findIdx?_eq_some_iff_getElem.1 h).1
    rw [rws_length] at this
    simp; omega
theorem command_Kind (s : List UInt8) (w : World) (ht : Tab w 0 rowsV) :
    Calls Tryd.prog 23 #[.string ⟨s.toArray⟩] w fun e w' => e = .returned (.tuple #[.int .i64 (kindI s + 1), .bool (decide (0 ≤ kindI s))]) ∧ Below w.heap.size w w' := by
  have hrl : 0 < w.heap.size := ht.lt rfl
  have hb1 := below_alloc w (.cells #[.string ⟨s.toArray⟩] 9)
  have hc : (w.alloc (.cells #[.string ⟨s.toArray⟩] 9)).cell? ⟨w.heap.size, 0, none⟩ = some (.string ⟨s.toArray⟩) := (Blk.new w 9 [.string ⟨s.toArray⟩]).cell rfl
  have hix := index_rows s w.heap.size _ hc (ht.below hb1 hrl)
  obtain ⟨h1, h2⟩ := kindI_range s
  generalize kindI s = res at *
  have HIX := Shut.mk hix
  clear hix ht hc
  go_enter Tryd.func23, Tryd.ntmps23
  go_wp2_with fail
  refine HIX.out.mono ?_
  rintro e w3 ⟨rfl, hb3⟩
  have hbw := hb1.trans (hb3.mono hb1.size)
  clear hb3 HIX
  go_wp2_with fail
  go_ret2
  exact ⟨rfl, hbw⟩
end Go.Proofs.YtedegedceeefdaaDoor

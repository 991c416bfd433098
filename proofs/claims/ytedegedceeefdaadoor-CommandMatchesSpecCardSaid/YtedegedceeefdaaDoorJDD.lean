/- Parts of the proof: Da, Db, Dc, Dd, De, Df. -/
import Derived.Test.YtedegedceeefdaaDoorJCI
import Derived.Great.BuildSlice
import Derived.Great.FillDense
import Derived.Test.YtedegedceeefdaaDoorJRR
import Derived.Test.YtedegedceeefdaaDoorJCF
set_option linter.all false
set_option linter.unusedVariables false
set_option linter.unusedSimpArgs false
set_option linter.unnecessarySimpa false
set_option linter.deprecated false
/-! Walks: custodyref28, rows and names. -/
namespace Go.Proofs.YtedegedceeefdaaDoor
open Go.RowKit Go.Cw Cu
set_option maxRecDepth 100000
set_option maxHeartbeats 1000000
set_option linter.unusedVariables false
set_option linter.unusedSimpArgs false
/-- The cells of a row of the reference. -/
def refRow (r : Row) : List Value := [.string ⟨r.name.toArray⟩, .bool (r.uses &&& 1 != 0), .bool (r.uses &&& 2 != 0), .bool (r.uses &&& 4 != 0), .bool (r.uses &&& 8 != 0), .bool (r.uses &&& 16 != 0), .int .i64 (r.least : Int), .int .i64 (r.most : Int)]
def refRows : List Value := rws.flatMap refRow
theorem refRows_at (k : Nat) (hk : k < 27) (j : Nat) (hj : j < 8) {v : Value} (hv : (refRow (rowOf ((k : Int) + 1)))[j]? = some v) : refRows[k * 8 + j]? = some v := by
  unfold refRows
  have h : isKind ((k : Int) + 1) = true := by unfold isKind; simp; omega
  have e := rowOf_get _ h
  rw [show ((k : Int) + 1 - 1).toNat = k by omega] at e
  rw [Nat.mul_comm, flat_get refRow 8 (fun _ => rfl) _ _ _ hj, e]; exact hv
def RowsRet (w : World) (e : Ending) (w' : World) : Prop := ∃ g, e = .returned (.slice (some ⟨g, 0, none⟩) 27 27) ∧ w.heap.size ≤ g ∧ Blk w' g 119 refRows ∧ Below w.heap.size w w'
theorem ref28_rows (w : World) : Calls Tryd.prog 89 #[] w (RowsRet w) := by
  obtain ⟨i, hi, hz, hs, _⟩ := info_parts (P := Tryd.prog) (e := 119) (z := .agg #[.string ⟨#[]⟩, .bool false, .bool false, .bool false, .bool false, .bool false, .int .i64 0, .int .i64 0]) (size := 8) (bytes := 40) (by kernel_rfl)
  go_enter Tryd.func89, Tryd.ntmps89
  go_wp2_with (with_reducible refine stop_buildSlice ?_)
  refine wpList_buildSlice rfl 116 119 27 _ rfl refRows.toArray i _ Tryd.underlying116 hi hz (by rw [hs]; decide) (by rw [hs]; decide) ?_ ?_
  · rw [hs, Array.toList_map]
    refine (congrArg _ ?_).trans (Go.Great.fill_whole (by omega) (rws.map fun r => .agg (refRow r).toArray) _ ?_ ?_)
    · kernel_rfl
    · intro v hv
      obtain ⟨r, _, rfl⟩ := List.mem_map.1 hv
      rfl
    · simp [rws_length]
  · have hb := below_alloc w (.cells refRows.toArray 119)
    have hB := Blk.new w 119 refRows
    generalize hrr : refRows = rr at *
    have HRR := Shut.mk hrr
    clear hrr
    go_wp2_with fail
    go_ret
    exact ⟨_, rfl, Nat.le_refl _, by rw [HRR.out]; exact hB, hb⟩
theorem ref28_Name (n : Int) (hn : inI64 n) (w : World) : Calls Tryd.prog 26 #[.int .i64 n] w fun e w' => e = .returned (.string ⟨(nameOf n).toArray⟩) ∧ Below w.heap.size w w' := by
  have hk := ref28_rows w
  rcases isKind_split n with ⟨k, hk27, rfl, h⟩ | h
  · have hr : nameOf ((k : Int) + 1) = (rowOf ((k : Int) + 1)).name := by unfold nameOf; rw [if_pos h]
    have hc := fun (g : Nat) (w1 : World) (hb : Blk w1 g 119 refRows) => hb.cell (refRows_at k hk27 0 (by omega) rfl)
    have g1 : decide ((k : Int) + 1 < 1) = false := by simp; omega
    have g2 : decide (27 < (k : Int) + 1) = false := by simp; omega
    have HR := Shut.mk hr
    have HK := Shut.mk hk
    have HC := Shut.mk hc
    clear hr hk h hc
    go_enter Tryd.func26, Tryd.ntmps26
    go_wp2_with fail
    refine HK.out.mono ?_
    rintro e w1 ⟨g, rfl, hg, hB, hb⟩
    have hc := HC.out g w1 hB
    rw [Nat.add_zero] at hc
    have HB := Shut.mk hB
    clear HC hB
    go_wp2_with fail
    go_ret
    exact ⟨by rw [HR.out]; rfl, hb⟩
  · have hr : nameOf n = [] := by unfold nameOf; rw [h]; rfl
    have HR := Shut.mk hr
    clear hr hk
    by_cases h1 : n < 1
    · have g1 : decide (n < 1) = true := by simp; omega
      clear h
      go_enter Tryd.func26, Tryd.ntmps26
      go_wp2_with fail
      go_ret
      exact ⟨by rw [HR.out]; rfl, Below.refl _ _⟩
    · have g1 : decide (n < 1) = false := by simp; omega
      have g2 : decide (27 < n) = true := by unfold isKind at h; simp at h; simp; omega
      clear h
      go_enter Tryd.func26, Tryd.ntmps26
      go_wp2_with fail
      go_ret
      exact ⟨by rw [HR.out]; rfl, Below.refl _ _⟩
end Go.Proofs.YtedegedceeefdaaDoor
/-! Walks: custodyref28, Kind, within, isList. -/
namespace Go.Proofs.YtedegedceeefdaaDoor
open Go.RowKit Go.Cw Cu
set_option maxRecDepth 100000
set_option maxHeartbeats 1000000
set_option linter.unusedVariables false
set_option linter.unusedSimpArgs false
def withB (used : Bool) (n most : Int) : Bool := bif used then decide (0 ≤ n) && decide (n ≤ most) else n == 0
theorem withB_eq (u f : Nat) (n most : Int) (hm : 0 ≤ most) : withB (u &&& f != 0) n most = numB u f n most := by
  unfold withB numB
  by_cases h : u &&& f = 0
  · rw [if_pos h, show (u &&& f != 0) = false by simp [h], cond_false]
    rw [Bool.eq_iff_iff]; simp; omega
  · rw [if_neg h, show (u &&& f != 0) = true by simp [h], cond_true]
def listB (used : Bool) (l : List Int) : Bool := bif used then incB 0 l && !l.isEmpty else l.isEmpty
theorem listB_eq (u : Nat) (l : List Int) : listB (u &&& 8 != 0) l = keysB u l := by
  unfold listB keysB
  by_cases h : u &&& 8 = 0
  · rw [if_pos h, show (u &&& 8 != 0) = false by simp [h], cond_false]
  · rw [if_neg h, show (u &&& 8 != 0) = true by simp [h], cond_true]
theorem ref28_within (used : Bool) (n most : Int) (w : World) : Calls Tryd.prog 93 #[.int .i64 n, .bool used, .int .i64 most] w fun e w' => e = .returned (.bool (withB used n most)) ∧ w = w' := by
  cases used with
  | false =>
    have HR : Shut (withB false n most = (n == 0)) := ⟨rfl⟩
    generalize withB false n most = res at *
    go_enter Tryd.func93, Tryd.ntmps93
    go_wp2_with fail
    go_ret
    exact ⟨by rw [HR.out]; rfl, rfl⟩
  | true =>
    have HR : Shut (withB true n most = (decide (0 ≤ n) && decide (n ≤ most))) := ⟨rfl⟩
    generalize withB true n most = res at *
    by_cases h0 : 0 ≤ n
    · have g0 : decide (0 ≤ n) = true := by simp [h0]
      go_enter Tryd.func93, Tryd.ntmps93
      go_wp2_with fail
      go_ret
      exact ⟨by rw [HR.out, g0, Bool.true_and]; rfl, rfl⟩
    · have g0 : decide (0 ≤ n) = false := by simp; omega
      go_enter Tryd.func93, Tryd.ntmps93
      go_wp2_with fail
      go_ret
      exact ⟨by rw [HR.out, g0, Bool.false_and]; rfl, rfl⟩
theorem getLast_take (xs : List Int) (k : Nat) (x : Int) (hx : xs[k]? = some x) : ((xs.take (k + 1)).getLast?.getD 0) = x := by
  rw [List.take_add_one, hx]; simp
theorem ref28_isList (used : Bool) (xs : List Int) (A : Option Addr) (n c : Nat) (w : World) (hrd : Rd w A n 1 (iv xs)) :
    Calls Tryd.prog 94 #[.slice A n c, .bool used] w fun e w' => e = .returned (.bool (listB used xs)) ∧ Below w.heap.size w w' := by
  have hl := hrd.len
  rw [iv_length, Nat.mul_one] at hl
  have hmax := hrd.max
  cases used with
  | false =>
    have HR : Shut (listB false xs = (n == 0)) := ⟨by unfold listB; rw [← hl, cond_false]; cases xs <;> rfl⟩
    generalize listB false xs = res at *
    clear hl
    go_enter Tryd.func94, Tryd.ntmps94
    go_wp2_with fail
    go_ret
    exact ⟨by rw [HR.out]; exact congrArg (fun b => Ending.returned (.bool b)) (int_eq0 n), Below.refl _ _⟩
  | true =>
    by_cases hn : n = 0
    · subst hn
      obtain rfl : xs = [] := List.length_eq_zero_iff.1 hl
      have HR : Shut (listB true [] = false) := ⟨rfl⟩
      generalize listB true [] = res at *
      clear hl hrd
      go_enter Tryd.func94, Tryd.ntmps94
      go_wp2_with fail
      go_ret
      exact ⟨by rw [HR.out]; rfl, Below.refl _ _⟩
    · have hR : Shut (listB true xs = incB 0 xs) := ⟨by
        unfold listB
        cases xs with
        | nil => simp at hl; omega
        | cons y ys => simp⟩
      generalize listB true xs = res at *
      have HL := Shut.mk hl
      have gn : ((n : Int) == 0) = false := by simp; omega
      clear hl
      go_enter Tryd.func94, Tryd.ntmps94
      go_wp2_with fail
      go_loopw [5] (fun i wr => ∃ k : Nat, k ≤ n ∧ i = .int .i64 k ∧ Shut (incB 0 (xs.take k) = true ∧ ∀ j, j < k → 1 ≤ xs.getD j 0) ∧ Below w.heap.size w wr) (fun i _ => n - (intOf i).toNat)
      case atStart => exact ⟨0, by omega, rfl, ⟨⟨rfl, fun j hj => by omega⟩⟩, Below.refl _ _⟩
      case round =>
        obtain ⟨k, hk, rfl, hI, hb⟩ := hrel
        by_cases hkn : k < n
        · obtain ⟨g, o, x, rfl, hcx, hx⟩ := hrd.i64_at hb hkn
          have hs := incB_snoc (xs.take k) x 0
          have ht : xs.take (k + 1) = xs.take k ++ [x] := by rw [List.take_add_one, hx]; rfl
          rw [hI.out.1, Bool.true_and, ← ht] at hs
          have hxd : xs.getD k 0 = x := by rw [List.getD_eq_getElem?_getD, hx]; rfl
          have hbad : incB 0 (xs.take (k + 1)) = false → incB 0 xs = false := by
            intro hf
            cases hh : incB 0 xs with
            | false => rfl
            | true =>
              have h2 := incB_app (xs.take (k + 1)) (xs.drop (k + 1)) 0 (by rw [List.take_append_drop]; exact hh)
              rw [hf] at h2; exact h2.symm
          have HBAD := Shut.mk hbad
          have HXD := Shut.mk hxd
          clear ht hbad hxd
          cases k with
          | zero =>
            have hs2 : incB 0 (xs.take (0 + 1)) = (decide (0 < x) && decide (x ≤ 4096)) := hs
            have HS := Shut.mk hs2
            have hcx0 : wr.cell? ⟨g, o, none⟩ = some (.int .i64 x) := hcx
            clear hx hs hs2 hcx
            by_cases h1 : x < 1
            · have g1 : decide (x < 1) = true := by simp [h1]
              go_wp2_with fail
              go_quiet (fail)
              go_wp2_with fail
              go_ret
              exact ⟨by rw [hR.out, HBAD.out (by rw [HS.out]; simp; omega)]; rfl, below_then hb (Drw.below ⟨_, rfl⟩) hb.size⟩
            · have g1 : decide (x < 1) = false := by simp [h1]
              by_cases h2 : 4096 < x
              · have g2 : decide (4096 < x) = true := by simp [h2]
                go_wp2_with fail
                go_quiet (fail)
                go_wp2_with fail
                go_ret
                exact ⟨by rw [hR.out, HBAD.out (by rw [HS.out]; simp; omega)]; rfl, below_then hb (Drw.below ⟨_, rfl⟩) hb.size⟩
              · have g2 : decide (4096 < x) = false := by simp [h2]
                go_wp2_with fail
                go_quiet (fail)
                go_wp2_with fail
                go_roundw
                case rel =>
                  refine ⟨0 + 1, by omega, by go_num, ⟨⟨by rw [HS.out]; simp; omega, fun j' hj' => ?_⟩⟩, below_then hb (Drw.below ⟨_, rfl⟩) hb.size⟩
                  rcases Nat.lt_or_ge j' (0) with h | h
                  · exact hI.out.2 j' h
                  · obtain rfl : j' = 0 := by omega
                    rw [HXD.out]; omega
                case measure => simp [intOf]; omega
          | succ j =>
            obtain ⟨g', o', y, e', hcy, hy⟩ := hrd.i64_at hb (show j < n by omega)
            injection e' with e'
            injection e' with e1 e2
            subst e1 e2
            have hy1 : 1 ≤ y := by
              have := hI.out.2 j (by omega)
              rwa [List.getD_eq_getElem?_getD, hy] at this
            rw [getLast_take xs j y hy] at hs
            have HS := Shut.mk hs
            clear hx hs hy
            have g0 : decide ((0 : Int) < ((j + 1 : Nat) : Int)) = true := by simp
            have gj : ((j + 1 : Nat) : Int) - 1 = (j : Int) := by omega
            by_cases h1 : x < 1
            · have g1 : decide (x < 1) = true := by simp [h1]
              go_wp2_with fail
              go_quiet (fail)
              go_wp2_with fail
              go_ret
              exact ⟨by rw [hR.out, HBAD.out (by rw [HS.out]; simp; omega)]; rfl, below_then hb (Drw.below ⟨_, rfl⟩) hb.size⟩
            · have g1 : decide (x < 1) = false := by simp [h1]
              by_cases h2 : 4096 < x
              · have g2 : decide (4096 < x) = true := by simp [h2]
                go_wp2_with fail
                go_quiet (fail)
                go_wp2_with fail
                go_ret
                exact ⟨by rw [hR.out, HBAD.out (by rw [HS.out]; simp; omega)]; rfl, below_then hb (Drw.below ⟨_, rfl⟩) hb.size⟩
              · have g2 : decide (4096 < x) = false := by simp [h2]
                by_cases h3 : x ≤ y
                · have g3 : decide (x ≤ y) = true := by simp [h3]
                  go_wp2_with fail
                  go_quiet (fail)
                  go_wp2_with fail
                  go_ret
                  exact ⟨by rw [hR.out, HBAD.out (by rw [HS.out]; simp; omega)]; rfl, below_then hb (Drw.below ⟨_, rfl⟩) hb.size⟩
                · have g3 : decide (x ≤ y) = false := by simp [h3]
                  go_wp2_with fail
                  go_quiet (fail)
                  go_wp2_with fail
                  go_roundw
                  case rel =>
                    refine ⟨j + 1 + 1, by omega, by go_num, ⟨⟨by rw [HS.out]; simp; omega, fun j' hj' => ?_⟩⟩, below_then hb (Drw.below ⟨_, rfl⟩) hb.size⟩
                    rcases Nat.lt_or_ge j' (j + 1) with h | h
                    · exact hI.out.2 j' h
                    · obtain rfl : j' = j + 1 := by omega
                      rw [HXD.out]; omega
                  case measure => simp [intOf]; omega
        · obtain rfl : k = n := by omega
          go_wp2_with fail
          go_ret
          have hI2 := hI.out.1
          have hl := HL.out
          rw [List.take_of_length_le (by omega)] at hI2
          exact ⟨by rw [hR.out, hI2]; rfl, hb⟩
theorem ref28_Kind (s : List UInt8) (w : World) :
    Calls Tryd.prog 24 #[.string ⟨s.toArray⟩] w fun e w' => e = .returned (.tuple #[.int .i64 (kindI s + 1), .bool (decide (0 ≤ kindI s))]) ∧ Below w.heap.size w w' := by
  have hk := ref28_rows w
  generalize hres : kindI s = res
  have HRES := Shut.mk hres
  have HK := Shut.mk hk
  clear hres hk
  go_enter Tryd.func24, Tryd.ntmps24
  go_wp2_with fail
  refine HK.out.mono ?_
  rintro e w1 ⟨g, rfl, hg, hB, hb⟩
  have HB := Shut.mk hB
  clear HK hB
  go_wp2_with fail
  go_loop [5] (fun i => ∃ k : Nat, k ≤ 27 ∧ i = .int .i64 k ∧ Shut (∀ j : Nat, j < k → (rowOf ((j : Int) + 1)).name ≠ s)) (fun i => 27 - (intOf i).toNat)
  case atStart => exact ⟨0, by omega, rfl, ⟨fun j hj => by omega⟩⟩
  case round =>
    obtain ⟨k, hk, rfl, hN⟩ := hrel
    by_cases hk27 : k < 27
    · have hc := HB.out.cell (refRows_at k hk27 0 (by omega) rfl)
      rw [Nat.add_zero] at hc
      have hget := rowOf_get ((k : Int) + 1) (by unfold isKind; simp; omega)
      have HGET := Shut.mk hget
      clear hget
      generalize hr : rowOf ((k : Int) + 1) = r at *
      have HRW := Shut.mk hr
      clear hr
      by_cases hrs : r.name = s
      · have hR : Shut (res = (k : Int)) := ⟨by
          rw [← HRES.out]
          unfold kindI
          have : kindAt s = some k := by
            unfold kindAt
            refine List.findIdx?_eq_some_iff_getElem.2 ⟨by rw [rws_length]; omega, ?_, fun j hj => ?_⟩
            · have := HGET.out
              rw [show ((k : Int) + 1 - 1).toNat = k by omega] at this
              rw [(List.getElem?_eq_some_iff.1 this).2]
              simp [hrs]
            · have h1 := hN.out j hj
              have h2 := rowOf_get ((j : Int) + 1) (by unfold isKind; simp; omega)
              rw [show ((j : Int) + 1 - 1).toNat = j by omega] at h2
              rw [(List.getElem?_eq_some_iff.1 h2).2]
              simpa using h1
          rw [this]⟩
        subst hrs
        go_wp2_with fail
        go_ret2
        exact ⟨by rw [hR.out]; simp, hb⟩
      · have HRS := Shut.mk hrs
        have g9 : (r.name == s) = false := by simp [hrs]
        clear hrs
        go_wp2_with fail
        go_round
        case rel =>
          refine ⟨k + 1, by omega, by go_num, ⟨fun j hj => ?_⟩⟩
          rcases Nat.lt_or_ge j k with h | h
          · exact hN.out j h
          · obtain rfl : j = k := by omega
            rw [HRW.out]; exact HRS.out
        case measure => simp [intOf]; omega
    · obtain rfl : k = 27 := by omega
      have hR : Shut (res = -1) := ⟨by
        rw [← HRES.out]
        unfold kindI
        have : kindAt s = none := by
          unfold kindAt
          refine List.findIdx?_eq_none_iff.2 fun r hr => ?_
          obtain ⟨j, hj⟩ := List.getElem?_of_mem hr
          have hjl : j < 27 := by have := (List.getElem?_eq_some_iff.1 hj).1; rwa [rws_length] at this
          have h1 := hN.out j hjl
          have h2 := rowOf_get ((j : Int) + 1) (by unfold isKind; simp; omega)
          rw [show ((j : Int) + 1 - 1).toNat = j by omega, hj] at h2
          rw [← Option.some.inj h2] at h1
          simpa using h1
        rw [this]⟩
      go_wp2_with fail
      go_ret2
      exact ⟨by rw [hR.out]; rfl, hb⟩
end Go.Proofs.YtedegedceeefdaaDoor
/-! Walks: custodyref28, Check. -/
namespace Go.Proofs.YtedegedceeefdaaDoor
open Go.RowKit Go.Cw Cu
set_option maxRecDepth 100000
set_option maxHeartbeats 4000000
set_option linter.unusedVariables false
set_option linter.unusedSimpArgs false
theorem aggRef : AggT Tryd.prog 119 8 := ⟨by kernel_rfl, by kernel_rfl⟩
theorem refRow_one (r : Row) : ∀ v ∈ refRow r, v.oneCell' = true := by intro v hv; simp [refRow] at hv; rcases hv with rfl | rfl | rfl | rfl | rfl | rfl | rfl | rfl <;> rfl
theorem uses_and (u : Int) (h0 : 0 ≤ u) (h1 : u ≤ 956) : (bits BinOp.and IntKind.i64 u 956 != u) = !usesB u := by
  have : ∀ j : Fin 957, (bits BinOp.and IntKind.i64 (j.val : Int) 956 != (j.val : Int)) = !usesB (j.val : Int) := by decide +kernel
  have h := this ⟨u.toNat, by omega⟩
  rwa [show ((u.toNat : Nat) : Int) = u by omega] at h
theorem run_sub1 {P : Program} {w : World} (t t' : TypeId) (k : Nat) (hk : k < 27) (ρ : Operand → Value) (x y : Operand) (d : Option Tmp) (ty : TypeId) (pos : String) (af : Array Edge) (hx : ρ x = .int .i64 ((k : Int) + 1)) (hy : ρ y = .int .i64 1) :
    (execOp ρ ⟨d, .binOp .sub t x y t', ty, pos, af, none⟩).run P w = .ok (.value (.int .i64 (k : Int))) w := by
  have hw : IntKind.i64.wrap ((k : Int) + 1 - 1) = (k : Int) := by
    rw [show (k : Int) + 1 - 1 = (k : Int) by omega]
    have : ∀ j : Fin 27, IntKind.i64.wrap (j.val : Int) = (j.val : Int) := by decide +kernel
    exact this ⟨k, hk⟩
  simp [execOp, hx, hy, eqGuard, binOp, Op.intArith]
  simpa using hw
theorem fa_cmd0 (g : Nat) (w : World) : (Instr.fieldAt 24 (.pointer (some ⟨g, 0, none⟩)) 0).run Tryd.prog w = .ok (.pointer (some ⟨g, 0, none⟩)) w := by kernel_rfl
theorem run_rowAt {w : World} (k : Nat) (hk : k < 27) {g : Nat} (ρ : Operand → Value) (x y : Operand) (d : Option Tmp) (ty : TypeId) (pos : String) (af : Array Edge) (hx : ρ x = .slice (some ⟨g, 0, none⟩) 27 27) (hy : ρ y = .int .i64 (k : Int)) :
    (execOp ρ ⟨d, .indexAddr 116 x y, ty, pos, af, none⟩).run Tryd.prog w = .ok (.value (.pointer (some ⟨g, k * 8, none⟩))) w := by
  have h := run_indexAt_slice (P := Tryd.prog) (w := w) 116 ⟨g, 0, none⟩ 27 27 .i64 (k : Int) (by kernel_rfl)
  have hs : (sizeOf (Tryd.prog.elem 116)).run Tryd.prog w = .ok 8 w := by kernel_rfl
  rw [if_pos (by omega), hs] at h
  simp only [execOp, hx, hy, Sem.run_bind, h]
  simp [Addr.add_lit]
theorem ref28_Check (c : Cmd) (A : Option Addr) (n cap : Nat) (w : World) (hrd : Rd w A n 1 (iv c.list)) (hd : c.data.length ≤ 9223372036854775807) (hk64 : inI64 c.kind) :
    Calls Tryd.prog 28 #[.agg (cmdV c A n cap).toArray] w fun e w' => e = .returned (.int .i64 (check c : Int)) ∧ Below w.heap.size w w' := by
  have hb0 := below_alloc w (.cells (cmdV c A n cap).toArray 24)
  have hB0 := Blk.new w 24 (cmdV c A n cap)
  have hz0 : (w.alloc (.cells (cmdV c A n cap).toArray 24)).heap.size = w.heap.size + 1 := by simp
  obtain ⟨K, K1, K2, K3, K4, K5, D, L⟩ := c
  rcases isKind_split K with ⟨k, hk27, rfl, hK⟩ | hK
  · have hres : check ⟨(k : Int) + 1, K1, K2, K3, K4, K5, D, L⟩ = check ⟨(k : Int) + 1, K1, K2, K3, K4, K5, D, L⟩ := rfl
    conv at hres => rhs; unfold check
    simp only [hK, cond_true, numsB] at hres
    generalize check ⟨(k : Int) + 1, K1, K2, K3, K4, K5, D, L⟩ = res at *
    have hrows := fun (g : Nat) (w1 : World) (hB : Blk w1 g 119 refRows) j v (hv : (refRow (rowOf ((k : Int) + 1)))[j]? = some v) => hB.cell (refRows_at k hk27 j (List.getElem?_eq_some_iff.1 hv).1 hv)
    generalize rowOf ((k : Int) + 1) = r at *
    have n1 := fun w1 => ref28_within (r.uses &&& 1 != 0) K1 4294967296 w1
    have n2 := fun w1 => ref28_within (r.uses &&& 2 != 0) K2 4294967296 w1
    have n3 := fun w1 => ref28_within (r.uses &&& 4 != 0) K3 31 w1
    have n4 := fun w1 => ref28_within (r.uses &&& 4 != 0) K4 956 w1
    have n5 := fun w1 => ref28_within (r.uses &&& 4 != 0) K5 1099511627776 w1
    have hks := fun (w1 : World) (h : Rd w1 A n 1 (iv L)) => ref28_isList (r.uses &&& 8 != 0) L A n cap w1 h
    simp only [withB_eq _ _ _ _ (by decide : (0 : Int) ≤ 4294967296)] at n1 n2
    simp only [withB_eq _ _ _ _ (by decide : (0 : Int) ≤ 31)] at n3
    simp only [withB_eq _ _ _ _ (by decide : (0 : Int) ≤ 956)] at n4
    simp only [withB_eq _ _ _ _ (by decide : (0 : Int) ≤ 1099511627776)] at n5
    simp only [listB_eq] at hks
    have hu4 : numB r.uses 4 K4 956 = true → 0 ≤ K4 ∧ K4 ≤ 956 := numB_uses
    simp only at hres hrd hd
    generalize numB r.uses 1 K1 4294967296 = b1 at *
    generalize numB r.uses 2 K2 4294967296 = b2 at *
    generalize numB r.uses 4 K3 31 = b3 at *
    generalize numB r.uses 4 K4 956 = b4 at *
    generalize numB r.uses 4 K5 1099511627776 = b5 at *
    generalize keysB r.uses L = b6 at *
    have hrr : refRow r = [.string ⟨r.name.toArray⟩, .bool (r.uses &&& 1 != 0), .bool (r.uses &&& 2 != 0), .bool (r.uses &&& 4 != 0), .bool (r.uses &&& 8 != 0), .bool (r.uses &&& 16 != 0), .int .i64 (r.least : Int), .int .i64 (r.most : Int)] := rfl
    have hone := refRow_one r
    have hrl : (refRow r).length = 8 := rfl
    generalize refRow r = rr at *
    generalize (r.uses &&& 1 != 0) = u1 at *
    generalize (r.uses &&& 2 != 0) = u2 at *
    generalize (r.uses &&& 4 != 0) = u4 at *
    generalize (r.uses &&& 8 != 0) = u8 at *
    generalize (r.uses &&& 16 != 0) = b8 at *
    have HRES := Shut.mk hres
    have HROWS := Shut.mk hrows
    have N1 := Shut.mk n1
    have N2 := Shut.mk n2
    have N3 := Shut.mk n3
    have N4 := Shut.mk n4
    have N5 := Shut.mk n5
    have HKS := Shut.mk hks
    have HU4 := Shut.mk hu4
    have HB0 := Shut.mk hB0
    have HRR := Shut.mk hrr
    clear hres hrows n1 n2 n3 n4 n5 hks hu4 hB0 hK hrr
    have c0 := HB0.out.cell (j := 0) (v := .int .i64 ((k : Int) + 1)) rfl
    have g1 : decide ((k : Int) + 1 < 1) = false := by simp; omega
    have g2 : decide (27 < (k : Int) + 1) = false := by simp; omega
    go_enter Tryd.func28, Tryd.ntmps28
    go_wp2_with fail
    clear c0 g1 g2
    generalize w.alloc (.cells (cmdV ⟨(k : Int) + 1, K1, K2, K3, K4, K5, D, L⟩ A n cap).toArray 24) = w1 at *
    refine wp_region_mono 7 (fun i v w2 => match i with
      | 0 => ∃ g, v = .slice (some ⟨g, 0, none⟩) 27 27 ∧ Blk w2 g 119 refRows
      | 1 => v = .pointer (some ⟨w.heap.size, 0, none⟩)
      | 2 => v = .int .i64 ((k : Int) + 1)
      | 3 => v = .int .i64 (k : Int)
      | 4 => ∃ g, v = .pointer (some ⟨g, k * 8, none⟩) ∧ Blk w2 g 119 refRows
      | 5 => v = .agg rr.toArray
      | _ => ∃ g cs, v = .pointer (some ⟨g, 0, none⟩) ∧ w.heap.size + 1 ≤ g ∧ cs.length = 8 ∧ Blk w2 g 119 cs) (by kernel_rfl) (by kernel_rfl) ?_ ?_ ?_
    · intro i v w2 w3 hi h hb
      match i, hi, h with
      | 0, _, h => obtain ⟨g, e, hB⟩ := h; exact ⟨g, e, hB.below hb⟩
      | 1, _, h => exact h
      | 2, _, h => exact h
      | 3, _, h => exact h
      | 4, _, h => obtain ⟨g, e, hB⟩ := h; exact ⟨g, e, hB.below hb⟩
      | 5, _, h => exact h
      | 6, _, h => obtain ⟨g, cs, e, hg, hl, hB⟩ := h; exact ⟨g, cs, e, hg, hl, hB.below hb⟩
      | k + 7, hi, _ => omega
    · refine Steps.cons (fun a1 w2 hp => ?_) (Steps.cons (fun a1 w2 hp => ?_) (Steps.cons (fun a1 w2 hp => ?_) (Steps.cons (fun a1 w2 hp => ?_) (Steps.cons (fun a1 w2 hp => ?_) (Steps.cons (fun a1 w2 hp => ?_) (Steps.cons (fun a1 w2 hp => ?_) Steps.nil))))))
      · refine step_call Tryd.call89 (args := #[]) (by simp) ((ref28_rows w2).mono ?_)
        rintro e w3 ⟨g, rfl, hg, hB, hb⟩
        exact ⟨_, rfl, ⟨g, rfl, hB⟩, hb⟩
      · exact step_field (hp.same 1 (by kernel_rfl)) (fa_cmd0 _ _) ⟨rfl, Below.refl _ _⟩
      · exact step_load (hp.got 1 (by kernel_rfl) 13 (by kernel_rfl)) (run_load_cell (by kernel_rfl) ((HB0.out.below hp.below).cell (j := 0) rfl)) ⟨rfl, Below.refl _ _⟩
      · have e2 : a1.eval (.tmp 14) = _ := hp.got 2 (by kernel_rfl) 14 (by kernel_rfl)
        exact step_run (run_sub1 _ _ k hk27 _ _ _ _ _ _ _ e2 rfl) ⟨rfl, Below.refl _ _⟩
      · obtain ⟨g, e0, hB⟩ := hp.got 0 (by kernel_rfl) 12 (by kernel_rfl)
        have e3 : a1.eval (.tmp 15) = _ := hp.got 3 (by kernel_rfl) 15 (by kernel_rfl)
        exact step_run (run_rowAt k hk27 _ _ _ _ _ _ _ e0 e3) ⟨⟨g, rfl, hB⟩, Below.refl _ _⟩
      · obtain ⟨g, e4, hB⟩ := hp.got 4 (by kernel_rfl) 16 (by kernel_rfl)
        exact step_load_agg aggRef e4 hrl (HROWS.out g w2 hB) ⟨rfl, Below.refl _ _⟩
      · exact step_alloc Tryd.zeroValue119 (cs := [.string ⟨#[]⟩, .bool false, .bool false, .bool false, .bool false, .bool false, .int .i64 0, .int .i64 0]) rfl ⟨⟨_, _, rfl, by have := hp.below.size; omega, rfl, Blk.new _ _ _⟩, below_alloc _ _⟩
    · intro w2 vs hb1 hΦ
      obtain ⟨g0, e0, hX0⟩ := hΦ 0 (by decide)
      have e1 : vs 1 = _ := hΦ 1 (by decide)
      have e2 : vs 2 = _ := hΦ 2 (by decide)
      have e3 : vs 3 = _ := hΦ 3 (by decide)
      obtain ⟨g4, e4, hX4⟩ := hΦ 4 (by decide)
      have e5 : vs 5 = _ := hΦ 5 (by decide)
      obtain ⟨g, cs, e6, hg, hcs, hBr⟩ := hΦ 6 (by decide)
      simp only [List.take_succ_cons, List.take_zero, List.drop_succ_cons, List.drop_zero, putL, Nat.reduceAdd, e0, e1, e2, e3, e4, e5, e6, Act.put, List.setIfInBounds_toArray, List.set_cons_succ, List.set_cons_zero]
      clear hΦ e0 e1 e2 e3 e4 e5 e6 hX0 hX4
      refine stop_store ?_
      refine at_store_blk aggRef rfl rfl hrl hcs hBr hone ?_
      intro hR2
      have hb2 := below_setRow (hb0.trans (hb1.mono hb0.size)) (show w.heap.size ≤ g by omega) rr.toArray
      have HB2 := Shut.mk ((HB0.out.below hb1).setRow_other (g' := g) (by omega) rr.toArray)
      have HR2 : Shut (Blk (w2.setRow g rr.toArray) g 119 [.string ⟨r.name.toArray⟩, .bool u1, .bool u2, .bool u4, .bool u8, .bool b8, .int .i64 (r.least : Int), .int .i64 (r.most : Int)]) := ⟨by rw [← HRR.out]; exact hR2⟩
      clear hR2 hBr hcs hone hrl
      generalize w2.setRow g rr.toArray = w3 at *
      clear hb1 HROWS HRR HB0
      clear w2
      clear hb0 hz0
      clear w1
      have r1 := HR2.out.cell (j := 1) (v := .bool u1) rfl
      have r2 := HR2.out.cell (j := 2) (v := .bool u2) rfl
      have r3 := HR2.out.cell (j := 3) (v := .bool u4) rfl
      have c1 := HB2.out.cell (j := 1) (v := .int .i64 K1) rfl
      go_wp2_with fail
      clear r1 r2 r3 c1
      refine (N1.out _).mono ?_
      rintro e w4 ⟨rfl, rfl⟩
      cases b1
      · go_wp2_with fail
        go_ret
        exact ⟨by rw [HRES.out]; rfl, hb2⟩
      clear N1
      have r1 := HR2.out.cell (j := 1) (v := .bool u1) rfl
      have r2 := HR2.out.cell (j := 2) (v := .bool u2) rfl
      have r3 := HR2.out.cell (j := 3) (v := .bool u4) rfl
      have c2 := HB2.out.cell (j := 2) (v := .int .i64 K2) rfl
      go_wp2_with fail
      clear r1 r2 r3 c2
      refine (N2.out _).mono ?_
      rintro e w4 ⟨rfl, rfl⟩
      cases b2
      · go_wp2_with fail
        go_ret
        exact ⟨by rw [HRES.out]; rfl, hb2⟩
      clear N2
      have r1 := HR2.out.cell (j := 1) (v := .bool u1) rfl
      have r2 := HR2.out.cell (j := 2) (v := .bool u2) rfl
      have r3 := HR2.out.cell (j := 3) (v := .bool u4) rfl
      have c3 := HB2.out.cell (j := 3) (v := .int .i64 K3) rfl
      go_wp2_with fail
      clear r1 r2 r3 c3
      refine (N3.out _).mono ?_
      rintro e w4 ⟨rfl, rfl⟩
      cases b3
      · go_wp2_with fail
        go_ret
        exact ⟨by rw [HRES.out]; rfl, hb2⟩
      clear N3
      have r1 := HR2.out.cell (j := 1) (v := .bool u1) rfl
      have r2 := HR2.out.cell (j := 2) (v := .bool u2) rfl
      have r3 := HR2.out.cell (j := 3) (v := .bool u4) rfl
      have c5 := HB2.out.cell (j := 5) (v := .int .i64 K5) rfl
      go_wp2_with fail
      clear r1 r2 r3 c5
      refine (N5.out _).mono ?_
      rintro e w4 ⟨rfl, rfl⟩
      cases b5
      · go_wp2_with fail
        go_ret
        exact ⟨by rw [HRES.out]; cases b4 <;> rfl, hb2⟩
      clear N5
      have r1 := HR2.out.cell (j := 1) (v := .bool u1) rfl
      have r2 := HR2.out.cell (j := 2) (v := .bool u2) rfl
      have r3 := HR2.out.cell (j := 3) (v := .bool u4) rfl
      have c4 := HB2.out.cell (j := 4) (v := .int .i64 K4) rfl
      go_wp2_with fail
      clear r1 r2 r3 c4
      refine (N4.out _).mono ?_
      rintro e w4 ⟨rfl, rfl⟩
      cases b4
      · go_wp2_with fail
        go_ret
        exact ⟨by rw [HRES.out]; rfl, hb2⟩
      clear N4
      obtain ⟨hu0, hu1⟩ := HU4.out rfl
      have hua := uses_and K4 hu0 hu1
      generalize usesB K4 = b7 at *
      have HUA := Shut.mk hua
      clear hua HU4
      have c4 := HB2.out.cell (j := 4) (v := .int .i64 K4) rfl
      have c7 := HB2.out.cell (j := 7) (v := .slice A n cap) rfl
      have r4 := HR2.out.cell (j := 4) (v := .bool u8) rfl
      cases b7
      · have gU : (bits BinOp.and IntKind.i64 K4 956 != K4) = true := HUA.out
        go_wp2_with fail
        go_ret
        exact ⟨by rw [HRES.out]; cases b6 <;> rfl, hb2⟩
      have gU : (bits BinOp.and IntKind.i64 K4 956 != K4) = false := HUA.out
      go_wp2_with fail
      clear c4 c7 r4 gU
      refine (HKS.out _ (hrd.below hb2)).mono ?_
      rintro e w4 ⟨rfl, hb3⟩
      replace HB2 := Shut.mk (HB2.out.below hb3)
      replace HR2 := Shut.mk (HR2.out.below hb3)
      replace hb2 := hb2.trans (hb3.mono hb2.size)
      clear hb3
      cases b6
      · go_wp2_with fail
        go_ret
        exact ⟨by rw [HRES.out]; rfl, hb2⟩
      have r5 := HR2.out.cell (j := 5) (v := .bool b8) rfl
      have r6 := HR2.out.cell (j := 6) (v := .int .i64 (r.least : Int)) rfl
      have r7 := HR2.out.cell (j := 7) (v := .int .i64 (r.most : Int)) rfl
      have c6 := HB2.out.cell (j := 6) (v := .string ⟨D.toArray⟩) rfl
      have e6 : (({ data := D.toArray } : ByteArray)).size = D.length := rfl
      cases b8
      · cases D with
        | cons x xs =>
          have hR : Shut (res = 1) := ⟨by rw [HRES.out]; rfl⟩
          clear HRES
          go_wp2_with fail
          all_goals (go_ret; exact ⟨by rw [hR.out]; rfl, hb2⟩)
        | nil =>
          by_cases hl : r.least = 0
          · by_cases hm : r.most < 0
            · omega
            · have hR : Shut (res = 0) := ⟨by rw [HRES.out, hl]; simp⟩
              clear HRES
              go_wp2_with fail
              all_goals (go_ret; exact ⟨by rw [hR.out]; rfl, hb2⟩)
          · have hR : Shut (res = 1) := ⟨by rw [HRES.out]; simp [hl]⟩
            clear HRES
            go_wp2_with fail
            all_goals (go_ret; exact ⟨by rw [hR.out]; rfl, hb2⟩)
      · by_cases hl : r.least ≤ D.length
        · by_cases hm : r.most < D.length
          · have hR : Shut (res = 2) := ⟨by rw [HRES.out]; simp [hl, hm]⟩
            clear HRES
            go_wp2_with fail
            all_goals (go_ret; exact ⟨by rw [hR.out]; rfl, hb2⟩)
          · have hR : Shut (res = 0) := ⟨by rw [HRES.out]; simp [hl, hm]⟩
            clear HRES
            go_wp2_with fail
            all_goals (go_ret; exact ⟨by rw [hR.out]; rfl, hb2⟩)
        · have hR : Shut (res = 1) := ⟨by rw [HRES.out]; simp [hl]⟩
          clear HRES
          go_wp2_with fail
          all_goals (go_ret; exact ⟨by rw [hR.out]; rfl, hb2⟩)
  · have hres : check ⟨K, K1, K2, K3, K4, K5, D, L⟩ = 1 := by
      unfold check
      show (bif isKind K then _ else 1) = 1
      rw [hK]; rfl
    rw [hres]
    have c0 := hB0.cell (j := 0) (v := .int .i64 K) rfl
    clear hB0 hres
    by_cases h1 : K < 1
    · have g1 : decide (K < 1) = true := by simp [h1]
      clear hK
      go_enter Tryd.func28, Tryd.ntmps28
      go_wp2_with fail
      go_ret
      exact ⟨rfl, hb0⟩
    · have g1 : decide (K < 1) = false := by simp [h1]
      have g2 : decide (27 < K) = true := by unfold isKind at hK; simp at hK; simp; omega
      clear hK
      go_enter Tryd.func28, Tryd.ntmps28
      go_wp2_with fail
      go_ret
      exact ⟨rfl, hb0⟩
end Go.Proofs.YtedegedceeefdaaDoor
/-! Walks: custodyref28, Encode. -/
namespace Go.Proofs.YtedegedceeefdaaDoor
open Go.RowKit Go.Cw Cu
set_option maxRecDepth 100000
set_option maxHeartbeats 1000000
set_option linter.unusedVariables false
set_option linter.unusedSimpArgs false
theorem ref28_Encode (c : Cmd) (A : Option Addr) (n cap : Nat) (w : World) (hrd : Rd w A n 1 (iv c.list)) (hnum : ∀ x ∈ nums c, inI64 x) (hlist : ∀ x ∈ c.list, inI64 x) (hd : c.data.length ≤ 1000000000) (hn : n ≤ 1000000000) :
    Calls Tryd.prog 31 #[.agg (cmdV c A n cap).toArray] w (RetOwn w 5 1 (encCmd c).length (bv (encCmd c))) := by
  have hb0 := below_alloc w (.cells (cmdV c A n cap).toArray 24)
  have hB0 := Blk.new w 24 (cmdV c A n cap)
  have hz0 : (w.alloc (.cells (cmdV c A n cap).toArray 24)).heap.size = w.heap.size + 1 := by simp
  generalize hres : encCmd c = res
  have HRES := Shut.mk hres
  have HNUM := Shut.mk hnum
  have HLIST := Shut.mk hlist
  clear hres hnum hlist
  go_enter Tryd.func31, Tryd.ntmps31
  have c0 := hB0.cell (j := 0) (v := .int .i64 c.kind) rfl
  have c1 := hB0.cell (j := 1) (v := .int .i64 c.key) rfl
  have c2 := hB0.cell (j := 2) (v := .int .i64 c.other) rfl
  have c3 := hB0.cell (j := 3) (v := .int .i64 c.type) rfl
  have c4 := hB0.cell (j := 4) (v := .int .i64 c.uses) rfl
  have c5 := hB0.cell (j := 5) (v := .int .i64 c.life) rfl
  go_wp2_with fail
  clear c0 c1 c2 c3 c4 c5
  change Code.wp _ _ _ _ ((w.alloc (.cells (cmdV c A n cap).toArray 24)).alloc (.cells (iv (nums c)).toArray 3))
  generalize w.alloc (.cells (cmdV c A n cap).toArray 24) = w0 at *
  have hal0 := below_alloc w0 (.cells (iv (nums c)).toArray 3)
  have hL0 := Blk.new w0 3 (iv (nums c))
  rw [hz0] at hL0
  have hB1 := hB0.below hal0
  have hb1 := hb0.trans (hal0.mono hb0.size)
  have hz1 : (w0.alloc (.cells (iv (nums c)).toArray 3)).heap.size = w.heap.size + 2 := by simp [hz0]
  generalize w0.alloc (.cells (iv (nums c)).toArray 3) = w1 at *
  clear hal0 hB0 hb0 hz0
  clear w0
  have HB0 := Shut.mk hB1
  have HL0 := Shut.mk hL0
  have hb0 := hb1
  clear hB1 hL0 hb1
  have hlen : ∀ k, k ≤ 6 → (((nums c).take k).flatMap encInt).length ≤ 9 * k := by
    intro k hk
    have : ∀ l : List Int, (l.flatMap encInt).length ≤ 9 * l.length := by
      intro l
      induction l with
      | nil => simp
      | cons x r ih => have := encInt_length_le x; simp only [List.flatMap_cons, List.length_append, List.length_cons]; omega
    have h := this ((nums c).take k)
    rw [List.length_take] at h
    omega
  have hmsgk : ∀ (k : Nat) (x : Int), (nums c)[k]? = some x → ((nums c).take (k + 1)).flatMap encInt = ((nums c).take k).flatMap encInt ++ encInt x := by
    intro k x hx
    rw [List.take_add_one, hx]; simp
  obtain ⟨msg, hmsg⟩ : ∃ msg : Nat → List UInt8, ∀ k, msg k = ((nums c).take k).flatMap encInt := ⟨_, fun _ => rfl⟩
  simp only [← hmsg] at hlen hmsgk
  have hm0 : msg 0 = [] := by rw [hmsg]; rfl
  have hm6 : msg 6 = (nums c).flatMap encInt := by rw [hmsg]; rfl
  have HLEN := Shut.mk hlen
  have HMK := Shut.mk hmsgk
  have HM0 := Shut.mk hm0
  have HM6 := Shut.mk hm6
  clear hlen hmsgk hm0 hm6 hmsg
  go_loopw [5, 3] (fun i s wr => ∃ (k : Nat) (D : Option Addr) (d : Nat), k ≤ 6 ∧ i = .int .i64 k ∧ s = .slice D (msg k).length d ∧ Shut (wr.ownsRow (w.heap.size + 2) 5 1 (.slice D (msg k).length d) (msg k).length (bv (msg k))) ∧ Shut (Blk wr w.heap.size 24 (cmdV c A n cap)) ∧ Shut (Blk wr (w.heap.size + 1) 3 (iv (nums c))) ∧ Below w.heap.size w wr ∧ w.heap.size + 2 ≤ wr.heap.size) (fun i _ _ => 6 - (intOf i).toNat)
  case atStart => exact ⟨0, none, 0, by omega, rfl, by rw [HM0.out]; rfl, ⟨by rw [HM0.out]; exact World.ownsRow_nil _ _ _ _⟩, HB0, HL0, hb0, by omega⟩
  case round =>
    clear HB0 HL0 hb0 hz1
    obtain ⟨k, D, d, hk, rfl, rfl, HO, HB, HL, hbw, hsz⟩ := hrel
    by_cases hk6 : k < 6
    · obtain ⟨x, hx⟩ : ∃ x, (nums c)[k]? = some x := ⟨_, List.getElem?_eq_getElem (by simpa [nums] using hk6)⟩
      have hin := HNUM.out x (List.mem_of_getElem? hx)
      have hl1 := HLEN.out k (by omega)
      have hle := encInt_length_le x
      have hcx := HL.out.cell (j := k) (v := .int .i64 x) (by simp [iv, hx])
      have HX := Shut.mk hx
      clear hx
      go_wp2_with fail
      refine (ref01_Int x hin wr).mono ?_
      rintro e w2 ⟨E, ec, rfl, hown2, hb2⟩
      have HL1 := Shut.mk hl1
      have HLE := Shut.mk hle
      clear hcx
      go_wp2_with (with_reducible refine stop_append ?_)
      have hownw := own_below HO.out hb2
      have hb3 := below_then hbw hb2 hbw.size
      have hsz2 : w.heap.size + 2 ≤ w2.heap.size := by have := hb2.size; omega
      refine at_append_src eltB (w.heap.size + 2) rfl hownw rfl (Src.ofRd Tryd.underlying33 ec (own_Rd hown2) (bv_one _)) (by omega) (by omega) hsz2 ?_
      intro A' c' w3 hown' hg _
      have hb' := below_own hb3 hb3.size hownw (by omega) hg
      have hq := below_own (Below.refl (w.heap.size + 2) w2) hsz2 hownw (Nat.le_refl _) hg
      have hB2 := (HB.out.below hb2).below_at hq (by omega)
      have hL2 := (HL.out.below hb2).below_at hq (by omega)
      rw [← bv_append, ← HMK.out k x HX.out] at hown'
      have hll : (msg k).length + (encInt x).length = (msg (k + 1)).length := by rw [HMK.out k x HX.out, List.length_append]
      rw [hll] at hown' ⊢
      have HO2 := Shut.mk hown'
      have HB2 := Shut.mk hB2
      have HL2 := Shut.mk hL2
      have hsz3 : w.heap.size + 2 ≤ w3.heap.size := by have := hq.size; omega
      clear hown' hll hownw hown2 hl1 hle hg hq hb2 hb3 hB2 hL2 hsz2
      go_wp2_with fail
      go_roundw
      case rel => exact ⟨k + 1, A', c', by omega, by go_num, rfl, HO2, HB2, HL2, hb', hsz3⟩
      case measure => simp [intOf]; omega
    · obtain rfl : k = 6 := by omega
      have hl1 := HLEN.out 6 (by omega)
      have hres : (msg 6 ++ encBytes c.data) ++ encList encInt c.list = res := by rw [HM6.out, ← HRES.out, encCmd_nums]
      have HRS := Shut.mk hres
      have hel : (encList encInt c.list).length ≤ 9 * c.list.length + 9 := by
        unfold encList
        have : ∀ l : List Int, (l.flatMap encInt).length ≤ 9 * l.length := by
          intro l
          induction l with
          | nil => simp
          | cons x r ih => have := encInt_length_le x; simp only [List.flatMap_cons, List.length_append, List.length_cons]; omega
        have h1 := this c.list
        have h2 := encInt_length_le (c.list.length : Int)
        rw [List.length_append]; omega
      have hll : c.list.length = n := by have := hrd.len; rw [iv_length] at this; omega
      have heb : (encBytes c.data).length ≤ c.data.length + 9 := by
        unfold encBytes
        have h2 := encInt_length_le (c.data.length : Int)
        rw [List.length_append]; omega
      have hsb : sb ⟨c.data.toArray⟩ = c.data := rfl
      have hdz : (⟨c.data.toArray⟩ : ByteArray).size = c.data.length := rfl
      have hbytes := ref01_Bytes ⟨c.data.toArray⟩ (by rw [hdz]; omega)
      rw [hsb] at hbytes
      have hints := fun w1 (h : Rd w1 A n 1 (iv c.list)) => ref01_Ints c.list HLIST.out A n cap (by omega) w1 h
      generalize encBytes c.data = eb at *
      generalize encList encInt c.list = el at *
      have c6 := HB.out.cell (j := 6) (v := .string ⟨c.data.toArray⟩) rfl
      have HLL := Shut.mk hll
      have HINTS := Shut.mk hints
      have HEL := Shut.mk hel
      have HEB := Shut.mk heb
      clear hll hints hel hres heb
      go_wp2_with fail
      refine (hbytes wr).mono ?_
      rintro e w2 ⟨E, ec, rfl, hown2, hb2⟩
      clear c6 hbytes
      have hel := HEL.out
      have heb := HEB.out
      have hll := HLL.out
      go_wp2_with (with_reducible refine stop_append ?_)
      have hownw := own_below HO.out hb2
      have hb3 := below_then hbw hb2 hbw.size
      have hsz2 : w.heap.size + 2 ≤ w2.heap.size := by have := hb2.size; omega
      refine at_append_src eltB (w.heap.size + 2) rfl hownw rfl (Src.ofRd Tryd.underlying33 ec (own_Rd hown2) (bv_one _)) (by omega) (by omega) hsz2 ?_
      intro A' c' w3 hown' hg _
      have hb' := below_own hb3 hb3.size hownw (by omega) hg
      have hq := below_own (Below.refl (w.heap.size + 2) w2) hsz2 hownw (Nat.le_refl _) hg
      have hB2 := (HB.out.below hb2).below_at hq (by omega)
      rw [← bv_append] at hown'
      have hl2 : (msg 6).length + eb.length = (msg 6 ++ eb).length := by rw [List.length_append]
      rw [hl2] at hown' ⊢
      have HO2 := Shut.mk hown'
      have HB2 := Shut.mk hB2
      have hsz3 : w.heap.size + 2 ≤ w3.heap.size := by have := hq.size; omega
      have hl4 : (msg 6 ++ eb).length ≤ c.data.length + 70 := by omega
      generalize hm2 : msg 6 ++ eb = m2 at *
      have HM2 := Shut.mk hm2
      have c7 := HB2.out.cell (j := 7) (v := .slice A n cap) rfl
      clear hown' hownw hown2 hl1 hg hq hb2 hb3 hB2 hsz2 hel heb hll hl2 HO HB HL hm2
      go_wp2_with fail
      refine (HINTS.out w3 (hrd.below hb')).mono ?_
      rintro e w4 ⟨E', ec', rfl, hown2, hb2⟩
      clear c7
      have hel := HEL.out
      have hll := HLL.out
      go_wp2_with (with_reducible refine stop_append ?_)
      have hownw := own_below HO2.out hb2
      have hb3 := below_then hb' hb2 hb'.size
      have hsz2 : w.heap.size + 2 ≤ w4.heap.size := by have := hb2.size; omega
      refine at_append_src eltB (w.heap.size + 2) rfl hownw rfl (Src.ofRd Tryd.underlying33 ec' (own_Rd hown2) (bv_one _)) (by omega) (by omega) hsz2 ?_
      intro A2 c2 w5 hown' hg _
      have hb5 := below_own hb3 hb3.size hownw (by omega) hg
      rw [← bv_append] at hown'
      have hl2 : m2.length + el.length = res.length := by rw [← HRS.out, List.length_append]
      have hr2 : m2 ++ el = res := by rw [← HRS.out]
      rw [hl2, hr2] at hown'
      rw [hl2]
      have HO5 := Shut.mk (own_mono hown' (show w.heap.size ≤ w.heap.size + 2 by omega))
      clear hown' hownw hown2 hg hb2 hb3 hsz2 hel hll hl2 hr2 hl4 HO2 HB2
      go_wp2_with fail
      go_ret
      exact ⟨A2, c2, rfl, HO5.out, hb5⟩
end Go.Proofs.YtedegedceeefdaaDoor
/-! Walks: custodyref28, Digest and Same. -/
namespace Go.Proofs.YtedegedceeefdaaDoor
open Go.RowKit Go.Cw Cu
set_option maxRecDepth 100000
set_option maxHeartbeats 1000000
set_option linter.unusedVariables false
set_option linter.unusedSimpArgs false
theorem ref28_Digest (c : Cmd) (A : Option Addr) (n cap : Nat) (w : World) (hrd : Rd w A n 1 (iv c.list)) (hnum : ∀ x ∈ nums c, inI64 x) (hlist : ∀ x ∈ c.list, inI64 x) (hd : c.data.length ≤ 1000000000) (hn : n ≤ 1000000000) (ht : Tab w 1 (uv ks)) :
    Calls Tryd.prog 33 #[.agg (cmdV c A n cap).toArray] w fun e w' => e = .returned (.agg (bv (dig 7 [encCmd c])).toArray) ∧ Below w.heap.size w w' := by
  have HT := Shut.mk ht
  clear ht
  have hg : 1 < w.heap.size := HT.out.lt rfl
  have hll : c.list.length = n := by have := hrd.len; rw [iv_length] at this; omega
  have hel := encCmd_length c hd (by omega)
  have hE := fun w1 (h : Rd w1 A n 1 (iv c.list)) => ref28_Encode c A n cap w1 h hnum hlist hd hn
  have hO := fun A' n' c' w1 (h : Rd w1 A' n' 1 (sv [⟨(encCmd c).toArray⟩])) (ht : Tab w1 1 (uv ks)) => ref02_Of 7 (by omega) [⟨(encCmd c).toArray⟩]
    (by
      show (UInt8.ofNat 7 :: ([encCmd c].flatMap encBytes)).length ≤ _
      have h6 := encInt_length_le ((encCmd c).length : Int)
      simp only [List.flatMap_cons, List.flatMap_nil, List.append_nil, List.length_cons]
      unfold encBytes
      rw [List.length_append]; omega) A' n' c' w1 h ht
  have hm : [(⟨(encCmd c).toArray⟩ : ByteArray)].map sb = [encCmd c] := rfl
  rw [hm] at hO
  generalize hres : dig 7 [encCmd c] = res at *
  have hlr : res.length = 16 := by rw [← hres, dig_length]
  generalize encCmd c = ec at *
  clear hres hm
  have HE := Shut.mk hE
  have HO := Shut.mk hO
  clear hE hO hel hll hnum hlist
  have hb0 := (below_alloc w (.cells (cmdV c A n cap).toArray 24)).trans ((below_alloc _ (.cells (bv (List.replicate 16 0)).toArray 36)).mono (by simp))
  have hB0 := (Blk.new w 24 (cmdV c A n cap)).alloc (.cells (bv (List.replicate 16 0)).toArray 36)
  have hR0 := Blk.new (w.alloc (.cells (cmdV c A n cap).toArray 24)) 36 (bv (List.replicate 16 0))
  have hz : (w.alloc (.cells (cmdV c A n cap).toArray 24)).heap.size = w.heap.size + 1 := by simp
  rw [hz] at hR0
  clear hz
  go_enter Tryd.func33, Tryd.ntmps33
  go_wp2_with (with_reducible refine stop_load (t := 24) ?_)
  change StopAt _ _ _ _ _ _ ((w.alloc (.cells (cmdV c A n cap).toArray 24)).alloc (.cells (bv (List.replicate 16 0)).toArray 36))
  generalize (w.alloc (.cells (cmdV c A n cap).toArray 24)).alloc (.cells (bv (List.replicate 16 0)).toArray 36) = w1 at *
  refine at_load_blk aggC rfl rfl hB0 ?_
  go_wp2_with fail
  refine (HE.out w1 (hrd.below hb0)).mono ?_
  rintro e w2 ⟨B, b, rfl, hown, hb2⟩
  have hR2 := hR0.below hb2
  have hbw := hb0.trans (hb2.mono hb0.size)
  clear hB0 hR0 hb0 hb2
  go_wp2_with (with_reducible refine stop_convert ?_)
  refine at_str Tryd.underlying33 Tryd.underlying5 Tryd.underlying9 rfl (own_Rd hown) ?_
  go_wp2_with fail
  have hs := rd_new (w := w2) (cs := sv [⟨ec.toArray⟩]) (e := 9) (fr := (0, 0)) 1 1 rfl (by omega)
  have hal := below_alloc w2 (.cells (sv [⟨ec.toArray⟩]).toArray 9)
  refine (HO.out _ 1 1 _ hs (HT.out.below (hbw.trans (hal.mono hbw.size)) hg)).mono ?_
  rintro e w3 ⟨rfl, hb3⟩
  have hR3 := (hR2.below hal).below hb3
  have hbw3 := (hbw.trans (hal.mono hbw.size)).trans (hb3.mono (hbw.trans (hal.mono hbw.size)).size)
  clear hown hR2 hbw hs hal hb3
  go_wp2_with (with_reducible refine stop_store ?_)
  refine at_store_blk aggG rfl rfl (by rw [bv_length, hlr]) (by rfl) hR3 (bv_one' _) ?_
  intro hB2
  go_wp2_with fail
  exact ret_blk rfl aggG rfl (by rw [bv_length, hlr]) hB2 rfl ⟨rfl, below_setRow hbw3 (by omega) _⟩
theorem ref28_Same (c d : Cmd) (A B : Option Addr) (n m cap cap' : Nat) (w : World) (hn : n ≤ 140737488351232) (hm : m ≤ 140737488351232) (h1 : Rd w A n 1 (iv c.list)) (h2 : Rd w B m 1 (iv d.list)) :
    Calls Tryd.prog 35 #[.agg (cmdV c A n cap).toArray, .agg (cmdV d B m cap').toArray] w fun e w' => e = .returned (.bool (decide (c = d))) ∧ Below w.heap.size w w' := by
  obtain ⟨K, K1, K2, K3, K4, K5, D, L⟩ := c
  obtain ⟨J, J1, J2, J3, J4, J5, E, M⟩ := d
  have hb1 := below_alloc w (.cells (cmdV ⟨K, K1, K2, K3, K4, K5, D, L⟩ A n cap).toArray 24)
  have hB1 := Blk.new w 24 (cmdV ⟨K, K1, K2, K3, K4, K5, D, L⟩ A n cap)
  have hz1 : (w.alloc (.cells (cmdV ⟨K, K1, K2, K3, K4, K5, D, L⟩ A n cap).toArray 24)).heap.size = w.heap.size + 1 := by simp
  have hdec : ∀ b : Bool, (b = true ↔ (K = J ∧ K1 = J1 ∧ K2 = J2 ∧ K3 = J3 ∧ K4 = J4 ∧ K5 = J5 ∧ D = E ∧ L = M)) → decide ((⟨K, K1, K2, K3, K4, K5, D, L⟩ : Cmd) = ⟨J, J1, J2, J3, J4, J5, E, M⟩) = b := by
    intro b hb
    cases b with
    | true => simp only [decide_eq_true_eq, Cmd.mk.injEq]; exact hb.1 rfl
    | false => simp only [decide_eq_false_iff_not, Cmd.mk.injEq]; intro h; have := hb.2 h; cases this
  generalize hres : decide ((⟨K, K1, K2, K3, K4, K5, D, L⟩ : Cmd) = ⟨J, J1, J2, J3, J4, J5, E, M⟩) = res at *
  have HD := Shut.mk hdec
  clear hdec hres
  go_enter Tryd.func35, Tryd.ntmps35
  go_wp2_with (with_reducible refine stop_load (t := 3) ?_)
  have hb2 := below_alloc (w.alloc (.cells (cmdV ⟨K, K1, K2, K3, K4, K5, D, L⟩ A n cap).toArray 24)) (.cells (cmdV ⟨J, J1, J2, J3, J4, J5, E, M⟩ B m cap').toArray 24)
  have hB2 := Blk.new (w.alloc (.cells (cmdV ⟨K, K1, K2, K3, K4, K5, D, L⟩ A n cap).toArray 24)) 24 (cmdV ⟨J, J1, J2, J3, J4, J5, E, M⟩ B m cap')
  rw [hz1] at hB2
  have hbw := hb1.trans (hb2.mono (by omega))
  have hC1 := hB1.below hb2
  unfold StopAt
  change wpList _ _ _ _ _ ((w.alloc (.cells (cmdV ⟨K, K1, K2, K3, K4, K5, D, L⟩ A n cap).toArray 24)).alloc (.cells (cmdV ⟨J, J1, J2, J3, J4, J5, E, M⟩ B m cap').toArray 24))
  generalize (w.alloc (.cells (cmdV ⟨K, K1, K2, K3, K4, K5, D, L⟩ A n cap).toArray 24)).alloc (.cells (cmdV ⟨J, J1, J2, J3, J4, J5, E, M⟩ B m cap').toArray 24) = w1 at *
  clear hb1 hB1 hz1 hb2
  have HC1 := Shut.mk hC1
  have HB2 := Shut.mk hB2
  clear hC1 hB2
  have c0 := HC1.out.cell (j := 0) (v := .int .i64 K) rfl
  have d0 := HB2.out.cell (j := 0) (v := .int .i64 J) rfl
  have c1 := HC1.out.cell (j := 1) (v := .int .i64 K1) rfl
  have d1 := HB2.out.cell (j := 1) (v := .int .i64 J1) rfl
  have c2 := HC1.out.cell (j := 2) (v := .int .i64 K2) rfl
  have d2 := HB2.out.cell (j := 2) (v := .int .i64 J2) rfl
  have c3 := HC1.out.cell (j := 3) (v := .int .i64 K3) rfl
  have d3 := HB2.out.cell (j := 3) (v := .int .i64 J3) rfl
  have c4 := HC1.out.cell (j := 4) (v := .int .i64 K4) rfl
  have d4 := HB2.out.cell (j := 4) (v := .int .i64 J4) rfl
  have c5 := HC1.out.cell (j := 5) (v := .int .i64 K5) rfl
  have d5 := HB2.out.cell (j := 5) (v := .int .i64 J5) rfl
  have c6 := HC1.out.cell (j := 6) (v := .string ⟨D.toArray⟩) rfl
  have d6 := HB2.out.cell (j := 6) (v := .string ⟨E.toArray⟩) rfl
  have c7 := HC1.out.cell (j := 7) (v := .slice A n cap) rfl
  have d7 := HB2.out.cell (j := 7) (v := .slice B m cap') rfl
  by_cases e0 : K = J
  rotate_left
  · have g : (K == J) = false := by simp; exact e0
    have hR : Shut (res = false) := ⟨HD.out false ⟨(fun h => by cases h), (fun h => absurd h.1 e0)⟩⟩
    go_wp2_with fail
    go_ret
    exact ⟨by rw [hR.out]; rfl, hbw⟩
  subst e0
  by_cases e1 : K1 = J1
  rotate_left
  · have g : (K1 == J1) = false := by simp; exact e1
    have hR : Shut (res = false) := ⟨HD.out false ⟨(fun h => by cases h), (fun h => absurd h.2.1 e1)⟩⟩
    go_wp2_with fail
    go_ret
    exact ⟨by rw [hR.out]; rfl, hbw⟩
  subst e1
  by_cases e2 : K2 = J2
  rotate_left
  · have g : (K2 == J2) = false := by simp; exact e2
    have hR : Shut (res = false) := ⟨HD.out false ⟨(fun h => by cases h), (fun h => absurd h.2.2.1 e2)⟩⟩
    go_wp2_with fail
    go_ret
    exact ⟨by rw [hR.out]; rfl, hbw⟩
  subst e2
  by_cases e3 : K3 = J3
  rotate_left
  · have g : (K3 == J3) = false := by simp; exact e3
    have hR : Shut (res = false) := ⟨HD.out false ⟨(fun h => by cases h), (fun h => absurd h.2.2.2.1 e3)⟩⟩
    go_wp2_with fail
    go_ret
    exact ⟨by rw [hR.out]; rfl, hbw⟩
  subst e3
  by_cases e4 : K4 = J4
  rotate_left
  · have g : (K4 == J4) = false := by simp; exact e4
    have hR : Shut (res = false) := ⟨HD.out false ⟨(fun h => by cases h), (fun h => absurd h.2.2.2.2.1 e4)⟩⟩
    go_wp2_with fail
    go_ret
    exact ⟨by rw [hR.out]; rfl, hbw⟩
  subst e4
  by_cases e5 : K5 = J5
  rotate_left
  · have g : (K5 == J5) = false := by simp; exact e5
    have hR : Shut (res = false) := ⟨HD.out false ⟨(fun h => by cases h), (fun h => absurd h.2.2.2.2.2.1 e5)⟩⟩
    go_wp2_with fail
    go_ret
    exact ⟨by rw [hR.out]; rfl, hbw⟩
  subst e5
  by_cases e6 : D = E
  rotate_left
  · have hR : Shut (res = false) := ⟨HD.out false ⟨(fun h => by cases h), (fun h => absurd h.2.2.2.2.2.2.1 e6)⟩⟩
    go_wp2_with fail
    go_ret
    exact ⟨by rw [hR.out]; rfl, hbw⟩
  subst e6
  have hR : Shut (res = decide (L = M)) := ⟨HD.out _ ⟨(fun h => ⟨rfl, rfl, rfl, rfl, rfl, rfl, rfl, of_decide_eq_true h⟩), (fun h => decide_eq_true h.2.2.2.2.2.2.2)⟩⟩
  have hEq := ref01_SameInts L M A B n m cap cap' hn hm w1 (h1.below hbw) (h2.below hbw)
  rw [← hR.out] at hEq
  have HEQ := Shut.mk hEq
  clear hEq
  go_wp2_with fail
  refine HEQ.out.mono ?_
  rintro e w3 ⟨rfl, hb3⟩
  go_wp2_with fail
  go_ret
  exact ⟨rfl, hbw.trans (hb3.mono hbw.size)⟩
end Go.Proofs.YtedegedceeefdaaDoor
/-! Walks: custodyref28, Decode. -/
namespace Go.Proofs.YtedegedceeefdaaDoor
open Go.RowKit Go.Cw Cu
set_option maxRecDepth 100000
set_option maxHeartbeats 1000000
set_option linter.unusedVariables false
set_option linter.unusedSimpArgs false
theorem ref28_Decode (bs : List UInt8) (A : Option Addr) (n c : Nat) (w : World) (hrd : Rd w A n 1 (bv bs)) (hc : n ≤ c) (hm : n * 8 ≤ 140737488351232) :
    Calls Tryd.prog 37 #[.slice A n c] w (decPost bs w) := by
  have hl := hrd.len
  rw [bv_length, Nat.mul_one] at hl
  have HL := Shut.mk hl
  clear hl
  go_enter Tryd.func37, Tryd.ntmps37
  go_wp2_with fail
  have hZ := ((Blk.new w 24 (cmdV zeroCmd none 0 0)).alloc (.cells (iv (List.replicate 6 0)).toArray 124))
  have hz1 : (w.alloc (.cells (cmdV zeroCmd none 0 0).toArray 24)).heap.size = w.heap.size + 1 := by simp
  have hR := Blk.new (w.alloc (.cells (cmdV zeroCmd none 0 0).toArray 24)) 124 (iv (List.replicate 6 0))
  have hb := (below_alloc w (.cells (cmdV zeroCmd none 0 0).toArray 24)).alloc (by simp) (.cells (iv (List.replicate 6 0)).toArray 124)
  have hz2 : w.heap.size + 2 ≤ ((w.alloc (.cells (cmdV zeroCmd none 0 0).toArray 24)).alloc (.cells (iv (List.replicate 6 0)).toArray 124)).heap.size := by simp
  rw [hz1] at hR
  change Code.wp _ _ _ _ ((w.alloc (.cells (cmdV zeroCmd none 0 0).toArray 24)).alloc (.cells (iv (List.replicate 6 0)).toArray 124))
  generalize (w.alloc (.cells (cmdV zeroCmd none 0 0).toArray 24)).alloc (.cells (iv (List.replicate 6 0)).toArray 124) = w1 at *
  clear hz1
  go_loopw [6, 5] (fun i at' wr => ∃ (k pos : Nat) (l : List Int), k ≤ 6 ∧ pos ≤ n ∧ i = .int .i64 k ∧ at' = .int .i64 pos ∧ Shut (l.length = k) ∧ Shut (dec6 bs 6 0 = (match dec6 bs (6 - k) pos with | .error e => .error e | .ok (r, q) => .ok (l ++ r, q))) ∧
    Shut (Blk wr w.heap.size 24 (cmdV zeroCmd none 0 0)) ∧ Shut (Blk wr (w.heap.size + 1) 124 (iv (l ++ List.replicate (6 - k) 0))) ∧ Below w.heap.size w wr ∧ w.heap.size + 2 ≤ wr.heap.size) (fun i _ _ => 6 - (intOf i).toNat)
  case atStart =>
    refine ⟨0, 0, [], by omega, by omega, rfl, rfl, ⟨rfl⟩, ⟨?_⟩, ⟨hZ⟩, ⟨hR⟩, hb, hz2⟩
    cases dec6 bs (6 - 0) 0 with
    | error e => rfl
    | ok q => rfl
  case round =>
    clear hZ hR hb hz2
    obtain ⟨k, pos, l, hk, hpos, rfl, rfl, hlk, hD, HZ, HA, hbw, hsz⟩ := hrel
    by_cases hk6 : k < 6
    · go_wp2_with (with_reducible refine stop_slice ?_)
      refine at_slice_lo eltB (l := pos) rfl rfl rfl (hrd.below hbw) hc hpos ?_
      intro A' hrd'
      rw [bv_drop, Nat.mul_one] at hrd'
      have hcall := ref01_GetInt (bs.drop pos) A' (n - pos) (c - pos) wr hrd' (by omega) (by omega)
      cases hd : decInt (bs.drop pos) with
      | error e0 =>
        rw [hd] at hcall
        have he56 := decInt_err hd
        have g0 : ((e0 : Int) != 0) = true := by simp; omega
        have hres : decCmd bs = .error e0 := by
          unfold decCmd
          rw [hD.out]
          obtain ⟨q, hq⟩ : ∃ q, 6 - k = q + 1 := ⟨5 - k, by omega⟩
          rw [hq]; simp only [dec6]; rw [hd]
        have HDEC := Shut.mk hres
        have HC := Shut.mk hcall
        clear hd hcall hres hrd'
        go_wp2_with fail
        refine HC.out.mono ?_
        rintro e w2 ⟨rfl, hb2⟩
        have HZ2 := Shut.mk (HZ.out.below hb2)
        have hbw2 := hbw.trans (hb2.mono hbw.size)
        clear hb2
        simp only [intR, R3]
        go_wp2_with (with_reducible refine stop_store ?_)
        refine at_store_blk aggC (vs := cmdV zeroCmd none 0 0) rfl rfl rfl rfl HZ2.out (by decide +kernel) ?_
        intro hB2
        go_wp2_with fail
        refine ret_blk_tmp rfl aggC rfl rfl hB2 rfl ⟨below_setRow hbw2 (Nat.le_refl _) _, ?_⟩
        rw [HDEC.out]
        rfl
      | ok p =>
        obtain ⟨x, u⟩ := p
        rw [hd] at hcall
        obtain ⟨hu, hu0, hx1, hx2⟩ := decInt_ok hd
        rw [List.length_drop, HL.out] at hu
        have hres : dec6 bs 6 0 = (match dec6 bs (6 - (k + 1)) (pos + u) with | .error e => .error e | .ok (r, q) => .ok ((l ++ [x]) ++ r, q)) := by
          rw [hD.out]
          obtain ⟨q, hq⟩ : ∃ q, 6 - k = q + 1 := ⟨5 - k, by omega⟩
          rw [hq, show 6 - (k + 1) = q by omega]
          simp only [dec6]
          rw [hd]
          simp only
          cases dec6 bs q (pos + u) with
          | error e => rfl
          | ok r => simp
        have hset : (iv (l ++ List.replicate (6 - k) 0)).set k (.int .i64 x) = iv ((l ++ [x]) ++ List.replicate (6 - (k + 1)) 0) := by
          obtain ⟨q, hq⟩ : ∃ q, 6 - k = q + 1 := ⟨5 - k, by omega⟩
          rw [hq, show 6 - (k + 1) = q by omega, iv_append, List.set_append_right _ _ (by rw [iv_length, hlk.out]; omega), iv_length, hlk.out, Nat.sub_self]
          simp [iv, List.replicate_succ]
        have HRES := Shut.mk hres
        have HSET := Shut.mk hset
        have HC := Shut.mk hcall
        clear hd hcall hres hrd' hset
        go_wp2_with fail
        refine HC.out.mono ?_
        rintro e w2 ⟨rfl, hb2⟩
        have HZ2 := Shut.mk (HZ.out.below hb2)
        have hA2 := HA.out.below hb2
        have hbw2 := hbw.trans (hb2.mono hbw.size)
        have hsz2 : w.heap.size + 2 ≤ w2.heap.size := by have := hb2.size; omega
        clear hb2
        simp only [intR, R3]
        obtain ⟨v0, hv0⟩ : ∃ v0, (iv (l ++ List.replicate (6 - k) 0))[k]? = some v0 := ⟨_, List.getElem?_eq_getElem (by rw [iv_length, List.length_append, hlk.out, List.length_replicate]; omega)⟩
        have ck := hA2.cell hv0
        have fk := hA2.free k
        have HA2 := Shut.mk hA2
        clear hA2 hv0
        go_wp2_with fail
        have hg := grown_set w2 (w.heap.size + 1) k (.int .i64 x)
        refine ⟨⟨k + 1, pos + u, l ++ [x], by omega, by omega, by go_num, by go_num, ⟨by have := hlk.out; simp; omega⟩, HRES, ⟨HZ2.out.grown hg (by omega)⟩, ⟨?_⟩, below_of_grown hbw2 hg (by omega) hbw2.size, by have := hg.size; omega⟩, by simp [intOf]; omega⟩
        rw [← HSET.out]
        exact HA2.out.set k (.int .i64 x)
    · obtain rfl : k = 6 := by omega
      have hres : dec6 bs 6 0 = .ok (l, pos) := by
        rw [hD.out]
        show (match dec6 bs 0 pos with | .error e => Except.error e | .ok (r, q) => .ok (l ++ r, q)) = _
        simp [dec6]
      have HD6 := Shut.mk hres
      clear hres
      go_wp2_with (with_reducible refine stop_slice ?_)
      refine at_slice_lo eltB (l := pos) rfl rfl rfl (hrd.below hbw) hc hpos ?_
      intro A' hrd'
      rw [bv_drop, Nat.mul_one] at hrd'
      have hcall := ref01_GetBytes (bs.drop pos) A' (n - pos) (c - pos) wr hrd' (by omega) (by omega)
      clear hrd'
      cases hd : decBytes (bs.drop pos) with
      | error e0 =>
        rw [hd] at hcall
        have he56 := decBytes_err hd
        have g0 : ((e0 : Int) != 0) = true := by simp; omega
        have hres : decCmd bs = .error e0 := by unfold decCmd; rw [HD6.out]; simp only; rw [hd]
        have HDEC := Shut.mk hres
        have HC := Shut.mk hcall
        clear hd hcall hres
        go_wp2_with fail
        refine HC.out.mono ?_
        rintro e w2 ⟨rfl, hb2⟩
        have HZ2 := Shut.mk (HZ.out.below hb2)
        have hbw2 := hbw.trans (hb2.mono hbw.size)
        clear hb2
        simp only [strR, R3]
        go_wp2_with (with_reducible refine stop_store ?_)
        refine at_store_blk aggC (vs := cmdV zeroCmd none 0 0) rfl rfl rfl rfl HZ2.out (by decide +kernel) ?_
        intro hB2
        go_wp2_with fail
        refine ret_blk_tmp rfl aggC rfl rfl hB2 rfl ⟨below_setRow hbw2 (Nat.le_refl _) _, ?_⟩
        rw [HDEC.out]
        rfl
      | ok p =>
        obtain ⟨s, i⟩ := p
        rw [hd] at hcall
        have hi := (enc_of_decBytes hd).1
        have hsl := (enc_of_decBytes hd).2.2
        rw [List.length_drop, HL.out] at hi
        have HDB := Shut.mk hd
        have HSL := Shut.mk hsl
        have HC := Shut.mk hcall
        clear hd hcall hsl
        go_wp2_with fail
        refine HC.out.mono ?_
        rintro e w2 ⟨rfl, hb2⟩
        have HZ2 := Shut.mk (HZ.out.below hb2)
        have HA2 := Shut.mk (HA.out.below hb2)
        have hbw2 := hbw.trans (hb2.mono hbw.size)
        have hsz2 : w.heap.size + 2 ≤ w2.heap.size := by have := hb2.size; omega
        clear hb2 HZ HA hbw hsz HC
        simp only [strR, R3]
        go_wp2_with (with_reducible refine stop_slice ?_)
        refine at_slice_lo eltB (l := pos + i) rfl rfl (by omega) (hrd.below hbw2) hc (by omega) ?_
        intro A2 hrd2
        rw [bv_drop, Nat.mul_one] at hrd2
        have hcall := ref01_GetInts (bs.drop (pos + i)) A2 (n - (pos + i)) (c - (pos + i)) w2 hrd2 (by omega) (by omega)
        clear hrd2
        cases hd : decList 1 decInt (bs.drop (pos + i)) with
        | error e0 =>
          rw [hd] at hcall
          have he56 := decList_err (fun b e h => decInt_err h) hd
          have g0 : ((e0 : Int) != 0) = true := by simp; omega
          have hres : decCmd bs = .error e0 := by unfold decCmd; rw [HD6.out]; simp only; rw [HDB.out]; simp only; rw [hd]
          have HDEC := Shut.mk hres
          have HC := Shut.mk hcall
          have HZ3 := HZ2
          have hbw3 := hbw2
          clear hd hcall hres HZ2 hbw2
          go_wp2_with fail
          refine HC.out.mono ?_
          rintro e w3 ⟨rfl, hb2⟩
          have HZ2 := Shut.mk (HZ3.out.below hb2)
          have hbw2 := hbw3.trans (hb2.mono hbw3.size)
          clear hb2
          go_wp2_with (with_reducible refine stop_store ?_)
          refine at_store_blk aggC (vs := cmdV zeroCmd none 0 0) rfl rfl rfl rfl HZ2.out (by decide +kernel) ?_
          intro hB2
          go_wp2_with fail
          refine ret_blk_tmp rfl aggC rfl rfl hB2 rfl ⟨below_setRow hbw2 (Nat.le_refl _) _, ?_⟩
          rw [HDEC.out]
          rfl
        | ok q =>
          obtain ⟨ks, j⟩ := q
          rw [hd] at hcall
          obtain ⟨hj, _, _, _⟩ := enc_of_decList (by omega) encInt decInt (fun b x k h => ⟨(enc_of_dec h).1, (enc_of_dec h).2.2.1⟩) hd
          rw [List.length_drop, HL.out] at hj
          have hdec : decCmd bs = (if pos + i + j < n then .error 6 else if check (cmdOf l s ks) = 0 then .ok (cmdOf l s ks) else .error (check (cmdOf l s ks))) := by
            unfold decCmd; rw [HD6.out]; simp only; rw [HDB.out]; simp only; rw [hd]; simp only; rw [HL.out]
          have HDEC0 := Shut.mk hdec
          have HC := Shut.mk hcall
          have HZ3 := HZ2
          have HA3 := HA2
          have hbw3 := hbw2
          have hsz3 := hsz2
          clear hd hcall hdec HZ2 hbw2 HA2 hsz2
          go_wp2_with fail
          refine HC.out.mono ?_
          rintro e w3 ⟨K, kc, rfl, hown, hb2⟩
          have HZ2 := Shut.mk (HZ3.out.below hb2)
          have HA2 := Shut.mk (HA3.out.below hb2)
          have hbw2 := hbw3.trans (hb2.mono hbw3.size)
          have hsz2 : w.heap.size + 2 ≤ w3.heap.size := by have := hb2.size; omega
          have hown2 := own_mono hown hsz3
          have HKG := Shut.mk (own_at hown2)
          have HO := Shut.mk (own_Rd hown)
          clear hb2 HZ3 HA3 hbw3 hsz3 HC hown hown2
          by_cases hlt : pos + i + j < n
          · have hdec := HDEC0.out
            rw [if_pos hlt] at hdec
            have HDEC := Shut.mk hdec
            clear hdec HDEC0
            go_wp2_with (with_reducible refine stop_store ?_)
            refine at_store_blk aggC (vs := cmdV zeroCmd none 0 0) rfl rfl rfl rfl HZ2.out (by decide +kernel) ?_
            intro hB2
            go_wp2_with fail
            refine ret_blk_tmp rfl aggC rfl rfl hB2 rfl ⟨below_setRow hbw2 (Nat.le_refl _) _, ?_⟩
            rw [HDEC.out]
            rfl
          · have hdec := HDEC0.out
            rw [if_neg hlt] at hdec
            have HDEC1 := Shut.mk hdec
            have hk64 := cmdOf_kind (dec6_in 6 0 l pos HD6.out) s ks
            clear hdec HDEC0
            obtain ⟨l0, l1, l2, l3, l4, l5, rfl⟩ : ∃ a b c d e f, l = [a, b, c, d, e, f] := by
              have := hlk.out
              match l, this with
              | [a, b, c, d, e, f], _ => exact ⟨a, b, c, d, e, f, rfl⟩
            have a0 := HA2.out.cell (j := 0) (v := .int .i64 l0) rfl
            have a1 := HA2.out.cell (j := 1) (v := .int .i64 l1) rfl
            have a2 := HA2.out.cell (j := 2) (v := .int .i64 l2) rfl
            have a3 := HA2.out.cell (j := 3) (v := .int .i64 l3) rfl
            have a4 := HA2.out.cell (j := 4) (v := .int .i64 l4) rfl
            have a5 := HA2.out.cell (j := 5) (v := .int .i64 l5) rfl
            have hcm : cmdOf [l0, l1, l2, l3, l4, l5] s ks = ⟨l0, l1, l2, l3, l4, l5, s, ks⟩ := rfl
            rw [hcm] at hk64 HDEC1
            clear hcm hD
            go_wp2_with (with_reducible refine stop_store ?_)
            clear a0 a1 a2 a3 a4 a5
            generalize hcm : (⟨l0, l1, l2, l3, l4, l5, s, ks⟩ : Cmd) = cm at *
            have hkl : cm.list = ks := by rw [← hcm]
            have hdl : cm.data = s := by rw [← hcm]
            have hkk : cm.kind = l0 := by rw [← hcm]
            have hcv : cmdV cm K ks.length kc = [.int .i64 l0, .int .i64 l1, .int .i64 l2, .int .i64 l3, .int .i64 l4, .int .i64 l5, .string ⟨s.toArray⟩, .slice K ks.length kc] := by rw [← hcm]; rfl
            refine at_store_new aggC (vs := cmdV cm K ks.length kc) rfl (by rw [hcv]; rfl) rfl rfl (cmdV_one cm K ks.length kc) ?_
            intro w4 hR4 hal hz4
            have HZ4 := Shut.mk (HZ2.out.below hal)
            have hbw4 := hbw2.trans (hal.mono hbw2.size)
            have hO4 := HO.out.below hal
            rw [← hkl] at hO4 hR4
            have HK4 := Shut.mk hO4
            have HKG4 := HKG
            have HR4 := Shut.mk hR4
            have hg4 : w.heap.size + 2 ≤ w3.heap.size := hsz2
            have hgz : w3.heap.size < w4.heap.size := by omega
            generalize w3.heap.size = g at *
            have hsl2 : cm.data.length ≤ 9223372036854775807 := by
              rw [hdl]
              have h1 := HSL.out
              have h2 : (2 : Nat) ^ 63 = 9223372036854775808 := by decide
              omega
            have hcall := ref28_Check cm K cm.list.length kc w4 hO4 hsl2 (by rw [hkk]; exact hk64)
            have HKL := Shut.mk hkl
            have hlen8 : (cmdV cm K cm.list.length kc).length = 8 := rfl
            rw [hkl] at hR4 hlen8 hcall
            rw [hkl] at HR4 HK4
            have HC := Shut.mk hcall
            clear hcall hsl2 hkl hdl hkk hcv hcm hO4 hR4 hal hz4 HZ2 hbw2 HA2 HO hk64 HSL HD6 HDB hlk HL
            generalize hck : check cm = ck at *
            clear hck
            go_wp2_with (with_reducible refine stop_load (t := 24) ?_)
            refine at_load_blk aggC rfl hlen8 HR4.out ?_
            go_wp2_with fail
            refine HC.out.mono ?_
            rintro e w5 ⟨rfl, hb5⟩
            have HZ2 := Shut.mk (HZ4.out.below hb5)
            have HR5 := Shut.mk (HR4.out.below hb5)
            have hbw2 := hbw4.trans (hb5.mono hbw4.size)
            have HK5 := Shut.mk (HK4.out.below hb5)
            clear hb5 HZ4 HR4 HK4 HC
            by_cases hck : ck = 0
            · subst hck
              have hdec := HDEC1.out
              rw [if_pos rfl] at hdec
              have HDEC := Shut.mk hdec
              clear hdec HDEC1
              go_wp2_with (with_reducible refine stop_load (t := 24) ?_)
              refine at_load_blk aggC rfl hlen8 HR5.out ?_
              go_wp2_with (with_reducible refine stop_store ?_)
              refine at_store_blk aggC (vs := cmdV cm K ks.length kc) rfl rfl rfl rfl HZ2.out (cmdV_one cm K ks.length kc) ?_
              intro hB2
              go_wp2_with fail
              refine ret_blk_tmp rfl aggC rfl rfl hB2 rfl ⟨below_setRow hbw2 (Nat.le_refl _) _, ?_⟩
              rw [HDEC.out]
              refine ⟨K, ks.length, kc, rfl, ?_⟩
              rw [HKL.out]
              exact HK5.out.setRow (g := w.heap.size) _ fun g0 o e h => by have := HKG.out g0 o e; omega
            · have hdec := HDEC1.out
              rw [if_neg hck] at hdec
              have HDEC := Shut.mk hdec
              have g0 : ((ck : Int) != 0) = true := by simp; omega
              clear hdec HDEC1 hck
              go_wp2_with (with_reducible refine stop_store ?_)
              refine at_store_blk aggC (vs := cmdV zeroCmd none 0 0) rfl rfl rfl rfl HZ2.out (by decide +kernel) ?_
              intro hB2
              go_wp2_with fail
              refine ret_blk_tmp rfl aggC rfl rfl hB2 rfl ⟨below_setRow hbw2 (Nat.le_refl _) _, ?_⟩
              rw [HDEC.out]
              rfl
end Go.Proofs.YtedegedceeefdaaDoor

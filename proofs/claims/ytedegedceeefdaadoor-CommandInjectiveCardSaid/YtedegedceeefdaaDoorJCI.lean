/- Parts of the proof: Ci, Cj, Ck. -/
import Derived.Test.YtedegedceeefdaaDoorJCF
set_option linter.all false
set_option linter.unusedVariables false
set_option linter.unusedSimpArgs false
set_option linter.unnecessarySimpa false
set_option linter.deprecated false
/-! Walks: package command, the reader. -/
namespace Go.Cw
open Go.RowKit
theorem run_index_cell {P : Program} {w : World} {t e : TypeId} {n : Nat} {k : IntKind} (ht : P.underlying t = some (.array n e)) (he : (P.underlying e).map isAggD = some false) (hs : (P.info? e).map (·.size) = some 1)
    {cs : List Value} {j : Nat} {v : Value} (hv : cs[j]? = some v) (hj : j < n) : (Instr.index t (.agg cs.toArray) (.int k (j : Int))).run P w = .ok v w := by
  have hb : 0 ≤ (j : Int) ∧ (j : Int) < (n : Int) := by omega
  cases hd : P.underlying e with
  | none => rw [hd] at he; cases he
  | some de =>
    rw [hd] at he
    simp only [Option.map_some, Option.some.injEq] at he
    have hi0 : (isAgg e).run P w = .ok false w := by cases de <;> simp [isAggD] at he <;> simp [isAgg, run_underlying hd]
    cases hi : P.info? e with
    | none => rw [hi] at hs; cases hs
    | some i =>
      rw [hi] at hs
      simp only [Option.map_some, Option.some.injEq] at hs
      simp [Instr.index, run_underlying ht, asIntOf, hb, sizeOf, typeInfo, hi, hs, part, hi0, hv, hj]
theorem grown_refl (w : World) (r : Option Nat) : w.grownBy w r := ⟨rfl, rfl, rfl, Nat.le_refl _, fun _ _ _ => rfl⟩
theorem grown_trans {w w1 w2 : World} {r : Option Nat} (h : w.grownBy w1 r) (k : w1.grownBy w2 r) : w.grownBy w2 r :=
  ⟨k.os.trans h.os, k.tape.trans h.tape, k.output.trans h.output, Nat.le_trans h.size k.size, fun i hi hne => (k.block i (Nat.lt_of_lt_of_le hi h.size) hne).trans (h.block i hi hne)⟩
theorem grown_below {w w1 : World} {r : Option Nat} (h : Below w.heap.size w w1) : w.grownBy w1 r := ⟨h.os, h.tape, h.output, h.size, fun i hi _ => h.block i hi⟩
theorem grown_set (w : World) (g o : Nat) (v : Value) : w.grownBy (w.setCell ⟨g, o, none⟩ v) (some g) :=
  ⟨rfl, rfl, rfl, by simp [World.setCell], fun i _ hne => Below.heap_setCell _ _ _ _ (fun e => hne (by simpa using e))⟩
theorem below_of_grown {B g : Nat} {w0 w w1 : World} (hb : Below B w0 w) (h : w.grownBy w1 (some g)) (hg : B ≤ g) (hB : B ≤ w.heap.size) : Below B w0 w1 :=
  hb.trans ⟨h.os, h.tape, h.output, h.size, fun i hi => h.block i (Nat.lt_of_lt_of_le hi hB) (fun e => by have := Option.some.inj e; omega)⟩
end Go.Cw
namespace Go.Proofs.YtedegedceeefdaaDoor
open Go.RowKit Go.Cw Cu
set_option maxRecDepth 100000
set_option maxHeartbeats 1000000
set_option linter.unusedVariables false
set_option linter.unusedSimpArgs false
/-- A reader's cells: the command so far, the bytes that are left. -/
def rdrV (c : Cmd) (A : Option Addr) (n cap : Nat) (B : Option Addr) (m cb : Nat) : List Value := cmdV c A n cap ++ [.slice B m cb]
theorem reader_skip_ok (g : Nat) (c : Cmd) (A : Option Addr) (n cap : Nat) (B : Option Addr) (m cb u : Nat) (hm : m ≤ cb) (hu : u ≤ m) (w : World) (hB : Blk w g 133 (rdrV c A n cap B m cb)) :
    Calls Tryd.prog 157 #[.pointer (some ⟨g, 0, none⟩), .int .i64 (u : Int), .int .i64 0] w fun e w' =>
      e = .returned (.int .i64 0) ∧ ∃ B', (∀ w1 ys, Rd w1 B m 1 ys → Rd w1 B' (m - u) 1 (ys.drop (u * 1))) ∧ w' = w.setCell ⟨g, 8, none⟩ (.slice B' (m - u) (cb - u)) := by
  have c8 := hB.cell (j := 8) (v := .slice B m cb) rfl
  have f8 := hB.free 8
  clear hB
  go_enter Tryd.func157, Tryd.ntmps157
  go_wp2_with (with_reducible refine stop_slice ?_)
  refine at_slice_lo_f eltB (l := u) rfl rfl rfl hm hu ?_
  intro B' hsub
  have HS := Shut.mk hsub
  clear hsub
  go_wp2_with fail
  go_ret
  exact ⟨rfl, B', HS.out, rfl⟩
theorem reader_skip_err (p : Value) (u : Int) (e0 : Nat) (he : e0 ≠ 0) (w : World) (hp : p.oneCell' = true) (g : Nat) (hpg : p = .pointer (some ⟨g, 0, none⟩)) :
    Calls Tryd.prog 157 #[p, .int .i64 u, .int .i64 (e0 : Int)] w fun e w' => e = .returned (.int .i64 e0) ∧ w = w' := by
  subst hpg
  have g0 : ((e0 : Int) == 0) = false := by simp; omega
  go_enter Tryd.func157, Tryd.ntmps157
  go_wp2_with fail
  go_ret
  exact ⟨rfl, rfl⟩
theorem dec6_err {bs : List UInt8} : ∀ (k pos e : Nat), dec6 bs k pos = .error e → e = 5 ∨ e = 6
  | 0, pos, e, h => by simp [dec6] at h
  | k + 1, pos, e, h => by
    simp only [dec6] at h
    split at h
    · rename_i e' he; injection h with h; subst h; exact decInt_err he
    · split at h
      · rename_i e' he; injection h with h; subst h; exact dec6_err _ _ _ he
      · cases h
/-- What stands behind the numbers. -/
def numsPost (g : Nat) (bs : List UInt8) (B : Option Addr) (m : Nat) (w : World) (e : Ending) (w' : World) : Prop := w.grownBy w' (some g) ∧ match dec6 bs 6 0 with
  | .error e0 => e = .returned (.int .i64 (e0 : Int))
  | .ok (l, p) => e = .returned (.int .i64 0) ∧ p ≤ m ∧ ∃ B' cb', m - p ≤ cb' ∧ Blk w' g 133 (rdrV (cmdOf l [] []) none 0 0 B' (m - p) cb') ∧ (∀ w1 ys, Rd w1 B m 1 ys → Rd w1 B' (m - p) 1 (ys.drop (p * 1)))
theorem rdr_set (l : List Int) (x : Int) (k : Nat) (hk : k < 6) (hl : l.length = k) (B : Option Addr) (m cb : Nat) : (rdrV (cmdOf l [] []) none 0 0 B m cb).set k (.int .i64 x) = rdrV (cmdOf (l ++ [x]) [] []) none 0 0 B m cb := by
  have : k = 0 ∨ k = 1 ∨ k = 2 ∨ k = 3 ∨ k = 4 ∨ k = 5 := by omega
  match l, hl with
  | [], h => obtain rfl : k = 0 := by simpa using h.symm
             rfl
  | [a], h => obtain rfl : k = 1 := by simpa using h.symm
              rfl
  | [a, b], h => obtain rfl : k = 2 := by simpa using h.symm
                 rfl
  | [a, b, c], h => obtain rfl : k = 3 := by simpa using h.symm
                    rfl
  | [a, b, c, d], h => obtain rfl : k = 4 := by simpa using h.symm
                       rfl
  | [a, b, c, d, e], h => obtain rfl : k = 5 := by simpa using h.symm
                          rfl
  | a :: b :: c :: d :: e :: f :: r, h => simp at h; omega
theorem rdr_num (l : List Int) (k : Nat) (hk : k < 6) (B : Option Addr) (m cb : Nat) : ∃ x : Int, (rdrV (cmdOf l [] []) none 0 0 B m cb)[k]? = some (.int .i64 x) := by
  have : k = 0 ∨ k = 1 ∨ k = 2 ∨ k = 3 ∨ k = 4 ∨ k = 5 := by omega
  rcases this with rfl | rfl | rfl | rfl | rfl | rfl <;> exact ⟨_, rfl⟩
theorem rdr_set8 (c : Cmd) (A : Option Addr) (n cap : Nat) (B B' : Option Addr) (m cb m' cb' : Nat) : (rdrV c A n cap B m cb).set 8 (.slice B' m' cb') = rdrV c A n cap B' m' cb' := rfl
theorem reader_numbers (g : Nat) (bs : List UInt8) (B : Option Addr) (m cb : Nat) (hm : m ≤ cb) (hmx : m ≤ 140737488351232) (w : World) (hB : Blk w g 133 (rdrV zeroCmd none 0 0 B m cb)) (hrd : Rd w B m 1 (bv bs))
    (hne : ∀ g' o, B = some ⟨g', o, none⟩ → 0 < m → g' ≠ g) :
    Calls Tryd.prog 105 #[.pointer (some ⟨g, 0, none⟩)] w (numsPost g bs B m w) := by
  have hl := hrd.len
  rw [bv_length, Nat.mul_one] at hl
  have HL := Shut.mk hl
  have hz : zeroCmd = cmdOf [] [] [] := rfl
  rw [hz] at hB
  have HB0 := Shut.mk hB
  have HNE := Shut.mk hne
  clear hl hz hB hne
  go_enter Tryd.func105, Tryd.ntmps105
  go_wp2_with fail
  go_quiet (fail)
  go_wp2_with fail
  have hgd : w.grownBy (w.drewN nq) (some g) := grown_below (Drw.below ⟨_, rfl⟩)
  have hBd := HB0.out.drw (w1 := w.drewN nq) ⟨_, rfl⟩
  go_loopw [33] (fun i wr => ∃ (k pos : Nat) (l : List Int) (B' : Option Addr) (cb' : Nat), k ≤ 6 ∧ pos ≤ m ∧ i = .int .i64 k ∧ Shut (l.length = k) ∧ Shut (dec6 bs 6 0 = (match dec6 bs (6 - k) pos with | .error e => .error e | .ok (r, q) => .ok (l ++ r, q))) ∧ m - pos ≤ cb' ∧
    Shut (Blk wr g 133 (rdrV (cmdOf l [] []) none 0 0 B' (m - pos) cb')) ∧ Shut (∀ w1 ys, Rd w1 B m 1 ys → Rd w1 B' (m - pos) 1 (ys.drop (pos * 1))) ∧ Shut (w.grownBy wr (some g))) (fun i _ => 6 - (intOf i).toNat)
  case atStart =>
    refine ⟨0, 0, [], B, cb, by omega, by omega, rfl, ⟨rfl⟩, ⟨?_⟩, by omega, ⟨by simpa using hBd⟩, ⟨fun w1 ys h => by simpa using h⟩, ⟨hgd⟩⟩
    show _ = _
    cases dec6 bs (6 - 0) 0 with
    | error e => rfl
    | ok q => rfl
  case round =>
    clear hgd hBd HB0
    obtain ⟨k, pos, l, B', cb', hk, hpos, rfl, hlk, hD, hcb, hB, hS, hg⟩ := hrel
    have hrd2 := hS.out wr _ (hrd.grown hg.out (fun g' o e hm' he => HNE.out g' o e hm' (Option.some.inj he)))
    rw [bv_drop, Nat.mul_one] at hrd2
    by_cases hk6 : k < 6
    · have hcall := wire_GetInt (bs.drop pos) B' (m - pos) cb' wr hrd2 hcb
      have c8 := hB.out.cell (j := 8) (v := .slice B' (m - pos) cb') rfl
      obtain ⟨x0, hx0⟩ := rdr_num l k hk6 B' (m - pos) cb'
      have hptr : ([Value.pointer (some ⟨g, 0, none⟩), .pointer (some ⟨g, 1, none⟩), .pointer (some ⟨g, 2, none⟩), .pointer (some ⟨g, 3, none⟩), .pointer (some ⟨g, 4, none⟩), .pointer (some ⟨g, 5, none⟩)])[k]? = some (.pointer (some ⟨g, k, none⟩)) := by
        have : k = 0 ∨ k = 1 ∨ k = 2 ∨ k = 3 ∨ k = 4 ∨ k = 5 := by omega
        rcases this with rfl | rfl | rfl | rfl | rfl | rfl <;> rfl
      have HPTR := Shut.mk hptr
      have HX0 := Shut.mk hx0
      clear hptr hx0
      cases hd : decInt (bs.drop pos) with
      | error e0 =>
        rw [hd] at hcall
        have he56 := decInt_err hd
        have g0 : ((e0 : Int) != 0) = true := by simp; omega
        have hres : dec6 bs 6 0 = .error e0 := by
          rw [hD.out]
          obtain ⟨q, hq⟩ : ∃ q, 6 - k = q + 1 := ⟨5 - k, by omega⟩
          rw [hq]; simp only [dec6]; rw [hd]
        have HRES := Shut.mk hres
        have HC := Shut.mk hcall
        have hskip := reader_skip_err (.pointer (some ⟨g, 0, none⟩)) 0 e0 (by omega) wr rfl g rfl
        have HSK := Shut.mk hskip
        clear hd hcall hres hskip
        go_wp2_with (with_reducible refine stop_index ?_)
        refine at_index_run (run_index_cell (j := k) (by kernel_rfl : Tryd.prog.underlying 191 = some (.array 6 190)) (by kernel_rfl) (by kernel_rfl) HPTR.out hk6) ?_
        go_wp2_with fail
        refine HC.out.mono ?_
        rintro e w2 ⟨rfl, rfl⟩
        simp only [intR, R3]
        go_wp2_with fail
        refine HSK.out.mono ?_
        rintro e w2 ⟨rfl, rfl⟩
        go_wp2_with fail
        go_ret
        exact ⟨hg.out, by rw [HRES.out]; rfl⟩
      | ok p =>
        obtain ⟨x, u⟩ := p
        rw [hd] at hcall
        obtain ⟨hu, hu0, hx1, hx2⟩ := decInt_ok hd
        rw [List.length_drop, HL.out] at hu
        have hres : dec6 bs 6 0 = (match dec6 bs (6 - (k + 1)) (pos + u) with | .error e => .error e | .ok (r, q) => .ok ((l ++ [x]) ++ r, q)) := by
          rw [hD.out]
          obtain ⟨q, hq⟩ : ∃ q, 6 - k = q + 1 := ⟨5 - k, by omega⟩
          rw [hq, show 6 - (k + 1) = q by omega]
          simp only [dec6]
          rw [hd]
          simp only
          cases dec6 bs q (pos + u) with
          | error e => rfl
          | ok r => simp
        have HRES := Shut.mk hres
        have HC := Shut.mk hcall
        have hskip := reader_skip_ok g (cmdOf l [] []) none 0 0 B' (m - pos) cb' u hcb hu wr hB.out
        have HSK := Shut.mk hskip
        clear hd hcall hres hskip
        go_wp2_with (with_reducible refine stop_index ?_)
        refine at_index_run (run_index_cell (j := k) (by kernel_rfl : Tryd.prog.underlying 191 = some (.array 6 190)) (by kernel_rfl) (by kernel_rfl) HPTR.out hk6) ?_
        go_wp2_with fail
        refine HC.out.mono ?_
        rintro e w2 ⟨rfl, rfl⟩
        simp only [intR, R3]
        go_wp2_with fail
        refine HSK.out.mono ?_
        rintro e w2 ⟨rfl, B2, hS2, hw2⟩
        have hB2 := hB.out.set 8 (.slice B2 (m - pos - u) (cb' - u))
        rw [rdr_set8, ← hw2] at hB2
        have hg2 := grown_trans hg.out (grown_set wr g 8 (.slice B2 (m - pos - u) (cb' - u)))
        rw [← hw2] at hg2
        have HS2 := Shut.mk hS2
        have ck := hB2.cell (rdr_num l k hk6 B2 (m - pos - u) (cb' - u)).choose_spec
        have fk := hB2.free k
        have HB2 := Shut.mk hB2
        clear hB2 hw2 c8 hS2
        go_wp2_with fail
        refine ⟨⟨k + 1, pos + u, l ++ [x], B2, cb' - u, by omega, by omega, by go_num, ⟨by have := hlk.out; simp; omega⟩, HRES, by omega, ⟨?_⟩, ⟨?_⟩, ⟨grown_trans hg2 (grown_set _ g k _)⟩⟩, by simp [intOf]; omega⟩
        · have h := HB2.out.set k (.int .i64 x)
          rw [rdr_set l x k hk6 hlk.out, show m - pos - u = m - (pos + u) by omega] at h
          exact h
        · intro w1 ys h
          have h2 := HS2.out w1 _ (hS.out w1 ys h)
          rw [List.drop_drop, show m - pos - u = m - (pos + u) by omega, show pos * 1 + u * 1 = (pos + u) * 1 by omega] at h2
          exact h2
    · obtain rfl : k = 6 := by omega
      have hres : dec6 bs 6 0 = .ok (l, pos) := by
        rw [hD.out]
        show (match dec6 bs 0 pos with | .error e => Except.error e | .ok (r, q) => .ok (l ++ r, q)) = _
        simp [dec6]
      have HRES := Shut.mk hres
      clear hres
      go_wp2_with fail
      go_ret
      refine ⟨hg.out, ?_⟩
      rw [HRES.out]
      exact ⟨rfl, hpos, B', cb', hcb, hB.out, hS.out⟩
end Go.Proofs.YtedegedceeefdaaDoor
/-! Walks: package command, the reader's other parts. -/
namespace Go.Proofs.YtedegedceeefdaaDoor
open Go.RowKit Go.Cw Cu
set_option maxRecDepth 100000
set_option maxHeartbeats 1000000
set_option linter.unusedVariables false
set_option linter.unusedSimpArgs false
def dataPost (g : Nat) (l : List Int) (rest : List UInt8) (B : Option Addr) (m : Nat) (w : World) (e : Ending) (w' : World) : Prop := w.grownBy w' (some g) ∧ match decBytes rest with
  | .error e0 => e = .returned (.int .i64 (e0 : Int))
  | .ok (s, i) => e = .returned (.int .i64 0) ∧ i ≤ m ∧ ∃ B' cb', m - i ≤ cb' ∧ Blk w' g 133 (rdrV (cmdOf l s []) none 0 0 B' (m - i) cb') ∧ (∀ w1 ys, Rd w1 B m 1 ys → Rd w1 B' (m - i) 1 (ys.drop (i * 1)))
theorem decBytes_err {bs : List UInt8} {e : Nat} (h : decBytes bs = .error e) : e = 5 ∨ e = 6 := by
  unfold decBytes at h
  split at h
  · rename_i e' he; injection h with h; subst h; exact decCount_err he
  · cases h
theorem rdr_set6 (l : List Int) (s s' : List UInt8) (ks : List Int) (A : Option Addr) (n cap : Nat) (B : Option Addr) (m cb : Nat) : (rdrV (cmdOf l s ks) A n cap B m cb).set 6 (.string ⟨s'.toArray⟩) = rdrV (cmdOf l s' ks) A n cap B m cb := rfl
theorem rdr_set7 (l : List Int) (s : List UInt8) (ks ks' : List Int) (A A' : Option Addr) (n cap n' cap' : Nat) (B : Option Addr) (m cb : Nat) : (rdrV (cmdOf l s ks) A n cap B m cb).set 7 (.slice A' n' cap') = rdrV (cmdOf l s ks') A' n' cap' B m cb := rfl
theorem reader_data (g : Nat) (l : List Int) (rest : List UInt8) (B : Option Addr) (m cb : Nat) (hm : m ≤ cb) (hmx : m ≤ 140737488351232) (w : World) (hB : Blk w g 133 (rdrV (cmdOf l [] []) none 0 0 B m cb)) (hrd : Rd w B m 1 (bv rest)) :
    Calls Tryd.prog 106 #[.pointer (some ⟨g, 0, none⟩)] w (dataPost g l rest B m w) := by
  have hcall := wire_GetBytes rest B m cb w hrd hm hmx
  have hl := hrd.len
  rw [bv_length, Nat.mul_one] at hl
  have c8 := hB.cell (j := 8) (v := .slice B m cb) rfl
  have c6 := hB.cell (j := 6) (v := .string ⟨#[]⟩) rfl
  have f6 := hB.free 6
  cases hd : decBytes rest with
  | error e0 =>
    rw [hd] at hcall
    have he56 := decBytes_err hd
    have HD := Shut.mk hd
    have HC := Shut.mk hcall
    clear hd hcall hB
    go_enter Tryd.func106, Tryd.ntmps106
    go_wp2_with fail
    refine HC.out.mono ?_
    rintro e w2 ⟨rfl, rfl⟩
    simp only [strR, R3]
    go_wp2_with fail
    refine (reader_skip_err (.pointer (some ⟨g, 0, none⟩)) 0 e0 (by omega) _ rfl g rfl).mono ?_
    rintro e w2 ⟨rfl, rfl⟩
    go_wp2_with fail
    go_ret
    exact ⟨grown_set w g 6 _, by rw [HD.out]; rfl⟩
  | ok p =>
    obtain ⟨s, i⟩ := p
    rw [hd] at hcall
    obtain ⟨hi, _, _⟩ := enc_of_decBytes hd
    have hB2 := hB.set 6 (.string ⟨s.toArray⟩)
    rw [rdr_set6] at hB2
    have hskip := reader_skip_ok g (cmdOf l s []) none 0 0 B m cb i hm (by omega) _ hB2
    have HB2 := Shut.mk hB2
    have HD := Shut.mk hd
    have HC := Shut.mk hcall
    have HSK := Shut.mk hskip
    clear hd hcall hB hB2 hskip
    go_enter Tryd.func106, Tryd.ntmps106
    go_wp2_with fail
    refine HC.out.mono ?_
    rintro e w2 ⟨rfl, rfl⟩
    simp only [strR, R3]
    go_wp2_with fail
    refine HSK.out.mono ?_
    rintro e w2 ⟨rfl, B2, hS2, hw2⟩
    have hB3 := HB2.out.set 8 (.slice B2 (m - i) (cb - i))
    rw [rdr_set8, ← hw2] at hB3
    have hg2 := grown_trans (grown_set w g 6 (.string ⟨s.toArray⟩)) (grown_set (w.setCell ⟨g, 6, none⟩ (.string ⟨s.toArray⟩)) g 8 (.slice B2 (m - i) (cb - i)))
    rw [← hw2] at hg2
    have HS2 := Shut.mk hS2
    have HB3 := Shut.mk hB3
    clear hw2 hS2 hB3
    go_wp2_with fail
    go_ret
    refine ⟨hg2, ?_⟩
    rw [HD.out]
    exact ⟨rfl, by omega, B2, cb - i, by omega, HB3.out, HS2.out⟩
theorem own_at {w : World} {base e size n c : Nat} {A : Option Addr} {xs : List Value} (h : w.ownsRow base e size (.slice A n c) n xs) : ∀ g0 o, A = some ⟨g0, o, none⟩ → base ≤ g0 := by
  intro g0 o hA
  rcases h.2 with ⟨e0, _⟩ | ⟨g, cap, cur, e0, hb, _⟩
  · rw [hA] at e0; cases e0
  · rw [hA] at e0; injection e0 with e1; injection e1 with e1; injection e1 with e1; omega
def listPost (g : Nat) (l : List Int) (s : List UInt8) (rest : List UInt8) (B : Option Addr) (m : Nat) (w : World) (e : Ending) (w' : World) : Prop := w.grownBy w' (some g) ∧ match decList 1 decInt rest with
  | .error e0 => e = .returned (.int .i64 (e0 : Int))
  | .ok (ks, i) => e = .returned (.int .i64 0) ∧ i ≤ m ∧ ∃ B' cb' D d, m - i ≤ cb' ∧ Blk w' g 133 (rdrV (cmdOf l s ks) D ks.length d B' (m - i) cb') ∧ (∀ w1 ys, Rd w1 B m 1 ys → Rd w1 B' (m - i) 1 (ys.drop (i * 1))) ∧ Rd w' D ks.length 1 (iv ks) ∧ ∀ g0 o, D = some ⟨g0, o, none⟩ → w.heap.size ≤ g0
theorem getLoop_err {α : Type} {dec : List UInt8 → Res α} (hdec : ∀ b e, dec b = .error e → e = 5 ∨ e = 6) (b : List UInt8) : ∀ (k : Nat) (out : List α) (pos e : Nat), getLoop dec b k out pos = .error e → e = 5 ∨ e = 6
  | 0, out, pos, e, h => by simp [getLoop] at h
  | k + 1, out, pos, e, h => by
    simp only [getLoop] at h
    split at h
    · rename_i e' he; injection h with h; subst h; exact hdec _ _ he
    · exact getLoop_err hdec b _ _ _ _ h
theorem decList_err {α : Type} {sz : Nat} {dec : List UInt8 → Res α} (hdec : ∀ b e, dec b = .error e → e = 5 ∨ e = 6) {bs : List UInt8} {e : Nat} (h : decList sz dec bs = .error e) : e = 5 ∨ e = 6 := by
  unfold decList at h
  split at h
  · rename_i e' he; injection h with h; subst h; exact decCount_err he
  · exact getLoop_err hdec _ _ _ _ _ h
theorem reader_list (g : Nat) (l : List Int) (s : List UInt8) (rest : List UInt8) (B : Option Addr) (m cb : Nat) (hm : m ≤ cb) (hmx : m * 8 ≤ 140737488351232) (w : World) (hB : Blk w g 133 (rdrV (cmdOf l s []) none 0 0 B m cb)) (hrd : Rd w B m 1 (bv rest)) :
    Calls Tryd.prog 107 #[.pointer (some ⟨g, 0, none⟩)] w (listPost g l s rest B m w) := by
  have hcall := wire_GetInts rest B m cb w hrd hm hmx
  have hl := hrd.len
  rw [bv_length, Nat.mul_one] at hl
  have c8 := hB.cell (j := 8) (v := .slice B m cb) rfl
  have hgl := hB.lt
  cases hd : decList 1 decInt rest with
  | error e0 =>
    rw [hd] at hcall
    have he56 := decList_err (fun b e h => decInt_err h) hd
    have HD := Shut.mk hd
    have HC := Shut.mk hcall
    have HB := Shut.mk hB
    clear hd hcall hB
    go_enter Tryd.func107, Tryd.ntmps107
    go_wp2_with fail
    refine HC.out.mono ?_
    rintro e w2 ⟨rfl, hb2⟩
    have c7 := (HB.out.below hb2).cell (j := 7) (v := .slice none 0 0) rfl
    have f7 := (HB.out.below hb2).free 7
    have hg2 := grown_below (r := some g) hb2
    clear hb2
    go_wp2_with fail
    refine (reader_skip_err (.pointer (some ⟨g, 0, none⟩)) 0 e0 (by omega) _ rfl g rfl).mono ?_
    rintro e w3 ⟨rfl, rfl⟩
    go_wp2_with fail
    go_ret
    exact ⟨grown_trans hg2 (grown_set w2 g 7 _), by rw [HD.out]; rfl⟩
  | ok p =>
    obtain ⟨ks, i⟩ := p
    rw [hd] at hcall
    obtain ⟨hi, _, _, _⟩ := enc_of_decList (by omega) encInt decInt (fun b x k h => ⟨(enc_of_dec h).1, (enc_of_dec h).2.2.1⟩) hd
    have HD := Shut.mk hd
    have HC := Shut.mk hcall
    have HB := Shut.mk hB
    clear hd hcall hB
    go_enter Tryd.func107, Tryd.ntmps107
    go_wp2_with fail
    refine HC.out.mono ?_
    rintro e w2 ⟨D, d, rfl, hown, hb2⟩
    have hBb := HB.out.below hb2
    have c7 := hBb.cell (j := 7) (v := .slice none 0 0) rfl
    have f7 := hBb.free 7
    have hg2 := grown_below (r := some g) hb2
    have hB2 := hBb.set 7 (.slice D ks.length d)
    rw [rdr_set7 l s [] ks] at hB2
    have ho2 := ownsRow_setCell_below (a := ⟨g, 7, none⟩) hown hgl (.slice D ks.length d)
    have hskip := reader_skip_ok g (cmdOf l s ks) D ks.length d B m cb i hm (by omega) _ hB2
    have HB2 := Shut.mk hB2
    have HO2 := Shut.mk ho2
    have HSK := Shut.mk hskip
    clear hb2 hBb hB2 ho2 hskip hown
    go_wp2_with fail
    refine HSK.out.mono ?_
    rintro e w3 ⟨rfl, B2, hS2, hw2⟩
    have hB3 := HB2.out.set 8 (.slice B2 (m - i) (cb - i))
    rw [rdr_set8, ← hw2] at hB3
    have ho3 := ownsRow_setCell_below (a := ⟨g, 8, none⟩) HO2.out hgl (.slice B2 (m - i) (cb - i))
    rw [← hw2] at ho3
    have hg3 := grown_trans hg2 (grown_trans (grown_set w2 g 7 (.slice D ks.length d)) (grown_set (w2.setCell ⟨g, 7, none⟩ (.slice D ks.length d)) g 8 (.slice B2 (m - i) (cb - i))))
    rw [← hw2] at hg3
    have HS2 := Shut.mk hS2
    have HB3 := Shut.mk hB3
    have HO3 := Shut.mk ho3
    clear hw2 hS2 hB3 ho3
    go_wp2_with fail
    go_ret
    refine ⟨hg3, ?_⟩
    rw [HD.out]
    exact ⟨rfl, by omega, B2, cb - i, D, d, by omega, HB3.out, HS2.out, own_Rd HO3.out, own_at HO3.out⟩
theorem reader_end (g : Nat) (c : Cmd) (A : Option Addr) (n cap : Nat) (B : Option Addr) (m cb : Nat) (hmx : m ≤ 140737488351232) (w : World) (hB : Blk w g 133 (rdrV c A n cap B m cb)) (hrd : Rd w A n 1 (iv c.list)) (hd : c.data.length ≤ 9223372036854775807) (hk64 : inI64 c.kind) (ht : Tab w 0 rowsV) :
    Calls Tryd.prog 108 #[.pointer (some ⟨g, 0, none⟩)] w fun e w' => e = .returned (.int .i64 ((if 0 < m then 6 else check c : Nat) : Int)) ∧ Below w.heap.size w w' := by
  have c8 := hB.cell (j := 8) (v := .slice B m cb) rfl
  by_cases hm : 0 < m
  · rw [if_pos hm]
    clear hB ht
    go_enter Tryd.func108, Tryd.ntmps108
    go_wp2_with fail
    go_ret
    exact ⟨rfl, Below.refl _ _⟩
  · rw [if_neg hm]
    have hchk := command_Check c A n cap w hrd hd hk64 ht
    generalize check c = res at *
    have HCH := Shut.mk hchk
    have HB := Shut.mk hB
    clear ht hchk hB
    go_enter Tryd.func108, Tryd.ntmps108
    go_wp2_with (with_reducible refine stop_load (t := 24) ?_)
    refine at_load_agg (g := g) (o := 0) (cs := cmdV c A n cap) aggC rfl rfl (fun j v hj => by
      rw [Nat.zero_add]
      exact HB.out.cell (by unfold rdrV; rw [List.getElem?_append_left (List.getElem?_eq_some_iff.1 hj).1]; exact hj)) ?_
    go_wp2_with fail
    refine HCH.out.mono ?_
    rintro e w2 ⟨rfl, hb⟩
    go_wp2_with fail
    go_ret
    exact ⟨rfl, hb⟩
end Go.Proofs.YtedegedceeefdaaDoor
/-! Walks: package command, Decode. -/
namespace Go.Cw
open Go.RowKit
theorem Blk.grown {w w1 : World} {g g' : Nat} {T : TypeId} {cs : List Value} (h : Blk w g T cs) (hg : w.grownBy w1 (some g')) (hne : g ≠ g') : Blk w1 g T cs := by
  have hlt := h.lt
  unfold Blk at *
  rw [hg.block g hlt (fun e => hne (Option.some.inj e)), h]
theorem Rd.setRow {w : World} {A : Option Addr} {n size g : Nat} {xs : List Value} (h : Rd w A n size xs) (cs : Array Value) (hne : ∀ g0 o, A = some ⟨g0, o, none⟩ → g0 ≠ g) : Rd (w.setRow g cs) A n size xs :=
  h.grown (row := some g) ⟨rfl, rfl, rfl, by simp [World.setRow], fun k hk hn => Go.setRow_other w g k cs (fun e => hn (by rw [e]))⟩ (fun g0 o hA _ e => hne g0 o hA (by injection e))
theorem results_cell_tmp {P : Program} {w : World} {T : TypeId} {n : Nat} {fn : Func} {t u : Tmp} (hr : fn.results = #[.cell t T, .tmp u]) (h : AggT P T n) {tmps : Array Value} {g o : Nat} (ht : tmps.getD t undef = .pointer (some ⟨g, o, none⟩)) {cs : List Value} (hl : cs.length = n)
    (hc : ∀ j v, cs[j]? = some v → w.cell? ⟨g, o + j, none⟩ = some v) : (results fn tmps).run P w = .ok (.tuple #[.agg cs.toArray, tmps.getD u undef]) w := by
  have h1 := run_loadVar_agg h hl hc
  have ht' : tmps[t]?.getD undef = .pointer (some ⟨g, o, none⟩) := by simpa using ht
  simp [results, hr, ht', asAddr, h1]
/-- The end of a body whose first result lies in memory. -/
theorem ret_blk_tmp {P : Program} {w : World} {T : TypeId} {n : Nat} {fn : Func} {R : Ending → World → Prop} {a : Act} {t u : Tmp} (hr : fn.results = #[.cell t T, .tmp u]) (h : AggT P T n) {g : Nat} {T' : TypeId} {cs : List Value} (ht : a.tmps.getD t undef = .pointer (some ⟨g, 0, none⟩)) (hl : cs.length = n) (hb : Blk w g T' cs)
    (hd : a.defers = []) (hR : R (.returned (.tuple #[.agg cs.toArray, a.tmps.getD u undef])) w) : bodyPost P fn R .ret a w :=
  bodyPost_ret (results_cell_tmp hr h ht hl fun j v hj => by rw [Nat.zero_add]; exact hb.cell hj) hd hR
end Go.Cw
namespace Go.Proofs.YtedegedceeefdaaDoor
open Go.RowKit Go.Cw Cu
set_option maxRecDepth 100000
set_option maxHeartbeats 1000000
set_option linter.unusedVariables false
set_option linter.unusedSimpArgs false
theorem cmdV_one (c : Cmd) (A : Option Addr) (n cap : Nat) : ∀ v ∈ cmdV c A n cap, v.oneCell' = true := by
  intro v hv; simp [cmdV] at hv; rcases hv with rfl | rfl | rfl | rfl | rfl | rfl | rfl | rfl <;> rfl
def stg (bs : List UInt8) (A : Option Addr) (n c g : Nat) (wr : World) : Nat → Prop
  | 0 => Blk wr g 133 (rdrV zeroCmd none 0 0 A n c)
  | 1 => ∃ l p B cb, dec6 bs 6 0 = .ok (l, p) ∧ p ≤ n ∧ n - p ≤ cb ∧ Blk wr g 133 (rdrV (cmdOf l [] []) none 0 0 B (n - p) cb) ∧ (∀ w1 ys, Rd w1 A n 1 ys → Rd w1 B (n - p) 1 (ys.drop (p * 1)))
  | 2 => ∃ l p s i B cb, dec6 bs 6 0 = .ok (l, p) ∧ decBytes (bs.drop p) = .ok (s, i) ∧ p + i ≤ n ∧ n - (p + i) ≤ cb ∧ Blk wr g 133 (rdrV (cmdOf l s []) none 0 0 B (n - (p + i)) cb) ∧ (∀ w1 ys, Rd w1 A n 1 ys → Rd w1 B (n - (p + i)) 1 (ys.drop ((p + i) * 1)))
  | 3 => ∃ l p s i ks j B cb D d, dec6 bs 6 0 = .ok (l, p) ∧ decBytes (bs.drop p) = .ok (s, i) ∧ decList 1 decInt (bs.drop (p + i)) = .ok (ks, j) ∧ p + i + j ≤ n ∧ Blk wr g 133 (rdrV (cmdOf l s ks) D ks.length d B (n - (p + i + j)) cb) ∧ Rd wr D ks.length 1 (iv ks) ∧ ∀ g0 o, D = some ⟨g0, o, none⟩ → g + 2 ≤ g0
  | _ => ∃ cm D d B m cb, decCmd bs = .ok cm ∧ Blk wr g 133 (rdrV cm D cm.list.length d B m cb) ∧ Rd wr D cm.list.length 1 (iv cm.list) ∧ ∀ g0 o, D = some ⟨g0, o, none⟩ → g + 2 ≤ g0
theorem dec6_in {bs : List UInt8} : ∀ (k pos : Nat) (l : List Int) (q : Nat), dec6 bs k pos = .ok (l, q) → ∀ x ∈ l, inI64 x
  | 0, pos, l, q, h => by
    simp only [dec6, Except.ok.injEq, Prod.mk.injEq] at h
    rw [← h.1]; simp
  | k + 1, pos, l, q, h => by
    simp only [dec6] at h
    split at h
    · cases h
    · rename_i x u hx
      split at h
      · cases h
      · rename_i r q' hr
        simp only [Except.ok.injEq, Prod.mk.injEq] at h
        rw [← h.1]
        intro y hy
        rcases List.mem_cons.1 hy with rfl | hy
        · exact (decInt_ok hx).2.2
        · exact dec6_in k _ r q' hr y hy
theorem cmdOf_kind {l : List Int} (h : ∀ x ∈ l, inI64 x) (s : List UInt8) (ks : List Int) : inI64 (cmdOf l s ks).kind := by
  show inI64 (l.getD 0 0)
  cases l with
  | nil => exact ⟨by decide, by decide⟩
  | cons x r => exact h x (by simp)
def decPost (bs : List UInt8) (w : World) (e : Ending) (w' : World) : Prop := Below w.heap.size w w' ∧ match decCmd bs with
  | .error e0 => e = .returned (.tuple #[.agg (cmdV zeroCmd none 0 0).toArray, .int .i64 (e0 : Int)])
  | .ok c => ∃ A n cap, e = .returned (.tuple #[.agg (cmdV c A n cap).toArray, .int .i64 0]) ∧ Rd w' A n 1 (iv c.list)
theorem command_Decode (bs : List UInt8) (A : Option Addr) (n c : Nat) (w : World) (hrd : Rd w A n 1 (bv bs)) (hc : n ≤ c) (hm : n * 8 ≤ 140737488351232) (ht : Tab w 0 rowsV) :
    Calls Tryd.prog 36 #[.slice A n c] w (decPost bs w) := by
  have hg : 0 < w.heap.size := ht.lt rfl
  have HT := Shut.mk ht
  clear ht
  go_enter Tryd.func36, Tryd.ntmps36
  go_wp2_with fail
  have hZ := ((Blk.new w 24 (cmdV zeroCmd none 0 0)).alloc (.cells (rdrV zeroCmd none 0 0 A n c).toArray 133))
  have hz1 : (w.alloc (.cells (cmdV zeroCmd none 0 0).toArray 24)).heap.size = w.heap.size + 1 := by simp
  have hR := Blk.new (w.alloc (.cells (cmdV zeroCmd none 0 0).toArray 24)) 133 (rdrV zeroCmd none 0 0 A n c)
  have hb := (below_alloc w (.cells (cmdV zeroCmd none 0 0).toArray 24)).alloc (by simp) (.cells (rdrV zeroCmd none 0 0 A n c).toArray 133)
  have hz2 : ((w.alloc (.cells (cmdV zeroCmd none 0 0).toArray 24)).alloc (.cells (rdrV zeroCmd none 0 0 A n c).toArray 133)).heap.size = w.heap.size + 1 + 1 := by simp
  rw [hz1] at hR
  change Code.wp _ _ _ _ (((w.alloc (.cells (cmdV zeroCmd none 0 0).toArray 24)).alloc (.cells (rdrV zeroCmd none 0 0 A n c).toArray 133)).alloc (.cells [.func (.func 105) #[.pointer (some ⟨w.heap.size + 1, 0, none⟩)] #[], .func (.func 106) #[.pointer (some ⟨w.heap.size + 1, 0, none⟩)] #[], .func (.func 107) #[.pointer (some ⟨w.heap.size + 1, 0, none⟩)] #[], .func (.func 108) #[.pointer (some ⟨w.heap.size + 1, 0, none⟩)] #[]].toArray 134))
  generalize (w.alloc (.cells (cmdV zeroCmd none 0 0).toArray 24)).alloc (.cells (rdrV zeroCmd none 0 0 A n c).toArray 133) = w1 at *
  have hF := Blk.new w1 134 [.func (.func 105) #[.pointer (some ⟨w.heap.size + 1, 0, none⟩)] #[], .func (.func 106) #[.pointer (some ⟨w.heap.size + 1, 0, none⟩)] #[], .func (.func 107) #[.pointer (some ⟨w.heap.size + 1, 0, none⟩)] #[], .func (.func 108) #[.pointer (some ⟨w.heap.size + 1, 0, none⟩)] #[]]
  generalize hfs : [Value.func (.func 105) #[.pointer (some ⟨w.heap.size + 1, 0, none⟩)] #[], .func (.func 106) #[.pointer (some ⟨w.heap.size + 1, 0, none⟩)] #[], .func (.func 107) #[.pointer (some ⟨w.heap.size + 1, 0, none⟩)] #[], .func (.func 108) #[.pointer (some ⟨w.heap.size + 1, 0, none⟩)] #[]] = fs at *
  have hal := below_alloc w1 (.cells fs.toArray 134)
  have hZ2 := hZ.below hal
  have hR2 := hR.below hal
  have hb2 := hb.trans (hal.mono hb.size)
  rw [hz2] at hF
  have hsz : w.heap.size + 3 ≤ (w1.alloc (.cells fs.toArray 134)).heap.size := by simp; omega
  generalize w1.alloc (.cells fs.toArray 134) = w2 at *
  have HFS := Shut.mk hfs
  have HZ := Shut.mk hZ2
  have HS : Shut (stg bs A n c (w.heap.size + 1) w2 0) := ⟨hR2⟩
  have HF := Shut.mk hF
  clear hZ hz1 hR hb hz2 hF hal hZ2 hR2 hfs
  clear w1
  go_loopw [21] (fun i wr => ∃ k : Nat, k ≤ 4 ∧ i = .int .i64 k ∧ Shut (stg bs A n c (w.heap.size + 1) wr k) ∧ Shut (Blk wr w.heap.size 24 (cmdV zeroCmd none 0 0)) ∧ Shut (Blk wr (w.heap.size + 1 + 1) 134 fs) ∧ Below w.heap.size w wr ∧ w.heap.size + 3 ≤ wr.heap.size) (fun i _ => 4 - (intOf i).toNat)
  case atStart => exact ⟨0, by omega, rfl, HS, HZ, HF, hb2, hsz⟩
  case round =>
    clear HS HZ HF hb2 hsz
    obtain ⟨k, hk, rfl, HS, HZ, HF, hbw, hsz⟩ := hrel
    have hk5 : k = 0 ∨ k = 1 ∨ k = 2 ∨ k = 3 ∨ k = 4 := by omega
    rcases hk5 with rfl | rfl | rfl | rfl | rfl
    · have hB : Blk wr (w.heap.size + 1) 133 (rdrV zeroCmd none 0 0 A n c) := HS.out
      have cf := HF.out.cell (j := 0) (v := .func (.func 105) #[.pointer (some ⟨w.heap.size + 1, 0, none⟩)] #[]) (by rw [← HFS.out]; rfl)
      have hcall := reader_numbers (w.heap.size + 1) bs A n c hc (by omega) wr hB (hrd.below hbw) (fun g' o e hn => by
        obtain ⟨g2, o2, e2, hcs⟩ := hrd.cells hn
        have hlt : g2 < w.heap.size := by
          have hl := hrd.len
          have := hcs 0 _ (List.getElem?_eq_getElem (by omega))
          exact World.block_lt_of_cell? w _ this
        rw [e] at e2
        injection e2 with e2
        injection e2 with e2
        omega)
      have HC := Shut.mk hcall
      clear hcall hB HS
      go_wp2_with fail
      refine HC.out.mono ?_
      rintro e w2 ⟨hgr, hpost⟩
      have HZ2 := Shut.mk (HZ.out.grown hgr (by omega))
      have HF2 := Shut.mk (HF.out.grown hgr (by omega))
      have hbw2 := below_of_grown hbw hgr (by omega) hbw.size
      have hsz2 : w.heap.size + 3 ≤ w2.heap.size := by have := hgr.size; omega
      clear cf HC
      cases hd : dec6 bs 6 0 with
      | error e0 =>
        rw [hd] at hpost
        obtain rfl : e = .returned (.int .i64 (e0 : Int)) := hpost
        have he := dec6_err _ _ _ hd
        have hdec : decCmd bs = .error e0 := by unfold decCmd; rw [hd]
        have HDEC := Shut.mk hdec
        have g0 : ((e0 : Int) != 0) = true := by simp; omega
        clear hdec hd hgr
        go_wp2_with (with_reducible refine stop_store ?_)
        refine at_store_blk aggC (vs := cmdV zeroCmd none 0 0) rfl rfl rfl rfl HZ2.out (by decide +kernel) ?_
        intro hB2
        go_wp2_with fail
        refine ret_blk_tmp rfl aggC rfl rfl hB2 rfl ⟨below_setRow hbw2 (Nat.le_refl _) _, ?_⟩
        rw [HDEC.out]
        rfl
      | ok q =>
        obtain ⟨l, p⟩ := q
        rw [hd] at hpost
        obtain ⟨rfl, hpm, B', cb', hcb, hB2, hS2⟩ := hpost
        have HST : Shut (stg bs A n c (w.heap.size + 1) w2 1) := ⟨⟨l, p, B', cb', hd, hpm, hcb, hB2, hS2⟩⟩
        clear hd hS2 hB2 hgr
        go_wp2_with fail
        exact ⟨⟨1, by omega, by go_num, HST, HZ2, HF2, hbw2, hsz2⟩, by simp [intOf]⟩
    · obtain ⟨l, p, B, cb, hd6, hpn, hcb, hB, hSB⟩ := HS.out
      have hrdB := hSB wr _ (hrd.below hbw)
      rw [bv_drop, Nat.mul_one] at hrdB
      have cf := HF.out.cell (j := 1) (v := .func (.func 106) #[.pointer (some ⟨w.heap.size + 1, 0, none⟩)] #[]) (by rw [← HFS.out]; rfl)
      have hcall := reader_data (w.heap.size + 1) l (bs.drop p) B (n - p) cb hcb (by omega) wr hB hrdB
      have HC := Shut.mk hcall
      have HD6 := Shut.mk hd6
      have HSB := Shut.mk hSB
      clear hcall hB HS hrdB hd6 hSB
      go_wp2_with fail
      refine HC.out.mono ?_
      rintro e w2 ⟨hgr, hpost⟩
      have HZ2 := Shut.mk (HZ.out.grown hgr (by omega))
      have HF2 := Shut.mk (HF.out.grown hgr (by omega))
      have hbw2 := below_of_grown hbw hgr (by omega) hbw.size
      have hsz2 : w.heap.size + 3 ≤ w2.heap.size := by have := hgr.size; omega
      clear cf HC
      cases hd : decBytes (bs.drop p) with
      | error e0 =>
        rw [hd] at hpost
        obtain rfl : e = .returned (.int .i64 (e0 : Int)) := hpost
        have he := decBytes_err hd
        have hdec : decCmd bs = .error e0 := by unfold decCmd; rw [HD6.out]; simp only; rw [hd]
        have HDEC := Shut.mk hdec
        have g0 : ((e0 : Int) != 0) = true := by simp; omega
        clear hdec hd hgr
        go_wp2_with (with_reducible refine stop_store ?_)
        refine at_store_blk aggC (vs := cmdV zeroCmd none 0 0) rfl rfl rfl rfl HZ2.out (by decide +kernel) ?_
        intro hB2
        go_wp2_with fail
        refine ret_blk_tmp rfl aggC rfl rfl hB2 rfl ⟨below_setRow hbw2 (Nat.le_refl _) _, ?_⟩
        rw [HDEC.out]
        rfl
      | ok q =>
        obtain ⟨s, i⟩ := q
        rw [hd] at hpost
        obtain ⟨rfl, hpm, B', cb', hcb2, hB2, hS2⟩ := hpost
        have hpi : n - p - i = n - (p + i) := by omega
        rw [hpi] at hcb2 hB2 hS2
        have HST : Shut (stg bs A n c (w.heap.size + 1) w2 2) := ⟨⟨l, p, s, i, B', cb', HD6.out, hd, by omega, hcb2, hB2, fun w1 ys h => by
          have := hS2 w1 _ (HSB.out w1 ys h)
          rw [List.drop_drop, Nat.mul_one, Nat.mul_one] at this
          rw [Nat.mul_one]; exact this⟩⟩
        clear hd hS2 hB2 hgr HSB
        go_wp2_with fail
        exact ⟨⟨2, by omega, by go_num, HST, HZ2, HF2, hbw2, hsz2⟩, by simp [intOf]⟩
    · obtain ⟨l, p, s, i, B, cb, hd6, hdb, hpn, hcb, hB, hSB⟩ := HS.out
      have hrdB := hSB wr _ (hrd.below hbw)
      rw [bv_drop, Nat.mul_one] at hrdB
      have cf := HF.out.cell (j := 2) (v := .func (.func 107) #[.pointer (some ⟨w.heap.size + 1, 0, none⟩)] #[]) (by rw [← HFS.out]; rfl)
      have hcall := reader_list (w.heap.size + 1) l s (bs.drop (p + i)) B (n - (p + i)) cb hcb (by omega) wr hB hrdB
      have HC := Shut.mk hcall
      have HD6 := Shut.mk hd6
      have HDB := Shut.mk hdb
      clear hcall hB HS hrdB hd6 hSB hdb
      go_wp2_with fail
      refine HC.out.mono ?_
      rintro e w2 ⟨hgr, hpost⟩
      have HZ2 := Shut.mk (HZ.out.grown hgr (by omega))
      have HF2 := Shut.mk (HF.out.grown hgr (by omega))
      have hbw2 := below_of_grown hbw hgr (by omega) hbw.size
      have hsz2 : w.heap.size + 3 ≤ w2.heap.size := by have := hgr.size; omega
      clear cf HC
      cases hd : decList 1 decInt (bs.drop (p + i)) with
      | error e0 =>
        rw [hd] at hpost
        obtain rfl : e = .returned (.int .i64 (e0 : Int)) := hpost
        have he := decList_err (fun b e h => decInt_err h) hd
        have hdec : decCmd bs = .error e0 := by unfold decCmd; rw [HD6.out]; simp only; rw [HDB.out]; simp only; rw [hd]
        have HDEC := Shut.mk hdec
        have g0 : ((e0 : Int) != 0) = true := by simp; omega
        clear hdec hd hgr
        go_wp2_with (with_reducible refine stop_store ?_)
        refine at_store_blk aggC (vs := cmdV zeroCmd none 0 0) rfl rfl rfl rfl HZ2.out (by decide +kernel) ?_
        intro hB2
        go_wp2_with fail
        refine ret_blk_tmp rfl aggC rfl rfl hB2 rfl ⟨below_setRow hbw2 (Nat.le_refl _) _, ?_⟩
        rw [HDEC.out]
        rfl
      | ok q =>
        obtain ⟨ks, j⟩ := q
        rw [hd] at hpost
        obtain ⟨rfl, hpm, B', cb', D, d, hcb2, hB2, hS2, hK, hKg⟩ := hpost
        have hpi : n - (p + i) - j = n - (p + i + j) := by omega
        rw [hpi] at hcb2 hB2 hS2
        have HST : Shut (stg bs A n c (w.heap.size + 1) w2 3) := ⟨⟨l, p, s, i, ks, j, B', cb', D, d, HD6.out, HDB.out, hd, by omega, hB2, hK, fun g0 o e => by have := hKg g0 o e; omega⟩⟩
        clear hd hS2 hB2 hgr hK hKg
        go_wp2_with fail
        exact ⟨⟨3, by omega, by go_num, HST, HZ2, HF2, hbw2, hsz2⟩, by simp [intOf]⟩
    · obtain ⟨l, p, s, i, ks, j, B, cb, D, d, hd6, hdb, hdl, hpn, hB, hK, hKg⟩ := HS.out
      have cf := HF.out.cell (j := 3) (v := .func (.func 108) #[.pointer (some ⟨w.heap.size + 1, 0, none⟩)] #[]) (by rw [← HFS.out]; rfl)
      have hsl : s.length ≤ 9223372036854775807 := by
        have h1 := (enc_of_decBytes hdb).2.2
        have h2 : (2 : Nat) ^ 63 = 9223372036854775808 := by decide
        omega
      have hT2 : Tab wr 0 rowsV := HT.out.below hbw hg
      have hcall := reader_end (w.heap.size + 1) (cmdOf l s ks) D ks.length d B (n - (p + i + j)) cb (by omega) wr hB hK hsl (cmdOf_kind (dec6_in 6 0 l p hd6) s ks) hT2
      have hlen : bs.length = n := by
        have h2 := hrd.len
        rw [bv_length, Nat.mul_one] at h2
        exact h2
      have hdec : decCmd bs = (if p + i + j < n then .error 6 else if check (cmdOf l s ks) = 0 then .ok (cmdOf l s ks) else .error (check (cmdOf l s ks))) := by
        unfold decCmd; rw [hd6]; simp only; rw [hdb]; simp only; rw [hdl]; simp only; rw [hlen]
      have HC := Shut.mk hcall
      have HB := Shut.mk hB
      have HK := Shut.mk hK
      have HKG := Shut.mk hKg
      clear hcall hB HS hd6 hdb hdl hT2 hlen hK hKg
      have HDEC := Shut.mk hdec
      clear hdec
      go_wp2_with fail
      refine HC.out.mono ?_
      rintro e w2 ⟨rfl, hbe⟩
      have HZ2 := Shut.mk (HZ.out.below hbe)
      have HF2 := Shut.mk (HF.out.below hbe)
      have HB2 := Shut.mk (HB.out.below hbe)
      have HK2 := Shut.mk (HK.out.below hbe)
      have hbw2 := hbw.trans (hbe.mono hbw.size)
      have hsz2 : w.heap.size + 3 ≤ w2.heap.size := by have := hbe.size; omega
      clear cf HC HB HK
      have hdec := HDEC.out
      clear HDEC
      by_cases hm0 : 0 < n - (p + i + j)
      · rw [if_pos hm0]
        rw [if_pos (by omega)] at hdec
        have HDEC := Shut.mk hdec
        clear hdec
        go_wp2_with (with_reducible refine stop_store ?_)
        refine at_store_blk aggC (vs := cmdV zeroCmd none 0 0) rfl rfl rfl rfl HZ2.out (by decide +kernel) ?_
        intro hB2
        go_wp2_with fail
        refine ret_blk_tmp rfl aggC rfl rfl hB2 rfl ⟨below_setRow hbw2 (Nat.le_refl _) _, ?_⟩
        rw [HDEC.out]
        rfl
      · rw [if_neg hm0]
        rw [if_neg (by omega)] at hdec
        have hn0 : n - (p + i + j) = 0 := by omega
        by_cases hck : check (cmdOf l s ks) = 0
        · rw [if_pos hck] at hdec
          rw [hck]
          have HST : Shut (stg bs A n c (w.heap.size + 1) w2 4) := ⟨⟨cmdOf l s ks, D, d, B, n - (p + i + j), cb, hdec, HB2.out, HK2.out, HKG.out⟩⟩
          clear hdec hck HB2 HK2
          go_wp2_with fail
          exact ⟨⟨4, by omega, by go_num, HST, HZ2, HF2, hbw2, hsz2⟩, by simp [intOf]⟩
        · rw [if_neg hck] at hdec
          have HDEC := Shut.mk hdec
          clear hdec
          generalize hcc : check (cmdOf l s ks) = cc at *
          have g0 : ((cc : Int) != 0) = true := by simp; omega
          go_wp2_with (with_reducible refine stop_store ?_)
          refine at_store_blk aggC (vs := cmdV zeroCmd none 0 0) rfl rfl rfl rfl HZ2.out (by decide +kernel) ?_
          intro hB2
          go_wp2_with fail
          refine ret_blk_tmp rfl aggC rfl rfl hB2 rfl ⟨below_setRow hbw2 (Nat.le_refl _) _, ?_⟩
          rw [HDEC.out]
          rfl
    · obtain ⟨cm, D, d, B, m, cb, hdec, hB, hK, hKg⟩ := HS.out
      have HDEC := Shut.mk hdec
      have HB := Shut.mk hB
      have HK := Shut.mk hK
      have HKG := Shut.mk hKg
      clear HS hdec hB hK hKg
      go_wp2_with (with_reducible refine stop_load (t := 24) ?_)
      refine at_load_agg aggC (g := w.heap.size + 1) (o := 0) (cs := cmdV cm D cm.list.length d) rfl rfl (fun j v hj => by
        rw [Nat.zero_add]
        refine HB.out.cell ?_
        have hlt : j < 8 := (List.getElem?_eq_some_iff.1 hj).1
        show (cmdV cm D cm.list.length d ++ [Value.slice B m cb])[j]? = some v
        rw [List.getElem?_append_left hlt]; exact hj) ?_
      go_wp2_with (with_reducible refine stop_store ?_)
      refine at_store_blk aggC (vs := cmdV cm D cm.list.length d) rfl rfl rfl rfl HZ.out (cmdV_one cm D cm.list.length d) ?_
      intro hB2
      go_wp2_with fail
      refine ret_blk_tmp rfl aggC rfl rfl hB2 rfl ⟨below_setRow hbw (Nat.le_refl _) _, ?_⟩
      rw [HDEC.out]
      refine ⟨D, cm.list.length, d, rfl, ?_⟩
      exact HK.out.setRow _ fun g0 o e h => by have := HKG.out g0 o e; omega
end Go.Proofs.YtedegedceeefdaaDoor

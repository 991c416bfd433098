/- Parts of the proof: Hd, He, Hf, Kg. -/
import Derived.Test.YtedegedceeefdaaDoorJHc
import Derived.Test.YtedegedceeefdaaDoorJPL
import Derived.StillTailTactics
import Derived.Test.YtedegedceeefdaaDoorJKK
import Derived.Test.YtedegedceeefdaaDoorJWW
set_option linter.all false
set_option linter.unusedVariables false
set_option linter.unusedSimpArgs false
set_option linter.unnecessarySimpa false
set_option linter.deprecated false
/-! Walks: package hash, streams. -/
namespace Go.Cw
open Go.RowKit
section
variable {P : Program} {ops : Array Oper} {Q : Exit → Act → World → Prop} {rest : List Oper} {a : Act} {w : World} {d : Option Tmp} {ty : TypeId} {pos : String} {af : Array Edge}
theorem bv_one' (xs : List UInt8) : ∀ u ∈ bv xs, u.oneCell' = true := by
  intro u hu
  obtain ⟨_, _, rfl⟩ := List.mem_map.1 hu
  rfl
theorem run_copy_str {dT sT ty e : TypeId} {g o dLen dCap : Nat} {s : ByteArray} {T' : TypeId} {cs : List Value} (hu : P.underlying dT = some (.slice e)) (hi : (P.info? e).map (·.size) = some 1) (hb : Blk w g T' cs) (hfit : o + Nat.min s.size dLen ≤ cs.length) :
    (Builtin.copy_ #[dT, sT] ty #[.slice (some ⟨g, o, none⟩) dLen dCap, .string s]).run P w =
      .ok (goInt (Nat.min s.size dLen)) (w.setRow g (cs.take o ++ bv ((sb s).take (Nat.min s.size dLen)) ++ cs.drop (o + Nat.min s.size dLen)).toArray) := by
  have hl : (bv ((sb s).take (Nat.min s.size dLen))).length = Nat.min s.size dLen := by
    rw [bv_length, List.length_take, sb_length]; exact Nat.min_eq_left (Nat.min_le_left _ _)
  have hst := run_storeCells_at P g o T' (bv ((sb s).take (Nat.min s.size dLen))) 0 cs.toArray w hb (by simp only [Nat.add_zero, hl]; simpa using hfit) (bv_one' _)
  simp only [Nat.add_zero, hl] at hst
  have hc : ((s.extract 0 (Nat.min s.size dLen)).data.map fun b => Value.int .u8 (b.toNat : Int)).toList = bv ((sb s).take (Nat.min s.size dLen)) := by
    simp [bv, sb]
  cases hq : P.info? e with
  | none => simp [hq] at hi
  | some i =>
    have hi' : i.size = 1 := by simpa [hq] using hi
    simp [Builtin.copy_, run_underlying hu, Builtin.lenOf, Builtin.firstCells, sizeOf, typeInfo, hq, hi']
    have hst' := hst
    rw [← hc] at hst' ⊢
    simpa using congrArg (fun r => r.andThen fun _ w' => Result.ok (goInt (Nat.min s.size dLen)) w') hst'
theorem at_copy_str {x y : Operand} {dT sT e : TypeId} {g o dLen dCap : Nat} {s : ByteArray} {T' : TypeId} {cs : List Value} (hx : a.eval x = .slice (some ⟨g, o, none⟩) dLen dCap) (hy : a.eval y = .string s)
    (hu : P.underlying dT = some (.slice e)) (hi : (P.info? e).map (·.size) = some 1) (hb : Blk w g T' cs) (hfit : o + Nat.min s.size dLen ≤ cs.length)
    (k : Blk (w.setRow g (cs.take o ++ bv ((sb s).take (Nat.min s.size dLen)) ++ cs.drop (o + Nat.min s.size dLen)).toArray) g T' (cs.take o ++ bv ((sb s).take (Nat.min s.size dLen)) ++ cs.drop (o + Nat.min s.size dLen)) →
      wpList P ops Q rest (a.put d (goInt (Nat.min s.size dLen))) (w.setRow g (cs.take o ++ bv ((sb s).take (Nat.min s.size dLen)) ++ cs.drop (o + Nat.min s.size dLen)).toArray)) :
    StopAt P ops Q ⟨d, .call { callee := .builtin .copy, args := #[x, y], argTypes := #[dT, sT] }, ty, pos, af, none⟩ rest a w := by
  refine wpList_plain rfl fun K hK => ?_
  unfold Oper.wp execOp
  simp only [resolve, invoke, builtin, Sem.run_bind, Sem.run_pure, Result.andThen_ok, List.map_toArray, List.map_cons, List.map_nil, hx, hy, run_copy_str hu hi hb hfit]
  exact hK _ _ (k hb.setRow)
end
end Go.Cw
namespace Go.Proofs.YtedegedceeefdaaDoor
open Go.RowKit Go.Cw Cu
set_option maxRecDepth 100000
set_option maxHeartbeats 1000000
set_option linter.unusedVariables false
set_option linter.unusedSimpArgs false
theorem aggT : AggT Tryd.prog 186 73 := ⟨by kernel_rfl, by kernel_rfl⟩
/-- A stream's cells: its message is M. -/
def strm (h : St) (blk : List UInt8) (n : Nat) : List Value := uv h.list ++ bv blk ++ [.int .u64 ((n % 18446744073709551616 : Nat) : Int)]
theorem hash_Begin (w : World) : Calls Tryd.prog 153 #[] w fun e w' => e = .returned (.agg (strm init (List.replicate 64 0) 0).toArray) ∧ Below w.heap.size w w' := by
  go_enter Tryd.func153, Tryd.ntmps153
  go_wp2_with (with_reducible refine stop_store ?_)
  have hB : Blk (w.alloc (.cells Tryd.zeroCells186 186)) w.heap.size 186 Tryd.zeroCells186.toList := Blk.new w _ Tryd.zeroCells186.toList
  have hbw := below_alloc w (.cells Tryd.zeroCells186 186)
  refine at_store_blk aggT (vs := strm init (List.replicate 64 0) 0) rfl (by kernel_rfl) (by kernel_rfl) (by kernel_rfl) hB (by decide +kernel) ?_
  intro hB2
  go_wp2_with fail
  exact ret_blk rfl aggT rfl (by kernel_rfl) hB2 rfl ⟨rfl, below_setRow hbw (Nat.le_refl _) _⟩
theorem strm_n (h : St) (blk : List UInt8) (n : Nat) (hb : blk.length = 64) : (strm h blk n)[72]? = some (.int .u64 ((n % 18446744073709551616 : Nat) : Int)) := by
  have hl : (uv h.list ++ bv blk).length = 72 := by simp [uv, bv, St.list, hb]
  unfold strm
  rw [List.getElem?_append_right (by omega), hl]
  rfl
theorem strm_put (h : St) (blk : List UInt8) (n i : Nat) (xs : List UInt8) (hb : blk.length = 64) (hi : i + xs.length ≤ 64) :
    (strm h blk n).take (8 + i) ++ bv xs ++ (strm h blk n).drop (8 + i + xs.length) = strm h (Cu.put blk i xs) n := by
  have hl : (uv h.list).length = 8 := by simp [uv, St.list]
  have hb' : (bv blk).length = 64 := by rw [bv_length, hb]
  unfold strm
  rw [List.append_assoc (uv h.list) (bv blk), show 8 + i = (uv h.list).length + i by omega, List.take_length_add_append, List.take_append_of_le_length (by omega),
    show (uv h.list).length + i + xs.length = (uv h.list).length + (i + xs.length) by omega, List.drop_length_add_append, List.drop_append_of_le_length (by omega)]
  simp [Cu.put, bv, List.map_take, List.map_drop]
theorem strm_set (h : St) (blk : List UInt8) (n m : Nat) (hb : blk.length = 64) : (strm h blk n).set 72 (.int .u64 ((m % 18446744073709551616 : Nat) : Int)) = strm h blk m := by
  have hl : (uv h.list ++ bv blk).length = 72 := by simp [uv, bv, St.list, hb]
  unfold strm
  rw [List.set_append_right _ _ (by omega), hl]
  rfl
theorem sb_extract (u : ByteArray) (k : Nat) : sb (u.extract k u.size) = (sb u).drop k := by
  have h : (u.extract k u.size).data = u.data.extract k u.size := by simp
  unfold sb
  rw [h, Array.toList_extract]
  simp [List.extract]
  rw [List.take_of_length_le (by simp)]
theorem strm_state (h h2 : St) (blk : List UInt8) (n : Nat) : (strm h blk n).take 0 ++ uv h2.list ++ (strm h blk n).drop (0 + 8) = strm h2 blk n := by
  have hl : (uv h.list).length = 8 := by simp [uv, St.list]
  unfold strm
  rw [List.take_zero, List.nil_append, Nat.zero_add, List.append_assoc, ← hl, List.drop_left, List.append_assoc]
theorem strm_blk (h : St) (blk : List UInt8) (n j : Nat) (v : Value) (hj : (bv blk)[j]? = some v) : (strm h blk n)[8 + j]? = some v := by
  have hl : (uv h.list).length = 8 := by simp [uv, St.list]
  have hj' : j < (bv blk).length := (List.getElem?_eq_some_iff.1 hj).1
  unfold strm
  rw [List.append_assoc, List.getElem?_append_right (by omega), hl, show 8 + j - 8 = j by omega, List.getElem?_append_left hj', hj]
theorem absorbF_lt (k : Nat) : ∀ (s : St) (m : List UInt8), St.Lt s → St.Lt (absorbF k s m).1 := by
  induction k with
  | zero => intro s m h; exact h
  | succ k ih =>
    intro s m h
    simp only [absorbF]
    split
    · exact ih _ _ (compress_lt _ _)
    · exact h
theorem init_lt : St.Lt init := by unfold St.Lt; decide
theorem rp_lt {h : St} {blk M : List UInt8} (hR : Rp h blk M) : St.Lt h := by rw [hR.st]; exact absorbF_lt _ _ _ init_lt
theorem hash_Add (h : St) (blk M : List UInt8) (hR : Rp h blk M) (t : ByteArray) (w : World) (ht : Tab w 4 (uv ks)) :
    Calls Tryd.prog 154 #[.agg (strm h blk M.length).toArray, .string t] w fun e w' => ∃ h' blk', e = .returned (.agg (strm h' blk' (M ++ sb t).length).toArray) ∧ Rp h' blk' (M ++ sb t) ∧ Below w.heap.size w w' := by
  generalize hks : ks = kk at ht
  have HKK := Shut.mk hks
  clear hks
  have HR := Shut.mk hR
  clear hR
  go_enter Tryd.func154, Tryd.ntmps154
  go_wp2_with fail
  have hA := below_alloc w (.cells (strm h blk M.length).toArray 186)
  have hB := below_alloc (w.alloc (.cells (strm h blk M.length).toArray 186)) (.cells Tryd.zeroCells186 186)
  have hz : (w.alloc (.cells (strm h blk M.length).toArray 186)).heap.size = w.heap.size + 1 := by simp
  have hb1 : Blk ((w.alloc (.cells (strm h blk M.length).toArray 186)).alloc (.cells Tryd.zeroCells186 186)) w.heap.size 186 (strm h blk M.length) := (Blk.new w _ _).alloc _
  have hb2 : Blk ((w.alloc (.cells (strm h blk M.length).toArray 186)).alloc (.cells Tryd.zeroCells186 186)) (w.heap.size + 1) 186 Tryd.zeroCells186.toList := by
    rw [← hz]; exact Blk.new (w.alloc (.cells (strm h blk M.length).toArray 186)) _ Tryd.zeroCells186.toList
  rw [hz] at hB
  have hbw : Below w.heap.size w ((w.alloc (.cells (strm h blk M.length).toArray 186)).alloc (.cells Tryd.zeroCells186 186)) := hA.trans (hB.mono (by omega))
  have HB := Shut.mk hb1
  have HC := Shut.mk hb2
  clear hA hB hz hb1 hb2
  generalize (w.alloc (.cells (strm h blk M.length).toArray 186)).alloc (.cells Tryd.zeroCells186 186) = w1 at *
  go_loopw [1] (fun i wr => ∃ (u : ByteArray) (D : List UInt8) (h' : St) (blk' : List UInt8), i = .string u ∧ Shut (D ++ sb u = sb t) ∧ Shut (Rp h' blk' (M ++ D)) ∧ Shut (Blk wr w.heap.size 186 (strm h' blk' (M ++ D).length)) ∧
    Shut (Blk wr (w.heap.size + 1) 186 Tryd.zeroCells186.toList) ∧ Below w.heap.size w wr) (fun i _ => match i with | .string u => u.size | _ => 0)
  case atStart => exact ⟨t, [], h, blk, rfl, ⟨rfl⟩, ⟨by rw [List.append_nil]; exact HR.out⟩, ⟨by rw [List.append_nil]; exact HB.out⟩, HC, hbw⟩
  case round =>
    clear HB HC hbw HR
    obtain ⟨u, D, h', blk', rfl, HD, HR, HB, HC, hbw⟩ := hrel
    by_cases hu : u.size = 0
    · have g1 : u.toList.isEmpty = true := by rw [ByteArray.toList_eq]; have : u.data.toList.length = 0 := by simpa using hu
                                              cases hl : u.data.toList with
                                              | nil => rfl
                                              | cons x xs => rw [hl] at this; simp at this
      have hsb : sb u = [] := List.length_eq_zero_iff.1 (by rw [sb_length]; exact hu)
      have HD2 : D = sb t := by have h := HD.out; rwa [hsb, List.append_nil] at h
      subst HD2
      have hl1 : (strm h' blk' (M ++ sb t).length).length = 73 := by simp [strm, uv, bv, St.list, HR.out.len]
      have hone : ∀ v ∈ strm h' blk' (M ++ sb t).length, v.oneCell' = true := by
        intro v hv
        simp only [strm, List.mem_append, List.mem_singleton] at hv
        rcases hv with (hv | hv) | rfl
        · exact uv_one _ v hv
        · exact bv_one' _ v hv
        · rfl
      have HONE := Shut.mk hone
      clear hone hsb HD
      go_wp2_with (first | (with_reducible refine stop_load ?_) | (with_reducible refine stop_store ?_))
      refine at_load_blk aggT rfl hl1 HB.out ?_
      go_wp2_with (first | (with_reducible refine stop_load ?_) | (with_reducible refine stop_store ?_))
      refine at_store_blk aggT rfl rfl hl1 (by kernel_rfl) HC.out HONE.out ?_
      intro hB2
      go_wp2_with fail
      exact ret_blk rfl aggT rfl hl1 hB2 rfl ⟨h', blk', rfl, HR.out, below_setRow hbw (by omega) _⟩
    · have g1 : u.toList.isEmpty = false := by
        rw [ByteArray.toList_eq]
        have : u.data.toList.length ≠ 0 := by simpa using hu
        cases hl : u.data.toList with
        | nil => rw [hl] at this; simp at this
        | cons x xs => rfl
      have c72 := HB.out.cell (strm_n h' blk' (M ++ D).length HR.out.len)
      obtain ⟨N, hN⟩ : ∃ N, N = (M ++ D).length % 18446744073709551616 := ⟨_, rfl⟩
      obtain ⟨at_, hat⟩ : ∃ at_, at_ = (M ++ D).length % 64 := ⟨_, rfl⟩
      rw [← hN] at c72
      have hrem : (N : Int) % 64 = (at_ : Int) := by rw [hN, hat]; omega
      have hat64 : at_ < 64 := by omega
      have HN := Shut.mk hN
      have HAT := Shut.mk hat
      clear hN hat
      have b0 : (0 : Int) ≤ (at_ : Int) := by omega
      have b1 : (at_ : Int) ≤ 64 := by omega
      go_wp2_with (with_reducible refine stop_copy ?_)
      obtain ⟨kn, hkn⟩ : ∃ kn, kn = Nat.min u.size (64 - at_) := ⟨_, rfl⟩
      have hk1 : kn ≤ u.size := by rw [hkn]; exact Nat.min_le_left _ _
      have hk2 : at_ + kn ≤ 64 := by have h : kn ≤ 64 - at_ := by rw [hkn]; exact Nat.min_le_right _ _
                                     omega
      have hk0 : 0 < kn := by
        rw [hkn]; exact Nat.lt_min.2 ⟨by omega, by omega⟩
      have hsx : ((sb u).take kn).length = kn := by rw [List.length_take, sb_length]; omega
      have hl1 : (strm h' blk' (M ++ D).length).length = 73 := by simp [strm, uv, bv, St.list, HR.out.len]
      have hput := strm_put h' blk' (M ++ D).length at_ ((sb u).take kn) HR.out.len (by omega)
      rw [hsx] at hput
      refine at_copy_str rfl rfl Tryd.underlying33 (by kernel_rfl) HB.out (by rw [← hkn]; omega) ?_
      rw [← hkn, hput]
      intro hB2
      have hbr := below_setRow hbw (Nat.le_refl _) (strm h' (Cu.put blk' at_ ((sb u).take kn)) (M ++ D).length).toArray
      have HC2 := Shut.mk (HC.out.setRow_other (g' := w.heap.size) (by omega) (strm h' (Cu.put blk' at_ ((sb u).take kn)) (M ++ D).length).toArray)
      have hlp : (Cu.put blk' at_ ((sb u).take kn)).length = 64 := by rw [Cu.put_length _ _ _ (by rw [hsx, HR.out.len]; omega), HR.out.len]
      have c72' := hB2.cell (strm_n h' (Cu.put blk' at_ ((sb u).take kn)) (M ++ D).length hlp)
      have f72' := hB2.free 72
      have HB2 := Shut.mk hB2
      rw [← HN.out] at c72'
      clear HB HC hbw c72 hB2 hput hl1
      generalize wr.setRow w.heap.size (strm h' (Cu.put blk' at_ ((sb u).take kn)) (M ++ D).length).toArray = wa at *
      have hgo : goInt kn = .int .i64 (kn : Int) := rfl
      rw [hgo]
      have hku : (kn : Int) ≤ (u.size : Int) := by omega
      have hk00 : (0 : Int) ≤ (kn : Int) := by omega
      have HKN := Shut.mk hkn
      have HSX := Shut.mk hsx
      clear hkn hsx hgo
      have hext : sb (u.extract kn u.size) = (sb u).drop kn := sb_extract u kn
      have HE := Shut.mk hext
      have hde : (D ++ (sb u).take kn) ++ sb (u.extract kn u.size) = sb t := by rw [hext, List.append_assoc, List.take_append_drop]; exact HD.out
      have HDE := Shut.mk hde
      have hlen2 : (M ++ (D ++ (sb u).take kn)).length = (M ++ D).length + kn := by simp only [List.length_append, HSX.out]; omega
      have hw72 : IntKind.u64.wrap ((N : Int) + (kn : Int)) = ((((M ++ D).length + kn) % 18446744073709551616 : Nat) : Int) := by
        rw [HN.out]; simp [IntKind.wrap, IntKind.bits, IntKind.signed]
      have HL2 := Shut.mk hlen2
      have HW72 := Shut.mk hw72
      clear hext hde hlen2 hw72
      by_cases hfull : at_ + kn = 64
      · have g2 : ((at_ : Int) + (kn : Int) == 64) = true := by simp; omega
        go_wp2_with fail
        rw [HW72.out]
        have hB3 := HB2.out.set 72 (.int .u64 ((((M ++ D).length + kn) % 18446744073709551616 : Nat) : Int))
        rw [strm_set _ _ _ _ hlp, ← HL2.out] at hB3
        rw [← HL2.out]
        have hlt := rp_lt HR.out
        have hrp := rp_full h' blk' (M ++ D) ((sb u).take kn) HR.out (by rw [HSX.out, ← HAT.out]; omega)
        rw [← HAT.out, List.append_assoc] at hrp
        have HRP := Shut.mk hrp
        have hbr3 := hbr.setCell (p := ⟨w.heap.size, 72, none⟩) (by simp) (.int .u64 (((M ++ (D ++ (sb u).take kn)).length % 18446744073709551616 : Nat) : Int))
        have HC3 := Shut.mk (HC2.out.other (g' := w.heap.size) (by omega) 72 (.int .u64 (((M ++ (D ++ (sb u).take kn)).length % 18446744073709551616 : Nat) : Int)))
        clear hrp HC2 HB2 hbr c72' f72' HR
        generalize wa.setCell ⟨w.heap.size, 72, none⟩ (.int .u64 (((M ++ (D ++ (sb u).take kn)).length % 18446744073709551616 : Nat) : Int)) = wb at *
        generalize hLL : (M ++ (D ++ (sb u).take kn)).length = L at *
        have HLL := Shut.mk hLL
        clear hLL
        generalize Cu.put blk' at_ ((sb u).take kn) = bp at *
        have HB3 := Shut.mk hB3
        have c0 := hB3.cell (j := 0) (v := .int .u32 h'.a) rfl
        have c1 := hB3.cell (j := 1) (v := .int .u32 h'.b) rfl
        have c2 := hB3.cell (j := 2) (v := .int .u32 h'.c) rfl
        have c3 := hB3.cell (j := 3) (v := .int .u32 h'.d) rfl
        have c4 := hB3.cell (j := 4) (v := .int .u32 h'.e) rfl
        have c5 := hB3.cell (j := 5) (v := .int .u32 h'.f) rfl
        have c6 := hB3.cell (j := 6) (v := .int .u32 h'.g) rfl
        have c7 := hB3.cell (j := 7) (v := .int .u32 h'.h) rfl
        clear hB3
        go_still_tail 4, (by kernel_rfl)
        clear c0 c1 c2 c3 c4 c5 c6 c7
        change wpList _ _ _ _ _ wb.drew
        have hdq : Drw wb wb.drew := ⟨1, rfl⟩
        replace HB3 := Shut.mk (HB3.out.drw hdq)
        replace HC3 := Shut.mk (HC3.out.drw hdq)
        replace hbr3 := below_then hbr3 (Drw.below hdq) hbr3.size
        clear hdq
        generalize wb.drew = wc at *
        go_wp2_with fail
        have hg : 4 < w.heap.size := ht.lt (by rw [← HKK.out]; rfl)
        have hrd : Rd wc (some ⟨w.heap.size, 8, none⟩) 64 1 (bv bp) := ⟨by rw [bv_length, hlp], by omega, fun _ => ⟨w.heap.size, 8, rfl, fun j v hj => HB3.out.cell (strm_blk h' bp L j v hj)⟩⟩
        refine (hash_compress h' hlt bp hlp (some ⟨w.heap.size, 8, none⟩) 64 (by omega) wc hrd (by rw [HKK.out]; exact ht.below hbr3 hg)).mono ?_
        rintro e w3 ⟨rfl, hw3⟩
        have hlt3 := HB3.out.lt
        have hlt4 := HC3.out.lt
        replace HB3 := Shut.mk (HB3.out.below hw3)
        replace HC3 := Shut.mk (HC3.out.below hw3)
        replace hbr3 := hbr3.trans (hw3.mono (by have := hbr3.size; omega))
        clear hw3 hrd
        generalize hcc : compress h' bp = hc at *
        go_wp2_with (with_reducible refine stop_store ?_)
        have hl8 : (uv hc.list).length = 8 := by simp [uv, St.list]
        refine at_store_part aggS rfl rfl hl8 HB3.out (by simp [strm, uv, bv, St.list, hlp]) (uv_one _) ?_
        rw [strm_state]
        have hB4 := HB3.out.setRow (vs := strm hc bp L)
        have hC4 := HC3.out.setRow_other (g' := w.heap.size) (by omega) (strm hc bp L).toArray
        have hbr4 := below_setRow hbr3 (Nat.le_refl _) (strm hc bp L).toArray
        have HB4 := Shut.mk hB4
        have HC4 := Shut.mk hC4
        clear hB4 hC4 HB3 HC3 hbr3
        generalize w3.setRow w.heap.size (strm hc bp L).toArray = wd at *
        go_wp2_with fail
        refine ⟨⟨u.extract kn u.size, D ++ (sb u).take kn, hc, bp, rfl, HDE, HRP, ?_, HC4, hbr4⟩, ?_⟩
        · rw [HLL.out]; exact HB4
        show (u.extract kn u.size).size < u.size
        rw [ByteArray.size_extract]
        omega
      · have g2 : ((at_ : Int) + (kn : Int) == 64) = false := by simp; omega
        go_wp2_with fail
        rw [HW72.out]
        have hB3 := HB2.out.set 72 (.int .u64 ((((M ++ D).length + kn) % 18446744073709551616 : Nat) : Int))
        rw [strm_set _ _ _ _ hlp, ← HL2.out] at hB3
        rw [← HL2.out]
        have hrp := rp_small h' blk' (M ++ D) ((sb u).take kn) HR.out (by rw [HSX.out, ← HAT.out]; omega)
        rw [← HAT.out, List.append_assoc] at hrp
        refine ⟨⟨u.extract kn u.size, D ++ (sb u).take kn, h', Cu.put blk' at_ ((sb u).take kn), rfl, HDE, ⟨hrp⟩, ⟨hB3⟩, ⟨HC2.out.other (by omega) _ _⟩, hbr.setCell (by simp) _⟩, ?_⟩
        show (u.extract kn u.size).size < u.size
        rw [ByteArray.size_extract]
        omega
end Go.Proofs.YtedegedceeefdaaDoor
/-! Walks: package hash, the end of a stream. -/
namespace Go.Proofs.YtedegedceeefdaaDoor
open Go.RowKit Go.Cw Cu
set_option maxRecDepth 100000
set_option maxHeartbeats 1000000
set_option linter.unusedVariables false
set_option linter.unusedSimpArgs false
theorem aggH : AggT Tryd.prog 158 32 := ⟨by kernel_rfl, by kernel_rfl⟩
/-- The length's eight bytes. -/
def lenB (n : Nat) : List UInt8 := [56, 48, 40, 32, 24, 16, 8, 0].map fun k => UInt8.ofNat ((8 * n) / 2 ^ k)
theorem lenB_at (n t : Nat) (ht : t < 8) : (lenB n)[t]? = some (UInt8.ofNat ((8 * n) / 2 ^ (56 - 8 * t))) := by
  obtain rfl | rfl | rfl | rfl | rfl | rfl | rfl | rfl : t = 0 ∨ t = 1 ∨ t = 2 ∨ t = 3 ∨ t = 4 ∨ t = 5 ∨ t = 6 ∨ t = 7 := by omega
  all_goals rfl
theorem strm_one (h : St) (blk : List UInt8) (n : Nat) : ∀ v ∈ strm h blk n, v.oneCell' = true := by
  intro v hv
  simp only [strm, List.mem_append, List.mem_singleton] at hv
  rcases hv with (hv | hv) | rfl
  · exact uv_one _ v hv
  · exact bv_one' _ v hv
  · rfl
def outL (h : St) (t : Nat) : List UInt8 := (h.list.flatMap outWord).take t ++ List.replicate (32 - t) 0
theorem out_length (h : St) : (h.list.flatMap outWord).length = 32 := rfl
theorem out_byte (h : St) (t : Nat) (ht : t < 32) : (h.list.flatMap outWord)[t]? = some (UInt8.ofNat (h.list.getD (t / 4) 0 / 2 ^ (24 - 8 * (t % 4)))) := by
  obtain ⟨q, r, rfl, hq, hr⟩ : ∃ q r, t = 4 * q + r ∧ q < 8 ∧ r < 4 := ⟨t / 4, t % 4, by omega, by omega, by omega⟩
  rw [show (4 * q + r) / 4 = q by omega, show (4 * q + r) % 4 = r by omega]
  obtain rfl | rfl | rfl | rfl | rfl | rfl | rfl | rfl : q = 0 ∨ q = 1 ∨ q = 2 ∨ q = 3 ∨ q = 4 ∨ q = 5 ∨ q = 6 ∨ q = 7 := by omega
  all_goals
    obtain rfl | rfl | rfl | rfl : r = 0 ∨ r = 1 ∨ r = 2 ∨ r = 3 := by omega
    all_goals simp [St.list, outWord]
theorem outL_at (h : St) (t : Nat) (ht : t < 32) : (bv (outL h t))[t]? = some (.int .u8 0) := by
  unfold outL bv
  rw [List.getElem?_map, List.getElem?_append_right (by rw [List.length_take, out_length]; omega), List.length_take, out_length, Nat.min_eq_left (by omega), Nat.sub_self, List.getElem?_replicate, if_pos (by omega)]
  rfl
theorem outL_set (h : St) (t : Nat) (ht : t < 32) (x : UInt8) (hx : (h.list.flatMap outWord)[t]? = some x) : (bv (outL h t)).set t (.int .u8 (x.toNat : Int)) = bv (outL h (t + 1)) := by
  have hl : (bv ((h.list.flatMap outWord).take t)).length = t := by rw [bv_length, List.length_take, out_length]; omega
  unfold outL
  rw [bv_append, bv_append, List.set_append_right _ _ (by omega), hl, Nat.sub_self, List.take_add_one, hx, show 32 - t = (32 - (t + 1)) + 1 by omega, List.replicate_succ, bv_append]
  simp [bv]
theorem outL_end (h : St) : outL h 32 = h.list.flatMap outWord := by
  unfold outL
  rw [List.take_of_length_le (by rw [out_length]; omega)]
  simp
theorem strm_st (h : St) (blk : List UInt8) (n j : Nat) (hj : j < 8) : (strm h blk n)[j]? = some (.int .u32 ((h.list.getD j 0 : Nat) : Int)) := by
  obtain rfl | rfl | rfl | rfl | rfl | rfl | rfl | rfl : j = 0 ∨ j = 1 ∨ j = 2 ∨ j = 3 ∨ j = 4 ∨ j = 5 ∨ j = 6 ∨ j = 7 := by omega
  all_goals rfl
theorem hash_StreamSum (h : St) (blk M : List UInt8) (hR : Rp h blk M) (hM : M.length < 1152921504606846976) (w : World) (ht : Tab w 4 (uv ks)) :
    Calls Tryd.prog 155 #[.agg (strm h blk M.length).toArray] w fun e w' => e = .returned (.agg (bv (sha M)).toArray) ∧ Below w.heap.size w w' := by
  generalize hres : sha M = res
  have HRES := Shut.mk hres
  clear hres
  have HT := Shut.mk ht
  clear ht
  have HR := Shut.mk hR
  clear hR
  have hnm : M.length % 18446744073709551616 = M.length := by omega
  have hlp := HR.out.len
  have hc72 := strm_n h blk M.length HR.out.len
  rw [hnm] at hc72
  go_enter Tryd.func155, Tryd.ntmps155
  have hw8 : IntKind.u64.wrap (8 * (M.length : Int)) = 8 * (M.length : Int) := by simp [IntKind.wrap, IntKind.bits, IntKind.signed]; omega
  go_wp2_with fail
  have hA := below_alloc w (.cells (strm h blk M.length).toArray 186)
  have hB := below_alloc (w.alloc (.cells (strm h blk M.length).toArray 186)) (.cells (bv (List.replicate 32 0)).toArray 158)
  have hz : (w.alloc (.cells (strm h blk M.length).toArray 186)).heap.size = w.heap.size + 1 := by simp
  have hb1 : Blk ((w.alloc (.cells (strm h blk M.length).toArray 186)).alloc (.cells (bv (List.replicate 32 0)).toArray 158)) w.heap.size 186 (strm h blk M.length) := (Blk.new w _ _).alloc _
  have hb2 : Blk ((w.alloc (.cells (strm h blk M.length).toArray 186)).alloc (.cells (bv (List.replicate 32 0)).toArray 158)) (w.heap.size + 1) 158 (bv (List.replicate 32 0)) := by
    rw [← hz]; exact Blk.new (w.alloc (.cells (strm h blk M.length).toArray 186)) _ (bv (List.replicate 32 0))
  rw [hz] at hB
  have hbw : Below w.heap.size w ((w.alloc (.cells (strm h blk M.length).toArray 186)).alloc (.cells (bv (List.replicate 32 0)).toArray 158)) := hA.trans (hB.mono (by omega))
  have hz2 : ((w.alloc (.cells (strm h blk M.length).toArray 186)).alloc (.cells (bv (List.replicate 32 0)).toArray 158)).heap.size = w.heap.size + 2 := by simp
  clear hA hB hz
  change Code.wp _ _ _ _ (((w.alloc (.cells (strm h blk M.length).toArray 186)).alloc (.cells (bv (List.replicate 32 0)).toArray 158)).alloc (.cells (bv [128]).toArray 5))
  generalize (w.alloc (.cells (strm h blk M.length).toArray 186)).alloc (.cells (bv (List.replicate 32 0)).toArray 158) = w1 at *
  have hown0 : (w1.alloc (.cells (bv [128]).toArray 5)).ownsRow (w.heap.size + 2) 5 1 (.slice (some ⟨w.heap.size + 1 + 1, 0, none⟩) 1 1) 1 (bv [128]) := by
    have h := own_lit (w := w1) (base := w.heap.size + 2) (cs := bv [128]) (e := 5) (n := 1) (size := 1) (by omega) rfl (by omega)
    rw [hz2] at h
    exact h
  have hbp : Below (w.heap.size + 2) w1 (w1.alloc (.cells (bv [128]).toArray 5)) := by have h := below_alloc w1 (.cells (bv [128]).toArray 5); rwa [hz2] at h
  obtain ⟨z, hz⟩ : ∃ z, z = (119 - M.length % 64) % 64 := ⟨_, rfl⟩
  have HZ := Shut.mk hz
  have HB1 := Shut.mk hb1
  have HB2 := Shut.mk hb2
  clear hz hb1 hb2
  go_loopw [4] (fun i wr => ∃ (j : Nat) (A : Option Addr) (c : Nat), j ≤ z ∧ i = .slice A (1 + j) c ∧ Shut (wr.ownsRow (w.heap.size + 2) 5 1 (.slice A (1 + j) c) (1 + j) (bv (128 :: List.replicate j 0))) ∧ Below (w.heap.size + 2) w1 wr) (fun i _ => match i with | .slice _ n _ => 65 - n | _ => 0)
  case atStart => exact ⟨0, _, _, by omega, rfl, ⟨hown0⟩, hbp⟩
  case round =>
    clear hown0 hbp
    obtain ⟨j, A, c, hj, rfl, HO, hb⟩ := hrel
    have c72 : wr.cell? ⟨w.heap.size, 72, none⟩ = some (.int .u64 (M.length : Int)) := (HB1.out.below_at hb (by omega)).cell hc72
    have hzz : z ≤ 63 := by have := HZ.out; omega
    have hww : wrap64 ((M.length : Int) + (1 + (j : Int))) = ((M.length + 1 + j : Nat) : Int) := by
      rw [show (M.length : Int) + (1 + (j : Int)) = ((M.length + 1 + j : Nat) : Int) by omega]
      unfold wrap64; omega
    have htm : (wrap64 ((M.length : Int) + (1 + (j : Int)))).tmod 64 = (((M.length + 1 + j) % 64 : Nat) : Int) := by
      rw [hww, Int.tmod_eq_emod_of_nonneg (by omega)]; omega
    clear hww
    by_cases hjz : j < z
    · have g1 : (((M.length : Int) + (1 + (j : Int))) % 64 != 56) = true := by
        have := HZ.out; simp; omega
      clear htm
      go_wp2_with (with_reducible refine stop_append ?_)
      refine at_append_src eltB (w.heap.size + 2) rfl (HO.out.alloc _) rfl (Src.ofRd Tryd.underlying33 1 (rd_new (cs := bv [0]) 1 1 rfl (by omega)) (bv_one _)) (by omega) (by omega) (by have := hb.size; simp; omega) ?_
      intro A' c' w2 hown' hg _
      have hb' := below_own (hb.alloc (by have := hb.size; omega) _) (by have := hb.size; simp; omega) (HO.out.alloc _) (Nat.le_refl _) hg
      go_wp2_with fail
      refine ⟨⟨j + 1, A', c', by omega, by rw [show 1 + j + 1 = 1 + (j + 1) by omega], ⟨?_⟩, hb'⟩, by show 65 - (1 + j + 1) < 65 - (1 + j); omega⟩
      have e : bv (128 :: List.replicate j 0) ++ bv [0] = bv (128 :: List.replicate (j + 1) 0) := by rw [← bv_append, List.cons_append, List.replicate_succ']
      rw [e, show 1 + j + 1 = 1 + (j + 1) by omega] at hown'
      exact hown'
    · have g1 : (((M.length : Int) + (1 + (j : Int))) % 64 != 56) = false := by
        have := HZ.out; simp; omega
      clear htm
      go_wp2_with fail
      obtain rfl : j = z := by omega
      clear c72 g1 hjz
      have HBW := Shut.mk hb
      go_loopw [23, 4] (fun i s wr => ∃ (t : Nat) (A : Option Addr) (c : Nat), t ≤ 8 ∧ i = .int .i64 t ∧ s = .slice A (1 + j + t) c ∧ Shut (wr.ownsRow (w.heap.size + 2) 5 1 (.slice A (1 + j + t) c) (1 + j + t) (bv (128 :: (List.replicate j 0 ++ (lenB M.length).take t)))) ∧ Below (w.heap.size + 2) w1 wr) (fun i _ _ => 8 - (intOf i).toNat)
      case atStart => exact ⟨0, A, c, by omega, rfl, rfl, ⟨by simpa using HO.out⟩, hb⟩
      case round =>
        clear HO hb
        obtain ⟨t, A, c, ht8, rfl, rfl, HO, hb⟩ := hrel
        by_cases h8 : t < 8
        · go_wp2_with (with_reducible refine stop_append ?_)
          have hX : [Value.int IntKind.u8 (8 * (M.length : Int) / 2 ^ (56 - 8 * t) % 256)] = bv [UInt8.ofNat (8 * M.length / 2 ^ (56 - 8 * t))] := by simp [bv]
          rw [hX]
          refine at_append_src eltB (w.heap.size + 2) rfl (HO.out.alloc _) rfl (Src.ofRd Tryd.underlying33 1 (rd_new 1 1 rfl (by omega)) (bv_one _)) (by omega) (by omega) (by have := hb.size; simp; omega) ?_
          intro A' c' w2 hown' hg _
          have hb' := below_own (hb.alloc (by have := hb.size; omega) _) (by have := hb.size; simp; omega) (HO.out.alloc _) (Nat.le_refl _) hg
          have e : bv (128 :: (List.replicate j 0 ++ (lenB M.length).take t)) ++ bv [UInt8.ofNat (8 * M.length / 2 ^ (56 - 8 * t))] = bv (128 :: (List.replicate j 0 ++ (lenB M.length).take (t + 1))) := by
            rw [← bv_append, List.cons_append, List.append_assoc, List.take_add_one, lenB_at _ _ h8]; rfl
          rw [e] at hown'
          have HO2 := Shut.mk hown'
          clear e hown' hX hg
          go_wp2_with fail
          go_roundw
          case rel => exact ⟨t + 1, A', c', by omega, by go_num, rfl, HO2, hb'⟩
          case measure => simp [intOf]; omega
        · obtain rfl : t = 8 := by omega
          have HBL := Shut.mk (HB1.out.below_at hb (by omega))
          have HBR := Shut.mk (HB2.out.below_at hb (by omega))
          go_wp2_with (with_reducible refine stop_load ?_)
          have hl1 : (strm h blk M.length).length = 73 := by simp [strm, uv, bv, St.list, hlp]
          refine at_load_blk aggT rfl hl1 HBL.out ?_
          go_wp2_with (with_reducible refine stop_convert ?_)
          refine at_str Tryd.underlying33 Tryd.underlying5 Tryd.underlying9 rfl (own_Rd HO.out) ?_
          have hpad : (128 : UInt8) :: (List.replicate j 0 ++ (lenB M.length).take 8) = pad M.length := by rw [HZ.out]; rfl
          rw [hpad]
          clear hpad
          go_wp2_with fail
          have hg : 4 < w.heap.size := HT.out.lt rfl
          have hadd := hash_Add h blk M HR.out ⟨(pad M.length).toArray⟩ wr ((HT.out.below hbw hg).below hb (by omega))
          change Calls _ _ _ _ (fun e w' => ∃ h' blk', e = .returned (.agg (strm h' blk' (M ++ pad M.length).length).toArray) ∧ Rp h' blk' (M ++ pad M.length) ∧ Below wr.heap.size wr w') at hadd
          generalize hMP : M ++ pad M.length = MP at hadd
          have HMP := Shut.mk hMP
          clear hMP
          refine hadd.mono ?_
          clear hadd
          rintro e w3 ⟨h3, blk3, rfl, hR3, hb3⟩
          have hw3 := hb.trans (hb3.mono (by have := hb.size; omega))
          have HBL3 := Shut.mk (HB1.out.below_at hw3 (by omega))
          have HBR3 := Shut.mk (HB2.out.below_at hw3 (by omega))
          have HR3 := Shut.mk hR3
          clear hR3 HBL HBR hb3
          go_wp2_with (with_reducible refine stop_store ?_)
          have hl3 : (strm h3 blk3 MP.length).length = 73 := by simp [strm, uv, bv, St.list, HR3.out.len]
          refine at_store_blk aggT rfl rfl hl3 hl1 HBL3.out (strm_one _ _ _) ?_
          intro hB4
          have hbw4 := below_setRow (hbw.trans (hw3.mono (by omega))) (Nat.le_refl w.heap.size) (strm h3 blk3 MP.length).toArray
          have HB4 := Shut.mk hB4
          have HBR4 := Shut.mk (HBR3.out.setRow_other (g' := w.heap.size) (by omega) (strm h3 blk3 MP.length).toArray)
          have hs4 : w.heap.size + 2 ≤ (w3.setRow w.heap.size (strm h3 blk3 MP.length).toArray).heap.size := by rw [size_setRow]; have := hw3.size; omega
          clear hB4 HBL3 HBR3 HB1 HB2 HO hb hw3
          generalize w3.setRow w.heap.size (strm h3 blk3 MP.length).toArray = w4 at *
          generalize MP.length = L4 at *
          go_wp2_with fail
          have hB5 := HB4.out.alloc (.cells (bv (List.replicate 32 0)).toArray 158)
          have hR5 := HBR4.out.alloc (.cells (bv (List.replicate 32 0)).toArray 158)
          have hO5 := Blk.new w4 158 (bv (List.replicate 32 0))
          have hb5 := hbw4.alloc hbw4.size (.cells (bv (List.replicate 32 0)).toArray 158)
          change Code.wp _ _ _ _ (w4.alloc (.cells (bv (List.replicate 32 0)).toArray 158))
          obtain ⟨O, hO⟩ : ∃ O, O = w4.heap.size := ⟨_, rfl⟩
          rw [← hO] at hO5 hs4 ⊢
          clear hO hbw4 HB4 HBR4
          generalize w4.alloc (.cells (bv (List.replicate 32 0)).toArray 158) = w5 at *
          go_loopw [40] (fun i wr => ∃ t : Nat, t ≤ 32 ∧ i = .int .i64 t ∧ Shut (Blk wr w.heap.size 186 (strm h3 blk3 L4)) ∧ Shut (Blk wr (w.heap.size + 1) 158 (bv (List.replicate 32 0))) ∧
            Shut (Blk wr O 158 (bv (outL h3 t))) ∧ Below w.heap.size w wr) (fun i _ => 32 - (intOf i).toNat)
          case atStart => exact ⟨0, by omega, rfl, ⟨hB5⟩, ⟨hR5⟩, ⟨hO5⟩, hb5⟩
          case round =>
            clear hB5 hR5 hO5 hb5
            obtain ⟨t, ht, rfl, HB, HRs, HO, hbw⟩ := hrel
            by_cases h32 : t < 32
            · have cs := HB.out.cell (strm_st h3 blk3 L4 (t / 4) (by omega))
              have co := HO.out.cell (outL_at h3 t h32)
              have fo := HO.out.free t
              have hX := out_byte h3 t h32
              have HX := Shut.mk hX
              have hlt : h3.list.getD (t / 4) 0 < 4294967296 := by
                have := rp_lt HR3.out
                rw [List.getD_eq_getElem?_getD]
                cases hh : h3.list[t / 4]? with
                | none => simp
                | some x => exact this x (List.mem_of_getElem? hh)
              generalize h3.list.getD (t / 4) 0 = v at *
              clear hX
              have d4 : (t : Int) / 4 < 8 := by omega
              have n4 : ((t : Int) / 4).toNat = t / 4 := by omega
              go_wp2_with fail
              have hv : (v : Int) / 2 ^ (24 - 8 * (t % 4)) % 256 = ((UInt8.ofNat (v / 2 ^ (24 - 8 * (t % 4)))).toNat : Int) := by
                simp
              rw [hv]
              refine ⟨⟨t + 1, by omega, by go_num, ⟨HB.out.other (by omega) _ _⟩, ⟨HRs.out.other (by omega) _ _⟩, ⟨?_⟩, hbw.setCell (by simp; omega) _⟩, by simp [intOf]; omega⟩
              have h := HO.out.set t (.int .u8 ((UInt8.ofNat (v / 2 ^ (24 - 8 * (t % 4)))).toNat : Int))
              rw [outL_set h3 t h32 _ HX.out] at h
              exact h
            · obtain rfl : t = 32 := by omega
              have hO := HO.out
              have hfin : outL h3 32 = res := by
                rw [outL_end, ← HRES.out]
                show _ = (absorb init (M ++ pad M.length)).1.list.flatMap outWord
                rw [HMP.out, ← HR3.out.st]
              rw [hfin] at hO
              have hlr : (bv res).length = 32 := by rw [← hfin]; rfl
              have HO2 := Shut.mk hO
              clear hO hfin HO
              go_wp2_with (first | (with_reducible refine stop_load ?_) | (with_reducible refine stop_store ?_))
              refine at_load_blk aggH rfl hlr HO2.out ?_
              go_wp2_with (first | (with_reducible refine stop_load ?_) | (with_reducible refine stop_store ?_))
              refine at_store_blk aggH rfl rfl hlr (by rfl) HRs.out (bv_one' _) ?_
              intro hB2
              go_wp2_with fail
              exact ret_blk rfl aggH rfl hlr hB2 rfl ⟨rfl, below_setRow hbw (by omega) _⟩
end Go.Proofs.YtedegedceeefdaaDoor
/-! Walks: package hash, Of and Sum. -/
namespace Go.Proofs.YtedegedceeefdaaDoor
open Go.RowKit Go.Cw Cu
set_option maxRecDepth 100000
set_option maxHeartbeats 1000000
set_option linter.unusedVariables false
set_option linter.unusedSimpArgs false
def sv (xs : List ByteArray) : List Value := xs.map Value.string
def dig (tag : Nat) (ps : List (List UInt8)) : List UInt8 := (sha (UInt8.ofNat tag :: ps.flatMap encBytes)).take 16
theorem aggG : AggT Tryd.prog 36 16 := ⟨by kernel_rfl, by kernel_rfl⟩
theorem hash_Of (tag : Nat) (htag : tag < 256) (parts : List ByteArray) (hp : ∀ p ∈ parts, p.size ≤ 140737488351232) (hM : (UInt8.ofNat tag :: (parts.map sb).flatMap encBytes).length < 1152921504606846976)
    (A : Option Addr) (n c : Nat) (w : World) (hrd : Rd w A n 1 (sv parts)) (ht : Tab w 4 (uv ks)) :
    Calls Tryd.prog 102 #[.int .i64 tag, .slice A n c] w fun e w' => e = .returned (.agg (bv (dig tag (parts.map sb))).toArray) ∧ Below w.heap.size w w' := by
  generalize hres : dig tag (parts.map sb) = res
  have HRES := Shut.mk hres
  clear hres
  have HT := Shut.mk ht
  clear ht
  go_enter Tryd.func102, Tryd.ntmps102
  go_wp2_with fail
  have hR0 := Blk.new w 36 (bv (List.replicate 16 0))
  have hb0 := below_alloc w (.cells (bv (List.replicate 16 0)).toArray 36)
  change Code.wp _ _ _ _ (w.alloc (.cells (bv (List.replicate 16 0)).toArray 36))
  have hz : (w.alloc (.cells (bv (List.replicate 16 0)).toArray 36)).heap.size = w.heap.size + 1 := by simp
  have HR0 := Shut.mk hR0
  clear hR0
  generalize w.alloc (.cells (bv (List.replicate 16 0)).toArray 36) = w0 at *
  have hg : 4 < w.heap.size := HT.out.lt rfl
  refine wp_region_mono 7 (fun i v w1 => match i with
    | 0 => v = .agg (strm init (List.replicate 64 0) ([] : List UInt8).length).toArray
    | 1 => v = .int .i64 (tag : Int)
    | 2 => v = .int .u8 ((UInt8.ofNat tag).toNat : Int)
    | 3 => ∃ B, v = .slice B 1 1 ∧ Rd w1 B 1 1 (bv [UInt8.ofNat tag])
    | 4 => v = .string ⟨[UInt8.ofNat tag].toArray⟩
    | 5 => ∃ h' blk', v = .agg (strm h' blk' [UInt8.ofNat tag].length).toArray ∧ Rp h' blk' [UInt8.ofNat tag]
    | _ => ∃ g, v = .pointer (some ⟨g, 0, none⟩) ∧ w.heap.size < g ∧ Blk w1 g 186 Tryd.zeroCells186.toList) (by kernel_rfl) (by kernel_rfl) ?_ ?_ ?_
  · intro i v w1 w2 hi h hb
    match i, hi, h with
    | 0, _, h => exact h
    | 1, _, h => exact h
    | 2, _, h => exact h
    | 3, _, h => obtain ⟨B, e, hr⟩ := h; exact ⟨B, e, hr.below hb⟩
    | 4, _, h => exact h
    | 5, _, h => exact h
    | 6, _, h => obtain ⟨g, e, hl, hr⟩ := h; exact ⟨g, e, hl, hr.below hb⟩
    | k + 7, hi, _ => omega
  · refine Steps.cons (fun a1 w1 hp => ?_) (Steps.cons (fun a1 w1 hp => ?_) (Steps.cons (fun a1 w1 hp => ?_) (Steps.cons (fun a1 w1 hp => ?_) (Steps.cons (fun a1 w1 hp => ?_) (Steps.cons (fun a1 w1 hp => ?_) (Steps.cons (fun a1 w1 hp => ?_) Steps.nil))))))
    · refine step_call (args := #[]) Tryd.call153 (by simp) ((hash_Begin _).mono ?_)
      rintro e w2 ⟨rfl, hb⟩
      exact ⟨_, rfl, rfl, hb⟩
    · exact step_move (hp.same 0 (by kernel_rfl)) ⟨rfl, Below.refl _ _⟩
    · refine step_conv (hp.got 1 (by kernel_rfl) _ (by kernel_rfl)) (by simp [go_sem]; rfl) ⟨?_, Below.refl _ _⟩
      show Value.int .u8 _ = _
      congr 1
    · refine step_slice1 eltB (hp.got 2 (by kernel_rfl) _ (by kernel_rfl)) rfl rfl ⟨⟨_, rfl, ?_⟩, below_alloc _ _⟩
      exact rd_new 1 1 rfl (by omega)
    · obtain ⟨B, e, hr⟩ := hp.got 3 (by kernel_rfl) _ (by kernel_rfl)
      exact step_conv e (run_str Tryd.underlying33 Tryd.underlying5 Tryd.underlying9 1 hr) ⟨rfl, Below.refl _ _⟩
    · have e0 : a1.eval (.tmp 9) = _ := hp.got 0 (by kernel_rfl) 9 (by kernel_rfl)
      have e4 : a1.eval (.tmp 13) = _ := hp.got 4 (by kernel_rfl) 13 (by kernel_rfl)
      refine step_call Tryd.call154 (by simp only [List.map_toArray, List.map_cons, List.map_nil, e0, e4]) ((hash_Add init (List.replicate 64 0) [] (rp_init _ rfl) ⟨[UInt8.ofNat tag].toArray⟩ w1 (HT.out.below (hb0.trans (hp.below.mono (by omega))) (by omega))).mono ?_)
      rintro e w2 ⟨h', blk', rfl, hR, hb⟩
      exact ⟨_, rfl, ⟨h', blk', rfl, hR⟩, hb⟩
    · have := hp.below.size
      exact step_alloc Tryd.zeroValue186 rfl ⟨⟨_, rfl, by omega, Blk.new _ _ _⟩, below_alloc _ _⟩
  · intro w1 vs hb1 hΦ
    have e0 : vs 0 = _ := hΦ 0 (by decide)
    have e1 : vs 1 = _ := hΦ 1 (by decide)
    have e2 : vs 2 = _ := hΦ 2 (by decide)
    obtain ⟨B, e3, _⟩ := hΦ 3 (by decide)
    have e4 : vs 4 = _ := hΦ 4 (by decide)
    obtain ⟨h5, blk5, e5, hR5⟩ := hΦ 5 (by decide)
    obtain ⟨g5, e6, hg5, hB5⟩ := hΦ 6 (by decide)
    simp only [List.take_succ_cons, List.take_zero, List.drop_succ_cons, List.drop_zero, putL, Nat.reduceAdd, e0, e1, e2, e3, e4, e5, e6, Act.put, List.setIfInBounds_toArray, List.set_cons_succ, List.set_cons_zero]
    clear hΦ e0 e1 e2 e3 e4 e5 e6
    have hbw := hb0.trans (hb1.mono (by omega))
    have HR1 := Shut.mk (HR0.out.below hb1)
    clear hb0 hb1 HR0 hz
    have hl5 : (strm h5 blk5 [UInt8.ofNat tag].length).length = 73 := by simp [strm, uv, bv, St.list, hR5.len]
    have hR5' := Shut.mk hR5
    clear hR5
    refine stop_store ?_
    refine at_store_blk aggT rfl rfl hl5 (by rfl) hB5 (strm_one _ _ _) ?_
    intro hB6
    have hbw2 := below_setRow hbw (show w.heap.size ≤ g5 by omega) (strm h5 blk5 [UInt8.ofNat tag].length).toArray
    have HR2 := Shut.mk (HR1.out.setRow_other (g' := g5) (by omega) (strm h5 blk5 [UInt8.ofNat tag].length).toArray)
    clear hB5 HR1 hbw
    generalize w1.setRow g5 (strm h5 blk5 [UInt8.ofNat tag].length).toArray = w2 at *
    go_wp2_with fail
    obtain ⟨msg, hmsg⟩ : ∃ msg : Nat → List UInt8, ∀ k, msg k = UInt8.ofNat tag :: ((parts.map sb).take k).flatMap encBytes := ⟨_, fun _ => rfl⟩
    have hlp : parts.length = n := by have := hrd.len; simp [sv] at this; omega
    have hmsn : msg n = UInt8.ofNat tag :: (parts.map sb).flatMap encBytes := by rw [hmsg, List.take_of_length_le (by simp [hlp])]
    rw [← hmsn] at hM
    have hml : ∀ k, k ≤ n → (msg k).length ≤ (msg n).length := by
      intro k hk
      have : ∃ r, msg n = msg k ++ r := by
        refine ⟨((parts.map sb).drop k).flatMap encBytes, ?_⟩
        rw [hmsg k, hmsn, List.cons_append, ← List.flatMap_append, List.take_append_drop]
      obtain ⟨r, hr⟩ := this
      rw [hr]; simp
    have hm0 : [UInt8.ofNat tag] = msg 0 := by rw [hmsg]; simp
    rw [hm0] at hB6 hR5'
    have HM := Shut.mk hmsg
    have HMN := Shut.mk hmsn
    have HML := Shut.mk hml
    clear hmsg hmsn hml hm0 hl5
    have hmax := hrd.max
    go_loopw [17] (fun i wr => ∃ (k : Nat) (h' : St) (blk' : List UInt8), k ≤ n ∧ i = .int .i64 k ∧ Shut (Rp h' blk' (msg k)) ∧ Shut (Blk wr g5 186 (strm h' blk' (msg k).length)) ∧ Shut (Blk wr w.heap.size 36 (bv (List.replicate 16 0))) ∧ Below w.heap.size w wr) (fun i _ => n - (intOf i).toNat)
    case atStart => exact ⟨0, h5, blk5, by omega, rfl, hR5', ⟨hB6⟩, HR2, hbw2⟩
    case round =>
      clear hR5' hB6 HR2 hbw2
      obtain ⟨k, h', blk', hk, rfl, hR, hB, hRs, hbw⟩ := hrel
      by_cases hkn : k < n
      · obtain ⟨g, o, rfl, hc⟩ := (hrd.below hbw).cells (by omega)
        obtain ⟨p, hpk⟩ : ∃ p, parts[k]? = some p := ⟨_, List.getElem?_eq_getElem (by omega)⟩
        have hck := hc k (.string p) (by simp [sv, hpk])
        have hps := hp p (List.mem_of_getElem? hpk)
        have hnext : msg (k + 1) = msg k ++ encBytes (sb p) := by
          rw [HM.out, HM.out, List.take_add_one, List.getElem?_map, hpk]; simp
        have HNX := Shut.mk hnext
        clear hc hpk hnext
        go_wp2_with fail
        clear hck
        have hl5 : (strm h' blk' (msg k).length).length = 73 := by simp [strm, uv, bv, St.list, hR.out.len]
        refine wp_region_mono 5 (fun i v w1 => match i with
          | 0 => v = .agg (strm h' blk' (msg k).length).toArray
          | 1 => v = .string p
          | 2 => ∃ B c, v = .slice B (encBytes (sb p)).length c ∧ Rd w1 B (encBytes (sb p)).length 1 (bv (encBytes (sb p)))
          | 3 => v = .string ⟨(encBytes (sb p)).toArray⟩
          | _ => ∃ h2 blk2, v = .agg (strm h2 blk2 (msg (k + 1)).length).toArray ∧ Rp h2 blk2 (msg (k + 1))) (by kernel_rfl) (by kernel_rfl) ?_ ?_ ?_
        · intro i v w1 w2 hi h hb
          match i, hi, h with
          | 0, _, h => exact h
          | 1, _, h => exact h
          | 2, _, h => obtain ⟨B, c, e, hr⟩ := h; exact ⟨B, c, e, hr.below hb⟩
          | 3, _, h => exact h
          | 4, _, h => exact h
          | k + 5, hi, _ => omega
        · refine Steps.cons (fun a1 w1 hp => ?_) (Steps.cons (fun a1 w1 hp => ?_) (Steps.cons (fun a1 w1 hp => ?_) (Steps.cons (fun a1 w1 hp => ?_) (Steps.cons (fun a1 w1 hp => ?_) Steps.nil))))
          · exact step_load_blk aggT (hp.same 5 (by kernel_rfl)) hl5 (hB.out.below hp.below) ⟨rfl, Below.refl _ _⟩
          · exact step_move (hp.same 7 (by kernel_rfl)) ⟨rfl, Below.refl _ _⟩
          · have e1 : a1.eval (.tmp 22) = _ := hp.got 1 (by kernel_rfl) 22 (by kernel_rfl)
            refine step_call Tryd.call97 (by simp only [List.map_toArray, List.map_cons, List.map_nil, e1]) ((wire_Bytes p hps w1).mono ?_)
            rintro e w2 ⟨B, c, rfl, hown, hb⟩
            exact ⟨_, rfl, ⟨B, c, rfl, own_Rd hown⟩, hb⟩
          · obtain ⟨B, c, e, hr⟩ := hp.got 2 (by kernel_rfl) 23 (by kernel_rfl)
            exact step_conv e (run_str Tryd.underlying33 Tryd.underlying5 Tryd.underlying9 c hr) ⟨rfl, Below.refl _ _⟩
          · have e0 : a1.eval (.tmp 21) = _ := hp.got 0 (by kernel_rfl) 21 (by kernel_rfl)
            have e3 : a1.eval (.tmp 24) = _ := hp.got 3 (by kernel_rfl) 24 (by kernel_rfl)
            refine step_call Tryd.call154 (by simp only [List.map_toArray, List.map_cons, List.map_nil, e0, e3]) ((hash_Add h' blk' (msg k) hR.out ⟨(encBytes (sb p)).toArray⟩ w1 (HT.out.below (hbw.trans (hp.below.mono hbw.size)) (by omega))).mono ?_)
            rintro e w2 ⟨h2, blk2, rfl, hR2, hb⟩
            rw [sb_mk, ← HNX.out] at hR2 ⊢
            exact ⟨_, rfl, ⟨h2, blk2, rfl, hR2⟩, hb⟩
        · intro w1 vs hb1 hΦ
          have e0 : vs 0 = _ := hΦ 0 (by decide)
          have e1 : vs 1 = _ := hΦ 1 (by decide)
          obtain ⟨B, c, e2, _⟩ := hΦ 2 (by decide)
          have e3 : vs 3 = _ := hΦ 3 (by decide)
          obtain ⟨h2, blk2, e4, hR2⟩ := hΦ 4 (by decide)
          simp only [List.take_succ_cons, List.take_zero, List.drop_succ_cons, List.drop_zero, putL, Nat.reduceAdd, e0, e1, e2, e3, e4, Act.put, List.setIfInBounds_toArray, List.set_cons_succ, List.set_cons_zero]
          clear hΦ e0 e1 e2 e3 e4
          have hl6 : (strm h2 blk2 (msg (k + 1)).length).length = 73 := by simp [strm, uv, bv, St.list, hR2.len]
          have HR2 := Shut.mk hR2
          clear hR2
          refine stop_store ?_
          refine at_store_blk aggT rfl rfl hl6 hl5 (hB.out.below hb1) (strm_one _ _ _) ?_
          intro hB6
          have hbw2 := below_setRow (hbw.trans (hb1.mono hbw.size)) (show w.heap.size ≤ g5 by omega) (strm h2 blk2 (msg (k + 1)).length).toArray
          have hRs2 := Shut.mk ((hRs.out.below hb1).setRow_other (g' := g5) (by omega) (strm h2 blk2 (msg (k + 1)).length).toArray)
          have HB6 := Shut.mk hB6
          clear hB6 hl5 hl6
          generalize w1.setRow g5 (strm h2 blk2 (msg (k + 1)).length).toArray = w2 at *
          go_wp2_with fail
          go_roundw
          case rel => exact ⟨k + 1, h2, blk2, by omega, by go_num, HR2, HB6, hRs2, hbw2⟩
          case measure => simp [intOf]; omega
      · obtain rfl : k = n := by omega
        have hl5 : (strm h' blk' (msg k).length).length = 73 := by simp [strm, uv, bv, St.list, hR.out.len]
        go_wp2_with (with_reducible refine stop_load ?_)
        refine at_load_blk aggT rfl hl5 hB.out ?_
        go_wp2_with fail
        refine (hash_StreamSum h' blk' (msg k) hR.out hM wr (HT.out.below hbw hg)).mono ?_
        rintro e w2 ⟨rfl, hb2⟩
        have hO := Blk.new w2 158 (bv (List.replicate 32 0))
        have hb3 := (hbw.trans (hb2.mono hbw.size)).alloc (by have := hbw.size; have := hb2.size; omega) (.cells (bv (List.replicate 32 0)).toArray 158)
        have hR3 := (hRs.out.below hb2).alloc (.cells (bv (List.replicate 32 0)).toArray 158)
        have hzl := (hRs.out.below hb2).lt
        go_wp2_with (with_reducible refine stop_store ?_)
        change StopAt _ _ _ _ _ _ (w2.alloc (.cells (bv (List.replicate 32 0)).toArray 158))
        generalize w2.alloc (.cells (bv (List.replicate 32 0)).toArray 158) = w3 at *
        have hdig : (sha (msg k)).take 16 = res := by rw [← HRES.out, HMN.out]; rfl
        have hsl : (bv (sha (msg k))).length = 32 := rfl
        have HD := Shut.mk hdig
        clear hdig
        refine at_store_blk aggH rfl rfl hsl (by rfl) hO (bv_one' _) ?_
        intro hO2
        have hb4 := below_setRow hb3 (show w.heap.size ≤ w2.heap.size by omega) (bv (sha (msg k))).toArray
        have hR4 := hR3.setRow_other (g' := w2.heap.size) (by omega) (bv (sha (msg k))).toArray
        generalize w3.setRow w2.heap.size (bv (sha (msg k))).toArray = w4 at *
        clear hO hb3 hR3
        have HO2 := Shut.mk hO2
        have HR4 := Shut.mk hR4
        clear hO2 hR4
        go_wp2_with (first | (with_reducible refine stop_toArray ?_) | (with_reducible refine stop_load ?_) | (with_reducible refine stop_store ?_))
        refine at_toArray_run (run_arrayAt _ _ _ 16 _ 16 32 (by kernel_rfl : Tryd.prog.underlying 36 = some (.array 16 5)) (by omega)) ?_
        go_wp2_with (first | (with_reducible refine stop_load ?_) | (with_reducible refine stop_store ?_))
        refine at_load_agg (g := w2.heap.size) (o := 0) (cs := bv res) aggG rfl (by rw [← HD.out]; rfl) (fun j v hj => ?_) ?_
        · rw [Nat.zero_add]
          refine HO2.out.cell ?_
          rw [← HD.out, ← bv_take, List.getElem?_take] at hj
          split at hj
          · exact hj
          · cases hj
        go_wp2_with (first | (with_reducible refine stop_store ?_))
        refine at_store_blk aggG rfl rfl (by rw [← HD.out]; rfl) (by rfl) HR4.out (bv_one' _) ?_
        intro hR5
        go_wp2_with fail
        exact ret_blk rfl aggG rfl (by rw [← HD.out]; rfl) hR5 rfl ⟨rfl, below_setRow hb4 (Nat.le_refl _) _⟩
theorem hash_Sum (bs : List UInt8) (A : Option Addr) (n c : Nat) (hn : n < 1152921504606846976) (w : World) (hrd : Rd w A n 1 (bv bs)) (ht : Tab w 4 (uv ks)) :
    Calls Tryd.prog 129 #[.slice A n c] w fun e w' => e = .returned (.agg (bv (sha bs)).toArray) ∧ Below w.heap.size w w' := by
  have hl := hrd.len
  rw [bv_length] at hl
  have HL := Shut.mk hl
  have HT := Shut.mk ht
  clear ht hl
  have hg : 4 < w.heap.size := HT.out.lt rfl
  go_enter Tryd.func129, Tryd.ntmps129
  go_wp2_with fail
  have hR0 := Blk.new w 158 (bv (List.replicate 32 0))
  have hb0 := below_alloc w (.cells (bv (List.replicate 32 0)).toArray 158)
  change Code.wp _ _ _ _ (w.alloc (.cells (bv (List.replicate 32 0)).toArray 158))
  have hz : (w.alloc (.cells (bv (List.replicate 32 0)).toArray 158)).heap.size = w.heap.size + 1 := by simp
  have HR0 := Shut.mk hR0
  clear hR0
  generalize w.alloc (.cells (bv (List.replicate 32 0)).toArray 158) = w0 at *
  refine wp_region_mono 5 (fun i v w1 => match i with
    | 0 => v = .agg (strm init (List.replicate 64 0) ([] : List UInt8).length).toArray
    | 1 => v = .slice A n c
    | 2 => v = .string ⟨bs.toArray⟩
    | 3 => ∃ h' blk', v = .agg (strm h' blk' bs.length).toArray ∧ Rp h' blk' bs
    | _ => v = .agg (bv (sha bs)).toArray) (by kernel_rfl) (by kernel_rfl) ?_ ?_ ?_
  · intro i v w1 w2 hi h hb
    match i, hi, h with
    | 0, _, h => exact h
    | 1, _, h => exact h
    | 2, _, h => exact h
    | 3, _, h => exact h
    | 4, _, h => exact h
    | k + 5, hi, _ => omega
  · refine Steps.cons (fun a1 w1 hp => ?_) (Steps.cons (fun a1 w1 hp => ?_) (Steps.cons (fun a1 w1 hp => ?_) (Steps.cons (fun a1 w1 hp => ?_) (Steps.cons (fun a1 w1 hp => ?_) Steps.nil))))
    · refine step_call (args := #[]) Tryd.call153 (by simp) ((hash_Begin _).mono ?_)
      rintro e w2 ⟨rfl, hb⟩
      exact ⟨_, rfl, rfl, hb⟩
    · exact step_move (hp.same 0 (by kernel_rfl)) ⟨rfl, Below.refl _ _⟩
    · exact step_conv (hp.got 1 (by kernel_rfl) 4 (by kernel_rfl)) (run_str Tryd.underlying33 Tryd.underlying5 Tryd.underlying9 c ((hrd.below hb0).below (hp.below.mono (Nat.le_refl _)))) ⟨rfl, Below.refl _ _⟩
    · have e0 : a1.eval (.tmp 3) = _ := hp.got 0 (by kernel_rfl) 3 (by kernel_rfl)
      have e4 : a1.eval (.tmp 5) = _ := hp.got 2 (by kernel_rfl) 5 (by kernel_rfl)
      refine step_call Tryd.call154 (by simp only [List.map_toArray, List.map_cons, List.map_nil, e0, e4]) ((hash_Add init (List.replicate 64 0) [] (rp_init _ rfl) ⟨bs.toArray⟩ w1 (HT.out.below (hb0.trans (hp.below.mono (by omega))) (by omega))).mono ?_)
      rintro e w2 ⟨h', blk', rfl, hR, hb⟩
      exact ⟨_, rfl, ⟨h', blk', rfl, hR⟩, hb⟩
    · obtain ⟨h', blk', e3, hR⟩ := hp.got 3 (by kernel_rfl) 6 (by kernel_rfl)
      refine step_call Tryd.call155 (by simp only [List.map_toArray, List.map_cons, List.map_nil, e3]) ((hash_StreamSum h' blk' bs hR (by have := HL.out; omega) w1 (HT.out.below (hb0.trans (hp.below.mono (by omega))) (by omega))).mono ?_)
      rintro e w2 ⟨rfl, hb⟩
      exact ⟨_, rfl, rfl, hb⟩
  · intro w1 vs hb1 hΦ
    have e0 : vs 0 = _ := hΦ 0 (by decide)
    have e1 : vs 1 = _ := hΦ 1 (by decide)
    have e2 : vs 2 = _ := hΦ 2 (by decide)
    obtain ⟨h5, blk5, e3, hR5⟩ := hΦ 3 (by decide)
    have e4 : vs 4 = _ := hΦ 4 (by decide)
    simp only [List.take_succ_cons, List.take_zero, List.drop_succ_cons, List.drop_zero, putL, Nat.reduceAdd, e0, e1, e2, e3, e4, Act.put, List.setIfInBounds_toArray, List.set_cons_succ, List.set_cons_zero]
    clear hΦ e0 e1 e2 e3 e4 hR5
    have hbw := hb0.trans (hb1.mono (by omega))
    have HR1 := Shut.mk (HR0.out.below hb1)
    clear hb0 hb1 HR0 hz
    refine stop_store ?_
    refine at_store_blk aggH rfl rfl rfl (by rfl) HR1.out (bv_one' _) ?_
    intro hB6
    go_wp2_with fail
    exact ret_blk rfl aggH rfl rfl hB6 rfl ⟨rfl, below_setRow hbw (Nat.le_refl _) _⟩
end Go.Proofs.YtedegedceeefdaaDoor
/-! Digests that are compared. -/
namespace Go.Proofs.YtedegedceeefdaaDoor
open Go.RowKit Go.Cw Cu
set_option maxRecDepth 100000
set_option maxHeartbeats 1000000
theorem lits_byte (b : UInt8) : Tryd.prog.keyLits 1 5 [.int .u8 (b.toNat : Int)] = some [.int .u8 (b.toNat : Int)] := by
  have hu : Tryd.prog.underlying 5 = some (.int .u8) := by kernel_rfl
  have hw : (Lit.int .u8 (b.toNat : Int)).wf = true := by
    have : ∀ j : Fin 256, (Lit.int .u8 (j.val : Int)).wf = true := by decide +kernel
    exact this ⟨b.toNat, b.toNat_lt⟩
  simp [Program.keyLits, hu, hw]
theorem lits_digest (xs : List UInt8) (h : xs.length = 16) : Tryd.prog.keyLits 2 36 (bv xs) = some (xs.map fun b => .int .u8 (b.toNat : Int)) := by
  have hu : Tryd.prog.underlying 36 = some (.array 16 5) := by kernel_rfl
  have hc : Tryd.prog.cellsOf 36 = 16 := by kernel_rfl
  have hc1 : Tryd.prog.cellsOf 5 = 1 := by kernel_rfl
  match xs, h with
  | [a0, a1, a2, a3, a4, a5, a6, a7, a8, a9, a10, a11, a12, a13, a14, a15], _ =>
    unfold Program.keyLits
    rw [hu]
    simp only [hc, hc1]
    rw [if_pos (by simp [bv]), show List.range 16 = [0, 1, 2, 3, 4, 5, 6, 7, 8, 9, 10, 11, 12, 13, 14, 15] from rfl]
    simp [bv, lits_byte]
theorem eq_digest (xs ys : List UInt8) (hx : xs.length = 16) (hy : ys.length = 16) (w : World) : (Op.equal 36 (.agg (bv xs).toArray) (.agg (bv ys).toArray)).run Tryd.prog w = .ok (decide (xs = ys)) w := by
  have hf : ∀ zs : List UInt8, zs.length = 16 → (Value.agg (bv zs).toArray).formed Tryd.prog 36 = true := by
    intro zs hz
    have hu : Tryd.prog.underlying 36 = some (.array 16 5) := by kernel_rfl
    have hc : Tryd.prog.cellsOf 36 = 16 := by kernel_rfl
    simp [Value.formed, hu, hc, bv_length, hz]
  obtain ⟨r, hr, hiff⟩ := run_equalIn_deep (P := Tryd.prog) 9998 2 36 (by kernel_rfl) w 2 2 (.agg (bv xs).toArray) (.agg (bv ys).toArray) _ _ (hf xs hx) (hf ys hy) (lits_digest xs hx) (lits_digest ys hy)
  have : r = decide (xs = ys) := by
    rw [Bool.eq_iff_iff, hiff, decide_eq_true_eq]
    constructor
    · intro h
      refine List.map_inj_right (f := fun b : UInt8 => (Lit.int .u8 (b.toNat : Int))) (fun a b e => ?_) |>.1 h
      have e2 : (a.toNat : Int) = b.toNat := by injection e
      exact UInt8.toNat_inj.1 (by omega)
    · intro h; rw [h]
  rw [← this]
  exact hr
theorem eq_digest_same (xs : List UInt8) (hx : xs.length = 16) (w : World) : (Op.equal 36 (.agg (bv xs).toArray) (.agg (bv xs).toArray)).run Tryd.prog w = .ok true w := by
  rw [eq_digest xs xs hx hx w]; simp
theorem eq_digest_ne (xs ys : List UInt8) (hx : xs.length = 16) (hy : ys.length = 16) (hn : xs ≠ ys) (w : World) : (Op.equal 36 (.agg (bv xs).toArray) (.agg (bv ys).toArray)).run Tryd.prog w = .ok false w := by
  rw [eq_digest xs ys hx hy w]; simp [hn]
theorem guard_digest : Tryd.prog.eqGuardType Tryd.prog.depth 36 = false := by kernel_rfl
end Go.Proofs.YtedegedceeefdaaDoor

/- Parts of the proof: Fa, Fb, Fc, Fd. -/
import Derived.Test.YtedegedceeefdaaDoorJHA
import Derived.StillTailTactics
import Derived.BigRegion
import Derived.Test.YtedegedceeefdaaDoorJHD
import Derived.Test.YtedegedceeefdaaDoorJRR
set_option linter.all false
set_option linter.unusedVariables false
set_option linter.unusedSimpArgs false
set_option linter.unnecessarySimpa false
set_option linter.deprecated false
/-! Walks: package custodyref02, words. -/
namespace Go.Proofs.YtedegedceeefdaaDoor
open Go.RowKit Go.Cw Cu
set_option maxRecDepth 100000
set_option maxHeartbeats 1000000
set_option linter.unusedVariables false
set_option linter.unusedSimpArgs false
theorem rot_eq2 (x i : Nat) (hx : x < 4294967296) : bits BinOp.or IntKind.u32 ((x : Int) / 2 ^ i) ((x : Int) * 2 ^ (32 - i) % 4294967296) = (rotr x i : Int) := by
  rw [shr_u32]
  have e : (x : Int) * 2 ^ (32 - i) % 4294967296 = (((x <<< (32 - i)) % 4294967296 : Nat) : Int) := by rw [Nat.shiftLeft_eq]; simp
  rw [e, or_u32 _ _ (by rw [Nat.shiftRight_eq_div_pow]; exact Nat.lt_of_le_of_lt (Nat.div_le_self _ _) hx) (Nat.mod_lt _ (by omega))]
  rfl
theorem ref02_rotr (x i : Nat) (ni : Int) (hni : ni = (i : Int)) (hi : i < 32) (hi0 : 0 < i) (hx : x < 4294967296) (w : World) :
    Calls Tryd.prog 184 #[.int .u32 x, .int .i64 ni] w fun e w' => e = .returned (.int .u32 (rotr x i : Int)) ∧ ∃ m, w' = w.drewN m := by
  subst hni
  have e1 : IntKind.i64.wrap (32 - (i : Int)) = 32 - (i : Int) := IntWalk.i64_in _ (by omega)
  have e2 : (0 : Int) ≤ 32 - (i : Int) := by omega
  have e3 : (32 : Int) - (i : Int) ≤ 32 := by omega
  have e4 : (32 - (i : Int)).toNat = 32 - i := by omega
  go_enter Tryd.func184, Tryd.ntmps184
  go_wp2_with fail
  go_quiet (fail)
  go_wp2_with fail
  go_ret
  exact ⟨congrArg (fun z => Ending.returned (.int .u32 z)) (rot_eq2 x i hx), _, rfl⟩
theorem ref02_rot (x : Nat) (z : Int) (hz : decide (0 < z ∧ z < 32) = true) (hx : x < 4294967296) (w : World) :
    Calls Tryd.prog 184 #[.int .u32 x, .int .i64 z] w fun e w' => e = .returned (.int .u32 (rotr x z.toNat : Int)) ∧ ∃ m, w' = w.drewN m := by
  have h : 0 < z ∧ z < 32 := of_decide_eq_true hz
  exact ref02_rotr x z.toNat z (by omega) (by omega) (by omega) hx w
/-- Four bytes, one word. -/
theorem word4 (a b c d : UInt8) : bits BinOp.or IntKind.u32 (bits BinOp.or IntKind.u32 (bits BinOp.or IntKind.u32 ((a.toNat : Int) * 16777216) ((b.toNat : Int) * 65536)) ((c.toNat : Int) * 256)) (d.toNat : Int) =
    ((((a.toNat * 256 + b.toNat) * 256 + c.toNat) * 256 + d.toNat : Nat) : Int) := by
  have ha := a.toNat_lt
  have hb := b.toNat_lt
  have hc := c.toNat_lt
  have hd := d.toNat_lt
  rw [show (a.toNat : Int) * 16777216 = ((a.toNat * 16777216 : Nat) : Int) by omega, show (b.toNat : Int) * 65536 = ((b.toNat * 65536 : Nat) : Int) by omega, show (c.toNat : Int) * 256 = ((c.toNat * 256 : Nat) : Int) by omega]
  rw [or_u32 _ _ (by omega) (by omega)]
  rw [show a.toNat * 16777216 = 2 ^ 24 * a.toNat by omega, ← Nat.two_pow_add_eq_or_of_lt (by omega)]
  rw [or_u32 _ _ (by omega) (by omega)]
  rw [show 2 ^ 24 * a.toNat + b.toNat * 65536 = 2 ^ 16 * (a.toNat * 256 + b.toNat) by omega, ← Nat.two_pow_add_eq_or_of_lt (by omega)]
  rw [or_u32 _ _ (by omega) (by omega)]
  rw [show 2 ^ 16 * (a.toNat * 256 + b.toNat) + c.toNat * 256 = 2 ^ 8 * ((a.toNat * 256 + b.toNat) * 256 + c.toNat) by omega, ← Nat.two_pow_add_eq_or_of_lt (by omega)]
  congr 1
  omega
theorem take4 (b : List UInt8) (i : Nat) (h : i + 3 < b.length) : (b.drop i).take 4 = [b.getD i 0, b.getD (i + 1) 0, b.getD (i + 2) 0, b.getD (i + 3) 0] := by
  rw [List.drop_eq_getElem_cons (show i < b.length by omega), List.drop_eq_getElem_cons (show i + 1 < b.length by omega), List.drop_eq_getElem_cons (show i + 1 + 1 < b.length by omega), List.drop_eq_getElem_cons (show i + 1 + 1 + 1 < b.length by omega)]
  simp only [List.take_succ_cons, List.take_zero, List.getD_eq_getElem?_getD]
  rw [List.getElem?_eq_getElem (show i < b.length by omega), List.getElem?_eq_getElem (show i + 1 < b.length by omega), List.getElem?_eq_getElem (show i + 2 < b.length by omega), List.getElem?_eq_getElem (show i + 3 < b.length by omega)]
  rfl
theorem schL_old' (b : List UInt8) (hb : b.length = 64) (t v i x : Nat) (ht : t < 64) (hi : i < t) (hx : ((sched b).take t).getD i 0 = x) : (uv (schL b t v))[i]? = some (.int .u32 (x : Int)) := by
  rw [schL_old b hb t v i ht hi, hx]
theorem ref02_words (b : List UInt8) (hb : b.length = 64) (A : Option Addr) (c : Nat) (hc : 64 ≤ c) (w : World) (hrd : Rd w A 64 1 (bv b)) : Calls Tryd.prog 183 #[.slice A 64 c] w fun e w' => e = .returned (.agg (uv (sched b)).toArray) ∧ Below w.heap.size w w' := by
  go_enter Tryd.func183, Tryd.ntmps183
  go_wp2_with fail
  have hB0 := (Blk.new w 212 (uv (schL b 0 0))).alloc (.cells (uv (schL b 0 0)).toArray 212)
  have hB1 := Blk.new (w.alloc (.cells (uv (schL b 0 0)).toArray 212)) 212 (uv (schL b 0 0))
  have hz : (w.alloc (.cells (uv (schL b 0 0)).toArray 212)).heap.size = w.heap.size + 1 := by simp
  have hb0 := ((Below.refl w.heap.size w).alloc (Nat.le_refl _) (.cells (uv (schL b 0 0)).toArray 212)).alloc (by simp) (.cells (uv (schL b 0 0)).toArray 212)
  rw [hz] at hB1
  change Code.wp _ _ _ _ ((w.alloc (.cells (uv (schL b 0 0)).toArray 212)).alloc (.cells (uv (schL b 0 0)).toArray 212))
  generalize (w.alloc (.cells (uv (schL b 0 0)).toArray 212)).alloc (.cells (uv (schL b 0 0)).toArray 212) = w1 at *
  clear hz
  go_loopw [4] (fun i wr => ∃ t : Nat, t ≤ 16 ∧ i = .int .i64 t ∧ Shut (Blk wr (w.heap.size + 1) 212 (uv (schA b t))) ∧ Shut (Blk wr w.heap.size 212 (uv (schL b 0 0))) ∧ Below w.heap.size w wr ∧ w.heap.size + 2 ≤ wr.heap.size) (fun i _ => 16 - (intOf i).toNat)
  case atStart => exact ⟨0, by omega, rfl, ⟨by rw [schA_lt b 0 (by omega)]; exact hB1⟩, ⟨hB0⟩, hb0, by have := hB1.lt; omega⟩
  case round =>
    clear hB0 hB1 hb0
    obtain ⟨t, ht, rfl, hB1, hB0, hbw, hsz⟩ := hrel
    by_cases h16 : t < 16
    · obtain ⟨g, o, hA, hcell⟩ := (hrd.below hbw).u8 (by omega)
      subst hA
      have c0 := hcell (4 * t) (by omega)
      have c1 := hcell (4 * t + 1) (by omega)
      have c2 := hcell (4 * t + 2) (by omega)
      have c3 := hcell (4 * t + 3) (by omega)
      have e0 : IntKind.i64.wrap (4 * (t : Int)) = 4 * (t : Int) := IntWalk.i64_in _ (by omega)
      have e1 : IntKind.i64.wrap (4 * (t : Int) + 1) = 4 * (t : Int) + 1 := IntWalk.i64_in _ (by omega)
      have e2 : IntKind.i64.wrap (4 * (t : Int) + 2) = 4 * (t : Int) + 2 := IntWalk.i64_in _ (by omega)
      have e3 : IntKind.i64.wrap (4 * (t : Int) + 3) = 4 * (t : Int) + 3 := IntWalk.i64_in _ (by omega)
      have n0 : (4 * (t : Int)).toNat = 4 * t := by omega
      have n1 : (4 * (t : Int) + 1).toNat = 4 * t + 1 := by omega
      have n2 : (4 * (t : Int) + 2).toNat = 4 * t + 2 := by omega
      have n3 : (4 * (t : Int) + 3).toNat = 4 * t + 3 := by omega
      have b0 : (0 : Int) ≤ 4 * (t : Int) := by omega
      have b1 : (0 : Int) ≤ 4 * (t : Int) + 1 := by omega
      have b2 : (0 : Int) ≤ 4 * (t : Int) + 2 := by omega
      have b3 : (0 : Int) ≤ 4 * (t : Int) + 3 := by omega
      have d0 : 4 * (t : Int) < 64 := by omega
      have d1 : 4 * (t : Int) + 1 < 64 := by omega
      have d2 : 4 * (t : Int) + 2 < 64 := by omega
      have d3 : 4 * (t : Int) + 3 < 64 := by omega
      have d4 : (t : Int) < 64 := by omega
      have hw := sched_word b hb t h16
      rw [take4 b (4 * t) (by omega)] at hw
      simp only [List.foldl_cons, List.foldl_nil, Nat.zero_mul, Nat.zero_add] at hw
      have HW := Shut.mk hw
      clear hw hcell
      generalize b.getD (4 * t) 0 = x0 at *
      generalize b.getD (4 * t + 1) 0 = x1 at *
      generalize b.getD (4 * t + 2) 0 = x2 at *
      generalize b.getD (4 * t + 3) 0 = x3 at *
      have hx0 := x0.toNat_lt
      have hx1 := x1.toNat_lt
      have hx2 := x2.toNat_lt
      have hx3 := x3.toNat_lt
      have w0 : IntKind.u32.wrap (x0.toNat : Int) = (x0.toNat : Int) := wraps_u32 _ (by omega) (by omega)
      have w1 : IntKind.u32.wrap (x1.toNat : Int) = (x1.toNat : Int) := wraps_u32 _ (by omega) (by omega)
      have w2 : IntKind.u32.wrap (x2.toNat : Int) = (x2.toNat : Int) := wraps_u32 _ (by omega) (by omega)
      have w3 : IntKind.u32.wrap (x3.toNat : Int) = (x3.toNat : Int) := wraps_u32 _ (by omega) (by omega)
      have v0 : IntKind.u32.wrap ((x0.toNat : Int) * 16777216) = (x0.toNat : Int) * 16777216 := wraps_u32 _ (by omega) (by omega)
      have v1 : IntKind.u32.wrap ((x1.toNat : Int) * 65536) = (x1.toNat : Int) * 65536 := wraps_u32 _ (by omega) (by omega)
      have v2 : IntKind.u32.wrap ((x2.toNat : Int) * 256) = (x2.toNat : Int) * 256 := wraps_u32 _ (by omega) (by omega)
      have hbits := word4 x0 x1 x2 x3
      have HBITS := Shut.mk hbits
      clear hbits hx0 hx1 hx2 hx3
      go_wp2_with fail
      go_still_tail 35, (by kernel_rfl)
      clear c0 c1 c2 c3 e0 e1 e2 e3 n0 n1 n2 n3 b0 b1 b2 b3 d0 d1 d2 d3 w0 w1 w2 w3 v0 v1 v2
      rw [HBITS.out]
      generalize (((x0.toNat * 256 + x1.toNat) * 256 + x2.toNat) * 256 + x3.toNat) = v at *
      change wpList _ _ _ _ _ wr.drew
      have hdq : Drw wr wr.drew := ⟨1, rfl⟩
      have hBl : Blk wr.drew (w.heap.size + 1) 212 (uv (schL b t 0)) := by rw [← schA_lt b t (by omega)]; exact hB1.out.drw hdq
      replace hB0 := Shut.mk (hB0.out.drw hdq)
      replace hbw := below_then hbw (Drw.below hdq) hbw.size
      have hsz2 : w.heap.size + 2 ≤ wr.drew.heap.size := hsz
      clear hdq hB1 hsz
      generalize wr.drew = wq at *
      have ct := hBl.cell (schL_at b hb t 0 (by omega))
      have ft := hBl.free t
      have HBl := Shut.mk hBl
      clear hBl
      go_wp2_with fail
      go_roundw
      case rel =>
        refine ⟨t + 1, by omega, by go_num, ⟨?_⟩, ⟨hB0.out.other (by omega) _ _⟩, hbw.setCell (by simp) _, by simpa [World.setCell] using hsz2⟩
        have h := HBl.out.set t (.int .u32 ((v : Nat) : Int))
        rw [schL_set b hb t _ _ (by omega), ← schA_next b hb t _ (by omega) HW.out] at h
        exact h
      case measure => simp [intOf]; omega
    · obtain rfl : t = 16 := by omega
      go_wp2_with fail
      obtain ⟨wo, rfl⟩ : ∃ wo : World, wo = wr := ⟨_, rfl⟩
      go_loopw [5, 6, 7] (fun i _ _ wr => ∃ t : Nat, 16 ≤ t ∧ t ≤ 64 ∧ i = .int .i64 t ∧ Shut (Blk wr (w.heap.size + 1) 212 (uv (schA b t))) ∧ Shut (Blk wr w.heap.size 212 (uv (schL b 0 0))) ∧ Below w.heap.size w wr ∧ w.heap.size + 2 ≤ wr.heap.size) (fun i _ _ _ => 64 - (intOf i).toNat)
      case atStart => exact ⟨16, by omega, by omega, rfl, hB1, hB0, hbw, hsz⟩
      case round =>
        clear hB0 hB1 hbw hsz
        obtain ⟨t, ht16, ht, rfl, hB1, hB0, hbw, hsz⟩ := hrel
        by_cases h64 : t < 64
        · have hBl : Blk wr (w.heap.size + 1) 212 (uv (schL b t 0)) := by rw [← schA_lt b t h64]; exact hB1.out
          have c15 := hBl.cell (schL_old b hb t 0 (t - 15) h64 (by omega))
          have c2 := hBl.cell (schL_old b hb t 0 (t - 2) h64 (by omega))
          have c16 := hBl.cell (schL_old b hb t 0 (t - 16) h64 (by omega))
          have c7 := hBl.cell (schL_old b hb t 0 (t - 7) h64 (by omega))
          have ct := hBl.cell (schL_at b hb t 0 h64)
          have ft := hBl.free t
          have Hnx := Shut.mk (sched_next b hb t (by omega) h64)
          have lt : ∀ i, ((sched b).take t).getD i 0 < 4294967296 := take_getD_lt _ (sched_lt b) t
          have l15 := lt (t - 15)
          have l2 := lt (t - 2)
          have l16 := lt (t - 16)
          have l7 := lt (t - 7)
          clear lt
          unfold nextW at Hnx
          generalize ((sched b).take t).getD (t - 15) 0 = p at *
          generalize hq : ((sched b).take t).getD (t - 2) 0 = q at *
          generalize hp16 : ((sched b).take t).getD (t - 16) 0 = p16 at *
          generalize hp7 : ((sched b).take t).getD (t - 7) 0 = p7 at *
          have Hq := Shut.mk hq
          have Hp16 := Shut.mk hp16
          have Hp7 := Shut.mk hp7
          clear hq hp16 hp7
          have HBl := Shut.mk hBl
          have C2 := Shut.mk c2
          have C16 := Shut.mk c16
          have C7 := Shut.mk c7
          have CT := Shut.mk ct
          have FT := Shut.mk ft
          have L15 := Shut.mk l15
          have L2 := Shut.mk l2
          have L16 := Shut.mk l16
          have L7 := Shut.mk l7
          clear hBl hB1 c2 c16 c7 ct ft l15 l2 l16 l7
          have e15 : IntKind.i64.wrap ((t : Int) - 15) = (t : Int) - 15 := IntWalk.i64_in _ (by omega)
          have n15 : ((t : Int) - 15).toNat = t - 15 := by omega
          have b15 : (0 : Int) ≤ (t : Int) - 15 := by omega
          have d15 : (t : Int) - 15 < 64 := by omega
          go_wp2_with fail
          go_quiet ((go_at_call 184; refine Calls.quiet_of (ref02_rot p _ (by decide) L15.out _)))
          rw [sig0_bits p L15.out]
          have s0lt := sig0_lt p L15.out
          generalize sig0 p = s0 at *
          have hq : Drw wr (wr.drewN nq) := ⟨_, rfl⟩
          replace HBl := Shut.mk (HBl.out.drw hq)
          replace hB0 := Shut.mk (hB0.out.drw hq)
          replace hbw := below_then hbw (Drw.below hq) hbw.size
          have hsz2 : w.heap.size + 2 ≤ (wr.drewN nq).heap.size := hsz
          clear hq e15 n15 b15 d15 c15 hsz C2 C16 C7 CT FT
          generalize wr.drewN nq = wq at *
          have c2 := HBl.out.cell (schL_old' b hb t 0 (t - 2) q h64 (by omega) Hq.out)
          have e2 : IntKind.i64.wrap ((t : Int) - 2) = (t : Int) - 2 := IntWalk.i64_in _ (by omega)
          have n2 : ((t : Int) - 2).toNat = t - 2 := by omega
          have b2 : (0 : Int) ≤ (t : Int) - 2 := by omega
          have d2 : (t : Int) - 2 < 64 := by omega
          go_wp2_with fail
          go_quiet ((go_at_call 184; refine Calls.quiet_of (ref02_rot q _ (by decide) L2.out _)))
          rw [sig1_bits q L2.out]
          have s1lt := sig1_lt q L2.out
          generalize sig1 q = s1 at *
          have hq : Drw wq (wq.drewN nq) := ⟨_, rfl⟩
          replace HBl := Shut.mk (HBl.out.drw hq)
          replace hB0 := Shut.mk (hB0.out.drw hq)
          replace hbw := below_then hbw (Drw.below hq) hbw.size
          have hsz : w.heap.size + 2 ≤ (wq.drewN nq).heap.size := hsz2
          clear hq e2 n2 b2 d2 c2 hsz2
          generalize wq.drewN nq = wp at *
          have c16 := HBl.out.cell (schL_old' b hb t 0 (t - 16) p16 h64 (by omega) Hp16.out)
          have c7 := HBl.out.cell (schL_old' b hb t 0 (t - 7) p7 h64 (by omega) Hp7.out)
          have l16 := L16.out
          have l7 := L7.out
          have e16 : IntKind.i64.wrap ((t : Int) - 16) = (t : Int) - 16 := IntWalk.i64_in _ (by omega)
          have e7 : IntKind.i64.wrap ((t : Int) - 7) = (t : Int) - 7 := IntWalk.i64_in _ (by omega)
          have n16 : ((t : Int) - 16).toNat = t - 16 := by omega
          have n7 : ((t : Int) - 7).toNat = t - 7 := by omega
          have b16 : (0 : Int) ≤ (t : Int) - 16 := by omega
          have b7 : (0 : Int) ≤ (t : Int) - 7 := by omega
          have d16 : (t : Int) - 16 < 64 := by omega
          have d7 : (t : Int) - 7 < 64 := by omega
          have dt : (t : Int) < 64 := by omega
          go_wp2_with fail
          have ct := HBl.out.cell (schL_at b hb t 0 h64)
          have ft := HBl.out.free t
          go_region
          clear e16 e7 n16 n7 b16 b7 d16 d7 c16 c7 ct ft
          have hdq : Drw wp wp.drew := ⟨1, rfl⟩
          replace HBl := Shut.mk (HBl.out.drw hdq)
          replace hB0 := Shut.mk (hB0.out.drw hdq)
          replace hbw := below_then hbw (Drw.below hdq) hbw.size
          go_wp2_with fail
          refine ⟨⟨t + 1, by omega, by omega, by go_num, ⟨?_⟩, ⟨hB0.out.other (by omega) _ _⟩, hbw.setCell (by simp) _, by simpa [World.setCell] using hsz⟩, by simp [intOf]; omega⟩
          have hd := HBl.out.set t (.int .u32 (((p16 + s0 + p7 + s1) % 4294967296 : Nat) : Int))
          rw [schL_set b hb t _ _ h64, ← schA_next b hb t _ h64 Hnx.out] at hd
          rw [show ((p16 : Int) + s0 + p7 + s1) % 4294967296 = (((p16 + s0 + p7 + s1) % 4294967296 : Nat) : Int) by omega]
          exact hd
        · obtain rfl : t = 64 := by omega
          have hBe : Blk wr (w.heap.size + 1) 212 (uv (sched b)) := by rw [← schA_end b hb]; exact hB1.out
          have hlen : (uv (sched b)).length = 64 := by rw [uv_length, sched_length b hb]
          go_wp2_with (first | (with_reducible refine stop_load ?_) | (with_reducible refine stop_store ?_))
          refine at_load_blk aggW rfl hlen hBe ?_
          go_wp2_with (first | (with_reducible refine stop_load ?_) | (with_reducible refine stop_store ?_))
          refine at_store_blk aggW rfl rfl hlen (by rfl) hB0.out (uv_one _) ?_
          intro hB2
          go_wp2_with fail
          exact ret_blk rfl aggW rfl hlen hB2 rfl ⟨rfl, below_setRow hbw (Nat.le_refl _) _⟩
end Go.Proofs.YtedegedceeefdaaDoor
/-! Walks: package custodyref02, padded and Input. -/
namespace Go.Proofs.YtedegedceeefdaaDoor
open Go.RowKit Go.Cw Cu
set_option maxRecDepth 100000
set_option maxHeartbeats 1000000
set_option linter.unusedVariables false
set_option linter.unusedSimpArgs false
theorem ref02_padded (bs : List UInt8) (A : Option Addr) (n c : Nat) (hn : n ≤ 140737488350000) (w : World) (hrd : Rd w A n 1 (bv bs)) :
    Calls Tryd.prog 182 #[.slice A n c] w (RetOwn w 5 1 (bs ++ pad bs.length).length (bv (bs ++ pad bs.length))) := by
  have hl := hrd.len
  rw [bv_length, Nat.mul_one] at hl
  have hw0 : IntKind.u64.wrap (n : Int) = (n : Int) := by simp [IntKind.wrap, IntKind.bits, IntKind.signed]; omega
  have hw8 : IntKind.u64.wrap (8 * (n : Int)) = 8 * (n : Int) := by simp [IntKind.wrap, IntKind.bits, IntKind.signed]; omega
  generalize hres : bs ++ pad bs.length = res
  have HRES := Shut.mk hres
  have HL := Shut.mk hl
  have HW0 := Shut.mk hw0
  have HW8 := Shut.mk hw8
  clear hres hl hw0 hw8
  obtain ⟨z, hz⟩ : ∃ z, z = (119 - n % 64) % 64 := ⟨_, rfl⟩
  have HZ := Shut.mk hz
  clear hz
  go_enter Tryd.func182, Tryd.ntmps182
  go_wp2_with (with_reducible refine stop_append ?_)
  have hown0 := own_lit (w := w) (base := w.heap.size) (cs := bv []) (e := 5) (n := 0) (size := 1) (Nat.le_refl _) rfl (by omega)
  have hb0 := below_alloc w (.cells (bv []).toArray 5)
  refine at_append_src eltB w.heap.size rfl hown0 rfl (Src.ofRd Tryd.underlying33 c (hrd.below hb0) (bv_one _)) (by omega) (by omega) hb0.size ?_
  intro A1 c1 w1 hown1 hg1 _
  have hb1 := below_own hb0 hb0.size hown0 (Nat.le_refl _) hg1
  clear hown0 hb0 hg1
  rw [← bv_append, List.nil_append, Nat.zero_add] at hown1
  rw [Nat.zero_add]
  go_wp2_with (with_reducible refine stop_append ?_)
  refine at_append_src eltB w.heap.size rfl (hown1.alloc _) rfl (Src.ofRd Tryd.underlying33 1 (rd_new (cs := bv [128]) 1 1 rfl (by omega)) (bv_one _)) (by omega) (by omega) (le_alloc hb1.size _) ?_
  intro A2 c2 w2 hown2 hg2 _
  have hb2 := below_own (hb1.alloc hb1.size _) (le_alloc hb1.size _) (hown1.alloc _) (Nat.le_refl _) hg2
  clear hown1 hb1 hg2
  rw [← bv_append] at hown2
  go_wp2_with fail
  go_loopw [3] (fun i wr => ∃ (j : Nat) (A : Option Addr) (c : Nat), j ≤ z ∧ i = .slice A (n + 1 + j) c ∧ Shut (wr.ownsRow w.heap.size 5 1 (.slice A (n + 1 + j) c) (n + 1 + j) (bv (bs ++ 128 :: List.replicate j 0))) ∧ Below w.heap.size w wr) (fun i _ => match i with | .slice _ m _ => n + 65 - m | _ => 0)
  case atStart => exact ⟨0, _, _, by omega, rfl, ⟨hown2⟩, hb2⟩
  case round =>
    clear hown2 hb2
    obtain ⟨j, A, c, hj, rfl, HO, hb⟩ := hrel
    have hzz : z ≤ 63 := by have := HZ.out; omega
    by_cases hjz : j < z
    · have g1 : (((n : Int) + 1 + (j : Int)) % 64 != 56) = true := by
        have := HZ.out; simp; omega
      go_wp2_with (with_reducible refine stop_append ?_)
      refine at_append_src eltB w.heap.size rfl (HO.out.alloc _) rfl (Src.ofRd Tryd.underlying33 1 (rd_new (cs := bv [0]) 1 1 rfl (by omega)) (bv_one _)) (by omega) (by omega) (le_alloc hb.size _) ?_
      intro A' c' w2 hown' hg _
      have hb' := below_own (hb.alloc hb.size _) (le_alloc hb.size _) (HO.out.alloc _) (Nat.le_refl _) hg
      go_wp2_with fail
      refine ⟨⟨j + 1, A', c', by omega, by rw [show n + 1 + j + 1 = n + 1 + (j + 1) by omega], ⟨?_⟩, hb'⟩, by show n + 65 - (n + 1 + j + 1) < n + 65 - (n + 1 + j); omega⟩
      have e : bv (bs ++ 128 :: List.replicate j 0) ++ bv [0] = bv (bs ++ 128 :: List.replicate (j + 1) 0) := by rw [← bv_append, List.append_assoc, List.cons_append, List.replicate_succ']
      rw [e, show n + 1 + j + 1 = n + 1 + (j + 1) by omega] at hown'
      exact hown'
    · have g1 : (((n : Int) + 1 + (j : Int)) % 64 != 56) = false := by
        have := HZ.out; simp; omega
      have hw0 := HW0.out
      have hw8 := HW8.out
      go_wp2_with fail
      clear hw0 hw8 g1
      obtain rfl : j = z := by omega
      go_loopw [5, 3] (fun i s wr => ∃ (t : Nat) (A : Option Addr) (c : Nat), t ≤ 8 ∧ i = .int .i64 t ∧ s = .slice A (n + 1 + j + t) c ∧ Shut (wr.ownsRow w.heap.size 5 1 (.slice A (n + 1 + j + t) c) (n + 1 + j + t) (bv (bs ++ 128 :: (List.replicate j 0 ++ (lenB n).take t)))) ∧ Below w.heap.size w wr) (fun i _ _ => 8 - (intOf i).toNat)
      case atStart => exact ⟨0, A, c, by omega, rfl, rfl, ⟨by simpa using HO.out⟩, hb⟩
      case round =>
        clear HO hb
        obtain ⟨t, A, c, ht8, rfl, rfl, HO, hb⟩ := hrel
        by_cases h8 : t < 8
        · go_wp2_with (with_reducible refine stop_append ?_)
          have hX : [Value.int IntKind.u8 (8 * (n : Int) / 2 ^ (56 - 8 * t) % 256)] = bv [UInt8.ofNat (8 * n / 2 ^ (56 - 8 * t))] := by simp [bv]
          rw [hX]
          refine at_append_src eltB w.heap.size rfl (HO.out.alloc _) rfl (Src.ofRd Tryd.underlying33 1 (rd_new 1 1 rfl (by omega)) (bv_one _)) (by omega) (by omega) (le_alloc hb.size _) ?_
          intro A' c' w2 hown' hg _
          have hb' := below_own (hb.alloc hb.size _) (le_alloc hb.size _) (HO.out.alloc _) (Nat.le_refl _) hg
          have e : bv (bs ++ 128 :: (List.replicate j 0 ++ (lenB n).take t)) ++ bv [UInt8.ofNat (8 * n / 2 ^ (56 - 8 * t))] = bv (bs ++ 128 :: (List.replicate j 0 ++ (lenB n).take (t + 1))) := by
            rw [← bv_append, List.append_assoc, List.cons_append, List.append_assoc, List.take_add_one, lenB_at _ _ h8]; rfl
          rw [e] at hown'
          have HO2 := Shut.mk hown'
          clear e hown' hX hg
          go_wp2_with fail
          go_roundw
          case rel => exact ⟨t + 1, A', c', by omega, by go_num, rfl, HO2, hb'⟩
          case measure => simp [intOf]; omega
        · obtain rfl : t = 8 := by omega
          have hpad : bs ++ (128 : UInt8) :: (List.replicate j 0 ++ (lenB n).take 8) = res := by rw [← HRES.out, HL.out, HZ.out]; rfl
          have hO := HO.out
          rw [hpad] at hO
          have hlr : n + 1 + j + 8 = res.length := by have := hO.1; rw [bv_length] at this; omega
          rw [hlr] at hO
          have HO2 := Shut.mk hO
          clear hpad hO HO
          go_wp2_with fail
          go_ret
          rw [hlr]
          exact ⟨A, c, rfl, HO2.out, hb⟩
theorem ref02_Input (tag : Nat) (htag : tag < 256) (parts : List ByteArray) (hM : (UInt8.ofNat tag :: (parts.map sb).flatMap encBytes).length ≤ 140737488351232)
    (A : Option Addr) (n c : Nat) (w : World) (hrd : Rd w A n 1 (sv parts)) :
    Calls Tryd.prog 130 #[.int .i64 tag, .slice A n c] w (RetOwn w 5 1 (UInt8.ofNat tag :: (parts.map sb).flatMap encBytes).length (bv (UInt8.ofNat tag :: (parts.map sb).flatMap encBytes))) := by
  generalize hres : UInt8.ofNat tag :: (parts.map sb).flatMap encBytes = res at hM
  obtain ⟨msg, hmsg⟩ : ∃ msg : Nat → List UInt8, ∀ k, msg k = UInt8.ofNat tag :: ((parts.map sb).take k).flatMap encBytes := ⟨_, fun _ => rfl⟩
  have hlp : parts.length = n := by have := hrd.len; simp [sv] at this; omega
  have hmsn : msg n = res := by rw [hmsg, List.take_of_length_le (by simp [hlp]), hres]
  have hml : ∀ k, k ≤ n → (msg k).length ≤ res.length := by
    intro k hk
    have : ∃ r, msg n = msg k ++ r := by
      refine ⟨((parts.map sb).drop k).flatMap encBytes, ?_⟩
      rw [hmsg k, hmsg n, List.cons_append, ← List.flatMap_append, List.take_of_length_le (by simp [hlp]), List.take_append_drop]
    obtain ⟨r, hr⟩ := this
    rw [← hmsn, hr]; simp
  have hm0 : [UInt8.ofNat tag] = msg 0 := by rw [hmsg]; simp
  have hpl : ∀ (k : Nat) (p : ByteArray), parts[k]? = some p → msg (k + 1) = msg k ++ encBytes (sb p) := by
    intro k p hpk
    rw [hmsg, hmsg, List.take_add_one, List.getElem?_map, hpk]; simp
  have hmax := hrd.max
  have hw8 : IntKind.u8.wrap (tag : Int) = ((UInt8.ofNat tag).toNat : Int) := by simp [IntKind.wrap, IntKind.bits, IntKind.signed]
  have HLP := Shut.mk hlp
  have HMN := Shut.mk hmsn
  have HML := Shut.mk hml
  have HM0 := Shut.mk hm0
  have HPL := Shut.mk hpl
  clear hlp hmsn hml hm0 hpl hres hmsg
  go_enter Tryd.func130, Tryd.ntmps130
  go_wp2_with fail
  have hb0 := below_alloc w (.cells (bv (msg 0)).toArray 5)
  have hml0 : (msg 0).length = 1 := by rw [← HM0.out]; rfl
  change Code.wp _ _ _ _ (w.alloc (.cells (bv [UInt8.ofNat tag]).toArray 5))
  have hown0 := own_lit (w := w) (base := w.heap.size) (cs := bv (msg 0)) (e := 5) (n := (msg 0).length) (size := 1) (Nat.le_refl _) (by rw [bv_length, Nat.mul_one]) (by omega)
  rw [HM0.out]
  generalize w.alloc (.cells (bv (msg 0)).toArray 5) = w1 at *
  have HO0 := Shut.mk hown0
  clear hown0
  go_loopw [6, 5] (fun i s wr => ∃ (k : Nat) (A : Option Addr) (c : Nat), k ≤ n ∧ i = .int .i64 k ∧ s = .slice A (msg k).length c ∧ Shut (wr.ownsRow w.heap.size 5 1 (.slice A (msg k).length c) (msg k).length (bv (msg k))) ∧ Below w.heap.size w wr) (fun i _ _ => n - (intOf i).toNat)
  case atStart => exact ⟨0, some ⟨w.heap.size, 0, none⟩, (msg 0).length, by omega, rfl, by rw [hml0], HO0, hb0⟩
  case round =>
    clear HO0 hb0 hml0
    obtain ⟨k, D, d, hk, rfl, rfl, HO, hb⟩ := hrel
    by_cases hkn : k < n
    · obtain ⟨g, o, rfl, hc⟩ := (hrd.below hb).cells (by omega)
      obtain ⟨p, hpk⟩ : ∃ p, parts[k]? = some p := ⟨_, List.getElem?_eq_getElem (by have := HLP.out; omega)⟩
      have hck := hc k (.string p) (by simp [sv, hpk])
      have hnx := HPL.out k p hpk
      have hlen := HML.out (k + 1) (by omega)
      have hel : p.size ≤ (encBytes (sb p)).length := by unfold encBytes; rw [List.length_append, sb_length]; omega
      have hsum : (msg k).length + (encBytes (sb p)).length ≤ res.length := by rw [hnx, List.length_append] at hlen; exact hlen
      have HNX := Shut.mk hnx
      clear hc hpk hnx hlen
      go_wp2_with fail
      clear hck
      refine (ref01_Bytes p (by omega) wr).mono ?_
      rintro e w2 ⟨E, ec, rfl, hown2, hb2⟩
      go_wp2_with (with_reducible refine stop_append ?_)
      have hownw := own_below HO.out hb2
      have hb3 := below_then hb hb2 hb.size
      refine at_append_src eltB w.heap.size rfl hownw rfl (Src.ofRd Tryd.underlying33 ec (own_Rd hown2) (bv_one _)) (by omega) (by omega) hb3.size ?_
      intro A' c' w3 hown' hg _
      have hb' := below_own hb3 hb3.size hownw (Nat.le_refl _) hg
      rw [← bv_append, ← HNX.out] at hown'
      have hll : (msg k).length + (encBytes (sb p)).length = (msg (k + 1)).length := by rw [HNX.out, List.length_append]
      rw [hll] at hown' ⊢
      have HO2 := Shut.mk hown'
      clear hown' hll hownw hown2 hel hsum hg
      go_wp2_with fail
      go_roundw
      case rel => exact ⟨k + 1, A', c', by omega, by go_num, rfl, HO2, hb'⟩
      case measure => simp [intOf]; omega
    · obtain rfl : k = n := by omega
      go_wp2_with fail
      go_ret
      have hO := HO.out
      rw [HMN.out] at hO ⊢
      exact ⟨D, d, rfl, hO, hb⟩
end Go.Proofs.YtedegedceeefdaaDoor
/-! Walks: package custodyref02, Sum. -/
namespace Go.Cw
open Go.RowKit
theorem own_setRow {w : World} {base e size n g : Nat} {v : Value} {xs : List Value} (h : w.ownsRow base e size v n xs) (hg : g < base) (cs : Array Value) : (w.setRow g cs).ownsRow base e size v n xs := by
  obtain ⟨h1, h2⟩ := h
  refine ⟨h1, ?_⟩
  rcases h2 with h2 | ⟨g', cap, cur, hv, hgb, hh, r⟩
  · exact Or.inl h2
  · exact Or.inr ⟨g', cap, cur, hv, hgb, by rw [Go.setRow_other _ _ _ _ (by omega)]; exact hh, r⟩
/-- A row of one element type is not a block of another. -/
theorem own_ne {w : World} {base e size n g : Nat} {v : Value} {xs : List Value} (h : w.ownsRow base e size v n xs) {T : TypeId} {cs cs' : List Value} (hb : Blk (w.setRow g cs'.toArray) g T cs) (hT : T ≠ e) : (w.setRow g cs'.toArray).ownsRow base e size v n xs := by
  obtain ⟨h1, h2⟩ := h
  refine ⟨h1, ?_⟩
  rcases h2 with h2 | ⟨g', cap, cur, hv, hgb, hh, r⟩
  · exact Or.inl h2
  · refine Or.inr ⟨g', cap, cur, hv, hgb, ?_, r⟩
    by_cases hgg : g' = g
    · subst hgg
      exfalso
      have h3 := setRow_heap w g' cur cs'.toArray e _ hh
      have h4 : (w.setRow g' cs'.toArray).heap[g']? = some (.cells cs.toArray T (0, 0)) := hb
      rw [h3] at h4
      injection h4 with h5
      injection h5 with _ h6 _
      exact hT h6.symm
    · rw [Go.setRow_other _ _ _ _ hgg]; exact hh
theorem own_cap {w : World} {base e size n c m : Nat} {A : Option Addr} {xs : List Value} (h : w.ownsRow base e size (.slice A n c) m xs) : n ≤ c := by
  rcases h.2 with ⟨hv, _⟩ | ⟨g', cap, cur, hv, hgb, hh, hc, _⟩
  · injection hv with _ h2 h3; omega
  · injection hv with _ h2 h3; omega
end Go.Cw
namespace Go.Proofs.YtedegedceeefdaaDoor
open Go.RowKit Go.Cw Cu
set_option maxRecDepth 100000
set_option maxHeartbeats 4000000
set_option linter.unusedVariables false
set_option linter.unusedSimpArgs false
/-- The state after k blocks. -/
def stk (m : List UInt8) (k : Nat) : St := (absorb init (m.take (64 * k))).1
theorem stk_zero (m : List UInt8) : stk m 0 = init := by
  unfold stk
  rw [Nat.mul_zero, List.take_zero]; rfl
theorem stk_succ (m : List UInt8) (k : Nat) (h : 64 * (k + 1) ≤ m.length) : stk m (k + 1) = compress (stk m k) ((m.drop (64 * k)).take 64) := by
  unfold stk
  have e : m.take (64 * (k + 1)) = m.take (64 * k) ++ (m.drop (64 * k)).take 64 := by rw [show 64 * (k + 1) = 64 * k + 64 by omega, List.take_add]
  have hl : (m.take (64 * k)).length = 64 * k := by rw [List.length_take]; omega
  have hr := absorb_rest (64 * k) init (m.take (64 * k)) (by omega)
  rw [hl, show 64 * k % 64 = 0 by omega] at hr
  have hb : ((m.drop (64 * k)).take 64).length = 64 := by rw [List.length_take, List.length_drop]; omega
  rw [e, absorb_append (64 * k) _ _ _ (by omega), List.length_eq_zero_iff.1 hr, List.nil_append]
  generalize (m.drop (64 * k)).take 64 = blk at *
  rw [absorb_big _ _ (by omega), List.take_of_length_le (show blk.length ≤ 64 by omega), List.drop_of_length_le (show blk.length ≤ 64 by omega), absorb_small _ _ (by simp)]
theorem stk_lt (m : List UInt8) (k : Nat) : St.Lt (stk m k) := absorbF_lt _ _ _ init_lt
theorem stk_end (m : List UInt8) (q : Nat) (h : m.length = 64 * q) : stk m q = (absorb init m).1 := by
  unfold stk
  rw [List.take_of_length_le (by omega)]
theorem pad_len (n : Nat) : ∃ q, n + (pad n).length = 64 * q := by
  refine ⟨(n + (pad n).length) / 64, ?_⟩
  have : (pad n).length = 1 + ((119 - n % 64) % 64 + 8) := by simp [pad]; omega
  omega
theorem mix3_u32 (x i j k : Nat) (hx : x < 4294967296) : bits BinOp.xor IntKind.u32 (bits BinOp.xor IntKind.u32 (rotr x i : Int) (rotr x j : Int)) (rotr x k : Int) = (mix3 x i j k : Int) := by
  have l1 := rotr_lt x i hx
  have l2 := rotr_lt x j hx
  have l3 := rotr_lt x k hx
  rw [xor_u32 _ _ l1 l2, xor_u32 _ _ (Nat.xor_lt_two_pow (n := 32) l1 l2) l3]
  rfl
def rx (r : St) (k x : Nat) : Nat := (r.h + mix3 r.e 6 11 25 + ((r.e &&& r.f) ^^^ ((r.e ^^^ 4294967295) &&& r.g)) + k + x) % 4294967296
def ry (r : St) : Nat := (mix3 r.a 2 13 22 + ((r.a &&& r.b) ^^^ (r.a &&& r.c) ^^^ (r.b &&& r.c))) % 4294967296
theorem round_xy (r : St) (k x : Nat) : (round r k x).list = [(rx r k x + ry r) % 4294967296, r.a, r.b, r.c, (r.d + rx r k x) % 4294967296, r.e, r.f, r.g] := rfl
theorem rx_u32 (r : St) (hr : St.Lt r) (k x : Nat) :
    (((r.h : Int) + bits BinOp.xor IntKind.u32 (bits BinOp.xor IntKind.u32 (rotr r.e 6 : Int) (rotr r.e 11 : Int)) (rotr r.e 25 : Int) + bits BinOp.xor IntKind.u32 (bits BinOp.and IntKind.u32 (r.e : Int) (r.f : Int)) (bits BinOp.and IntKind.u32 (bits BinOp.xor IntKind.u32 (r.e : Int) 4294967295) (r.g : Int)) + (k : Int)) % 4294967296 + (x : Int)) % 4294967296 = ((rx r k x : Nat) : Int) := by
  rw [mix3_u32 _ _ _ _ hr.e, and_u32 _ _ hr.e hr.f, show (4294967295 : Int) = ((4294967295 : Nat) : Int) from rfl, xor_u32 _ _ hr.e (by omega), and_u32 _ _ (xor_lt _ _ hr.e (by omega)) hr.g, xor_u32 _ _ (and_lt _ _ hr.e) (and_lt _ _ (xor_lt _ _ hr.e (by omega)))]
  unfold rx
  generalize (r.e &&& r.f) ^^^ ((r.e ^^^ 4294967295) &&& r.g) = m
  generalize mix3 r.e 6 11 25 = n
  omega
theorem ry_u32 (r : St) (hr : St.Lt r) :
    (bits BinOp.xor IntKind.u32 (bits BinOp.xor IntKind.u32 (rotr r.a 2 : Int) (rotr r.a 13 : Int)) (rotr r.a 22 : Int) + bits BinOp.xor IntKind.u32 (bits BinOp.xor IntKind.u32 (bits BinOp.and IntKind.u32 (r.a : Int) (r.b : Int)) (bits BinOp.and IntKind.u32 (r.a : Int) (r.c : Int))) (bits BinOp.and IntKind.u32 (r.b : Int) (r.c : Int))) % 4294967296 = ((ry r : Nat) : Int) := by
  rw [mix3_u32 _ _ _ _ hr.a, maj_u32 _ _ _ hr.a hr.b hr.c]
  unfold ry
  generalize (r.a &&& r.b) ^^^ (r.a &&& r.c) ^^^ (r.b &&& r.c) = m
  generalize mix3 r.a 2 13 22 = n
  omega
theorem rx_lt (r : St) (k x : Nat) : rx r k x < 4294967296 := Nat.mod_lt _ (by omega)
theorem ry_lt (r : St) : ry r < 4294967296 := Nat.mod_lt _ (by omega)
def sumE (s r : St) (n : Nat) : List Nat := (s.add r).list.take n ++ s.list.drop n
theorem sumE_end (s r : St) : sumE s r 8 = (s.add r).list := rfl
theorem list_at (r : St) (j : Nat) (hj : j < 8) : (uv r.list)[j]? = some (.int .u32 ((r.list.getD j 0 : Nat) : Int)) := by
  obtain rfl | rfl | rfl | rfl | rfl | rfl | rfl | rfl : j = 0 ∨ j = 1 ∨ j = 2 ∨ j = 3 ∨ j = 4 ∨ j = 5 ∨ j = 6 ∨ j = 7 := by omega
  all_goals rfl
theorem sumE_at (s r : St) (j : Nat) (hj : j < 8) : (uv (sumE s r j))[j]? = some (.int .u32 ((s.list.getD j 0 : Nat) : Int)) := by
  obtain rfl | rfl | rfl | rfl | rfl | rfl | rfl | rfl : j = 0 ∨ j = 1 ∨ j = 2 ∨ j = 3 ∨ j = 4 ∨ j = 5 ∨ j = 6 ∨ j = 7 := by omega
  all_goals rfl
theorem sumE_set (s r : St) (j : Nat) (hj : j < 8) : (uv (sumE s r j)).set j (.int .u32 ((add32 (s.list.getD j 0) (r.list.getD j 0) : Nat) : Int)) = uv (sumE s r (j + 1)) := by
  obtain rfl | rfl | rfl | rfl | rfl | rfl | rfl | rfl : j = 0 ∨ j = 1 ∨ j = 2 ∨ j = 3 ∨ j = 4 ∨ j = 5 ∨ j = 6 ∨ j = 7 := by omega
  all_goals rfl
theorem ref02_Sum (bs : List UInt8) (A : Option Addr) (n c : Nat) (hn : n ≤ 140737488350000) (w : World) (hrd : Rd w A n 1 (bv bs)) (ht : Tab w 1 (uv ks)) :
    Calls Tryd.prog 163 #[.slice A n c] w fun e w' => e = .returned (.agg (bv (sha bs)).toArray) ∧ Below w.heap.size w w' := by
  have hl := hrd.len
  rw [bv_length, Nat.mul_one] at hl
  obtain ⟨q, hq⟩ := pad_len bs.length
  generalize hMP : bs ++ pad bs.length = MP
  have hML : MP.length = 64 * q := by rw [← hMP, List.length_append]; exact hq
  have hsha : sha bs = (stk MP q).list.flatMap outWord := by rw [stk_end _ _ hML, ← hMP]; rfl
  have hqb : 64 * q ≤ 140737488351232 := by
    have : (pad bs.length).length = 1 + ((119 - bs.length % 64) % 64 + 8) := by simp [pad]; omega
    omega
  generalize hres : sha bs = res at hsha
  have HSHA := Shut.mk hsha
  have HML := Shut.mk hML
  have HMP := Shut.mk hMP
  have HT := Shut.mk ht
  clear hsha hML hMP ht hq hl hres
  generalize hks : ks = kk at HT
  have HKK := Shut.mk hks
  clear hks
  have hg : 1 < w.heap.size := HT.out.lt (by rw [← HKK.out]; rfl)
  go_enter Tryd.func163, Tryd.ntmps163
  go_wp2_with fail
  have hR0 := (Blk.new w 158 (bv (List.replicate 32 0))).alloc (.cells (uv init.list).toArray 183)
  have hS0 := Blk.new (w.alloc (.cells (bv (List.replicate 32 0)).toArray 158)) 183 (uv init.list)
  have hb0 := (below_alloc w (.cells (bv (List.replicate 32 0)).toArray 158)).alloc (by simp) (.cells (uv init.list).toArray 183)
  have hz : ((w.alloc (.cells (bv (List.replicate 32 0)).toArray 158)).alloc (.cells (uv init.list).toArray 183)).heap.size = w.heap.size + 2 := by simp
  rw [show (w.alloc (.cells (bv (List.replicate 32 0)).toArray 158)).heap.size = w.heap.size + 1 by simp] at hS0
  change Calls _ _ _ ((w.alloc (.cells (bv (List.replicate 32 0)).toArray 158)).alloc (.cells (uv init.list).toArray 183)) _
  generalize (w.alloc (.cells (bv (List.replicate 32 0)).toArray 158)).alloc (.cells (uv init.list).toArray 183) = w1 at *
  refine (ref02_padded bs A n c hn w1 (hrd.below hb0)).mono ?_
  rintro e w2 ⟨D, dc, rfl, hown, hb2⟩
  rw [HMP.out] at hown ⊢
  rw [HML.out, hz] at hown
  rw [HML.out]
  have hbw := hb0.trans (hb2.mono (by omega))
  have HR0 := Shut.mk (hR0.below hb2)
  have HS0 := Shut.mk (hS0.below hb2)
  have hz2 : w.heap.size + 2 ≤ w2.heap.size := by have := hb2.size; omega
  have HO0 := Shut.mk hown
  clear hR0 hS0 hb0 hz hb2 hown
  go_wp2_with fail
  go_loopw [5] (fun i wr => ∃ k : Nat, k ≤ q ∧ i = .int .i64 ((64 * k : Nat) : Int) ∧ Shut (Blk wr (w.heap.size + 1) 183 (uv (stk MP k).list)) ∧ Shut (Blk wr w.heap.size 158 (bv (List.replicate 32 0))) ∧
    Shut (wr.ownsRow (w.heap.size + 2) 5 1 (.slice D (64 * q) dc) (64 * q) (bv MP)) ∧ Below w.heap.size w wr ∧ w.heap.size + 2 ≤ wr.heap.size) (fun i _ => 64 * q - (intOf i).toNat)
  case atStart => exact ⟨0, by omega, rfl, by rw [stk_zero]; exact HS0, HR0, HO0, hbw, hz2⟩
  case round =>
    clear HS0 HR0 HO0 hbw hz2
    obtain ⟨k, hk, rfl, HS, HR, HO, hbw, hsz⟩ := hrel
    by_cases hkq : k < q
    · go_wp2_with (with_reducible refine stop_slice ?_)
      refine at_slice_lohi_f eltB (l := 64 * k) (u := 64 * k + 64) (ui := 64 * (k : Int) + 64) rfl rfl rfl rfl (by omega) (own_cap HO.out) (by omega) (by omega) ?_
      intro D2 hsub
      have hrd2 := hsub wr _ (own_Rd HO.out)
      clear hsub
      rw [bv_drop, bv_take, Nat.mul_one, Nat.mul_one, show 64 * k + 64 - 64 * k = 64 by omega] at hrd2
      rw [show 64 * k + 64 - 64 * k = 64 by omega]
      have hbl : ((MP.drop (64 * k)).take 64).length = 64 := by have := HML.out; rw [List.length_take, List.length_drop]; omega
      have hnext := stk_succ MP k (by have := HML.out; omega)
      have hslt := stk_lt MP k
      generalize (MP.drop (64 * k)).take 64 = blk at *
      generalize hs : stk MP k = s at *
      have HNX := Shut.mk hnext
      have HS' := HS
      clear hnext hs HS
      have hdc := own_cap HO.out
      go_wp2_with fail
      refine (ref02_words blk hbl D2 _ (by omega) wr hrd2).mono ?_
      rintro e w3 ⟨rfl, hb3⟩
      have hwsl : (sched blk).length = 64 := sched_length blk hbl
      have hwlt := sched_lt blk
      generalize hws : sched blk = ws at *
      have HWS := Shut.mk hws
      clear hws hrd2
      have hlen : (uv ws).length = 64 := by rw [uv_length, hwsl]
      replace HS' := Shut.mk (HS'.out.below hb3)
      replace HR := Shut.mk (HR.out.below hb3)
      replace HO := Shut.mk (own_below HO.out hb3)
      replace hbw := hbw.trans (hb3.mono hbw.size)
      replace hsz : w.heap.size + 2 ≤ w3.heap.size := by have := hb3.size; omega
      clear hb3
      go_wp2_with (with_reducible refine stop_store ?_)
      have hW := Blk.new w3 212 (uv (List.replicate 64 0))
      have hal := below_alloc w3 (.cells (uv (List.replicate 64 0)).toArray 212)
      change StopAt _ _ _ _ _ _ (w3.alloc (.cells (uv (List.replicate 64 0)).toArray 212))
      have hz4 : (w3.alloc (.cells (uv (List.replicate 64 0)).toArray 212)).heap.size = w3.heap.size + 1 := by simp
      generalize w3.alloc (.cells (uv (List.replicate 64 0)).toArray 212) = w4 at *
      refine at_store_blk aggW rfl rfl hlen (by rfl) hW (uv_one _) ?_
      intro hW2
      have hal2 := hal.trans (below_setRow (Below.refl w3.heap.size w4) (Nat.le_refl _) (uv ws).toArray)
      have hz5 : (w4.setRow w3.heap.size (uv ws).toArray).heap.size = w3.heap.size + 1 := by rw [size_setRow, hz4]
      generalize w4.setRow w3.heap.size (uv ws).toArray = w5 at *
      replace HS' := Shut.mk (HS'.out.below hal2)
      replace HR := Shut.mk (HR.out.below hal2)
      replace HO := Shut.mk (own_below HO.out hal2)
      replace hbw := hbw.trans (hal2.mono hbw.size)
      have HW2 := Shut.mk hW2
      obtain ⟨W, hW0⟩ : ∃ W, W = w3.heap.size := ⟨_, rfl⟩
      rw [← hW0] at HW2 hz5 hsz ⊢
      clear hW hal hz4 hal2 hW2 hW0
      clear w4 w3
      go_wp2_with (first | (with_reducible refine stop_load ?_) | (with_reducible refine stop_store ?_))
      refine at_load_blk aggS rfl rfl HS'.out ?_
      go_wp2_with (first | (with_reducible refine stop_load ?_) | (with_reducible refine stop_store ?_))
      have hV := Blk.new w5 183 (uv (List.replicate 8 0))
      have hal := below_alloc w5 (.cells (uv (List.replicate 8 0)).toArray 183)
      change StopAt _ _ _ _ _ _ (w5.alloc (.cells (uv (List.replicate 8 0)).toArray 183))
      have hz6 : (w5.alloc (.cells (uv (List.replicate 8 0)).toArray 183)).heap.size = W + 2 := by simp [hz5]
      rw [hz5] at hV hal
      generalize w5.alloc (.cells (uv (List.replicate 8 0)).toArray 183) = w6 at *
      refine at_store_blk aggS rfl rfl rfl (by rfl) hV (uv_one _) ?_
      intro hV2
      have hal2 := hal.trans (below_setRow (Below.refl (W + 1) w6) (Nat.le_refl _) (uv s.list).toArray)
      generalize w6.setRow (W + 1) (uv s.list).toArray = w7 at *
      rw [← hz5] at hal2
      replace HS' := Shut.mk (HS'.out.below hal2)
      replace HR := Shut.mk (HR.out.below hal2)
      replace HO := Shut.mk (own_below HO.out hal2)
      replace HW2 := Shut.mk (HW2.out.below hal2)
      replace hbw := hbw.trans (hal2.mono hbw.size)
      have HV2 := Shut.mk hV2
      clear hV hal hal2 hV2 hz6 hz5
      clear w6 w5
      have hks : kk.length = 64 := by rw [← HKK.out]; rfl
      have hkt : ∀ x ∈ kk, x < 4294967296 := by rw [← HKK.out]; decide +kernel
      go_wp2_with fail
      obtain ⟨wo, rfl⟩ : ∃ wo : World, wo = wr := ⟨_, rfl⟩
      go_loopw [8] (fun i wr => ∃ (t : Nat) (r : St), t ≤ 64 ∧ i = .int .i64 t ∧ Shut (r = rounds (kk.take t) (ws.take t) s) ∧ Shut (St.Lt r) ∧ Shut (Blk wr (W + 1) 183 (uv r.list)) ∧ Shut (Blk wr W 212 (uv ws)) ∧
        Shut (Blk wr (w.heap.size + 1) 183 (uv s.list)) ∧ Shut (Blk wr w.heap.size 158 (bv (List.replicate 32 0))) ∧ Shut (wr.ownsRow (w.heap.size + 2) 5 1 (.slice D (64 * q) dc) (64 * q) (bv MP)) ∧ Below w.heap.size w wr) (fun i _ => 64 - (intOf i).toNat)
      case atStart => exact ⟨0, s, by omega, rfl, ⟨by simp [rounds]⟩, ⟨hslt⟩, HV2, HW2, HS', HR, HO, hbw⟩
      case round =>
        clear HV2 HW2 HS' HR HO hbw
        obtain ⟨t, r, ht64, rfl, Hr, HL, HV, HW, HS, HR, HO, hbw⟩ := hrel
        by_cases h64 : t < 64
        · obtain ⟨x, hx⟩ : ∃ x, kk[t]? = some x := ⟨_, List.getElem?_eq_getElem (by omega)⟩
          obtain ⟨y, hy⟩ : ∃ y, ws[t]? = some y := ⟨_, List.getElem?_eq_getElem (by omega)⟩
          have v0 := HV.out.cell (j := 0) (v := .int .u32 r.a) rfl
          have v1 := HV.out.cell (j := 1) (v := .int .u32 r.b) rfl
          have v2 := HV.out.cell (j := 2) (v := .int .u32 r.c) rfl
          have v3 := HV.out.cell (j := 3) (v := .int .u32 r.d) rfl
          have v4 := HV.out.cell (j := 4) (v := .int .u32 r.e) rfl
          have v5 := HV.out.cell (j := 5) (v := .int .u32 r.f) rfl
          have v6 := HV.out.cell (j := 6) (v := .int .u32 r.g) rfl
          have v7 := HV.out.cell (j := 7) (v := .int .u32 r.h) rfl
          have cw := HW.out.cell (j := t) (v := .int .u32 y) (by simp [uv, hy])
          have ck := (HT.out.below hbw hg) t (.int .u32 x) (by simp [uv, hx])
          have la : r.a < 4294967296 := HL.out.a
          have le : r.e < 4294967296 := HL.out.e
          have LA := Shut.mk la
          have LE := Shut.mk le
          have HKX := Shut.mk (And.intro hx hy)
          clear la le hx hy
          have dt : (t : Int) < 64 := by omega
          go_wp2_with fail
          go_quiet ((go_at_call 184; refine Calls.quiet_of (ref02_rot r.e _ (by decide) LE.out _)))
          rw [rx_u32 r HL.out x y]
          have hq : Drw wr (wr.drewN nq) := ⟨_, rfl⟩
          replace v0 : (wr.drewN nq).cell? _ = _ := v0
          replace v1 : (wr.drewN nq).cell? _ = _ := v1
          replace v2 : (wr.drewN nq).cell? _ = _ := v2
          clear v3 v4 v5 v6 v7 cw ck
          replace HV := Shut.mk (HV.out.drw hq)
          replace HW := Shut.mk (HW.out.drw hq)
          replace HS := Shut.mk (HS.out.drw hq)
          replace HR := Shut.mk (HR.out.drw hq)
          replace HO := Shut.mk (hq.own HO.out)
          replace hbw := below_then hbw (Drw.below hq) hbw.size
          clear hq
          generalize wr.drewN nq = wq at *
          have hxl := rx_lt r x y
          have hrnd := round_xy r x y
          generalize rx r x y = X at *
          have HRND := Shut.mk hrnd
          clear hrnd
          go_wp2_with fail
          go_quiet ((go_at_call 184; refine Calls.quiet_of (ref02_rot r.a _ (by decide) LA.out _)))
          rw [ry_u32 r HL.out]
          have hq : Drw wq (wq.drewN nq) := ⟨_, rfl⟩
          clear v0 v1 v2
          replace HV := Shut.mk (HV.out.drw hq)
          replace HW := Shut.mk (HW.out.drw hq)
          replace HS := Shut.mk (HS.out.drw hq)
          replace HR := Shut.mk (HR.out.drw hq)
          replace HO := Shut.mk (hq.own HO.out)
          replace hbw := below_then hbw (Drw.below hq) hbw.size
          clear hq
          generalize wq.drewN nq = wp at *
          have hyl := ry_lt r
          generalize ry r = Y at *
          have v0 := HV.out.cell (j := 0) (v := .int .u32 r.a) rfl
          have v1 := HV.out.cell (j := 1) (v := .int .u32 r.b) rfl
          have v2 := HV.out.cell (j := 2) (v := .int .u32 r.c) rfl
          have v3 := HV.out.cell (j := 3) (v := .int .u32 r.d) rfl
          have v4 := HV.out.cell (j := 4) (v := .int .u32 r.e) rfl
          have v5 := HV.out.cell (j := 5) (v := .int .u32 r.f) rfl
          have v6 := HV.out.cell (j := 6) (v := .int .u32 r.g) rfl
          go_wp2_with (with_reducible refine stop_store ?_)
          have hvs : [Value.int .u32 (((X : Int) + (Y : Int)) % 4294967296), .int .u32 (r.a : Int), .int .u32 (r.b : Int), .int .u32 (r.c : Int), .int .u32 (((r.d : Int) + (X : Int)) % 4294967296), .int .u32 (r.e : Int), .int .u32 (r.f : Int), .int .u32 (r.g : Int)] = uv (round r x y).list := by
            rw [HRND.out]; simp [uv]
          refine at_store_blk aggS (vs := [Value.int .u32 (((X : Int) + (Y : Int)) % 4294967296), .int .u32 (r.a : Int), .int .u32 (r.b : Int), .int .u32 (r.c : Int), .int .u32 (((r.d : Int) + (X : Int)) % 4294967296), .int .u32 (r.e : Int), .int .u32 (r.f : Int), .int .u32 (r.g : Int)]) rfl rfl rfl (by rfl) HV.out (by simp [Value.oneCell']) ?_
          rw [hvs]
          intro hV2
          have HV2 := Shut.mk hV2
          clear v0 v1 v2 v3 v4 v5 v6 hvs hV2
          replace HW := Shut.mk (HW.out.setRow_other (g' := W + 1) (by omega) (uv (round r x y).list).toArray)
          replace HS := Shut.mk (HS.out.setRow_other (g' := W + 1) (by omega) (uv (round r x y).list).toArray)
          replace HR := Shut.mk (HR.out.setRow_other (g' := W + 1) (by omega) (uv (round r x y).list).toArray)
          have HVL := HV.out.lt
          replace HO := Shut.mk (own_ne HO.out HV2.out (by decide))
          replace hbw := below_setRow hbw (show w.heap.size ≤ W + 1 by omega) (uv (round r x y).list).toArray
          clear HV
          generalize wp.setRow (W + 1) (uv (round r x y).list).toArray = wz at *
          go_wp2_with fail
          go_roundw
          case rel =>
            refine ⟨t + 1, round r x y, by omega, by go_num, ⟨?_⟩, ⟨round_lt r HL.out x y⟩, HV2, HW, HS, HR, HO, hbw⟩
            rw [rounds_next kk ws hks hwsl t x y h64 HKX.out.1 HKX.out.2, ← Hr.out]
          case measure => simp [intOf]; omega
        · obtain rfl : t = 64 := by omega
          have Hr2 : Shut (r = rounds kk ws s) := ⟨by have h := Hr.out; rwa [List.take_of_length_le (by omega), List.take_of_length_le (by omega)] at h⟩
          clear Hr
          have HS0 : Shut (Blk wr (w.heap.size + 1) 183 (uv (sumE s r 0))) := ⟨HS.out⟩
          clear HS HW
          go_wp2_with fail
          go_loopw [11] (fun i wr => ∃ j : Nat, j ≤ 8 ∧ i = .int .i64 j ∧ Shut (Blk wr (W + 1) 183 (uv r.list)) ∧ Shut (Blk wr (w.heap.size + 1) 183 (uv (sumE s r j))) ∧ Shut (Blk wr w.heap.size 158 (bv (List.replicate 32 0))) ∧
            Shut (wr.ownsRow (w.heap.size + 2) 5 1 (.slice D (64 * q) dc) (64 * q) (bv MP)) ∧ Below w.heap.size w wr) (fun i _ => 8 - (intOf i).toNat)
          case atStart => exact ⟨0, by omega, rfl, HV, HS0, HR, HO, hbw⟩
          case round =>
            clear HV HS0 HR HO hbw
            obtain ⟨j, hj, rfl, HV, HS, HR, HO, hbw⟩ := hrel
            by_cases hj8 : j < 8
            · have cv := HV.out.cell (list_at r j hj8)
              have cs := HS.out.cell (sumE_at s r j hj8)
              have fs := HS.out.free j
              have hset := sumE_set s r j hj8
              have HSET := Shut.mk hset
              clear hset
              generalize s.list.getD j 0 = sa at *
              generalize r.list.getD j 0 = va at *
              have dj : (j : Int) < 8 := by omega
              go_wp2_with fail
              go_region
              rw [show ((sa : Int) + (va : Int)) % 4294967296 = ((add32 sa va : Nat) : Int) by unfold add32; omega]
              have hdq : Drw (wr.setCell ⟨w.heap.size + 1, j, none⟩ (.int .u32 ((add32 sa va : Nat) : Int))) (wr.setCell ⟨w.heap.size + 1, j, none⟩ (.int .u32 ((add32 sa va : Nat) : Int))).drew := ⟨1, rfl⟩
              replace HV := Shut.mk ((HV.out.other (g' := w.heap.size + 1) (by omega) j (.int .u32 ((add32 sa va : Nat) : Int))).drw hdq)
              replace HR := Shut.mk ((HR.out.other (g' := w.heap.size + 1) (by omega) j (.int .u32 ((add32 sa va : Nat) : Int))).drw hdq)
              replace HO := Shut.mk (hdq.own (ownsRow_setCell_below (a := ⟨w.heap.size + 1, j, none⟩) HO.out (by simp) (.int .u32 ((add32 sa va : Nat) : Int))))
              have hS2 := (HS.out.set j (.int .u32 ((add32 sa va : Nat) : Int))).drw hdq
              rw [HSET.out] at hS2
              replace HS := Shut.mk hS2
              replace hbw := below_then (hbw.setCell (p := ⟨w.heap.size + 1, j, none⟩) (by simp) (.int .u32 ((add32 sa va : Nat) : Int))) (Drw.below hdq) (by have := hbw.size; simpa [World.setCell] using this)
              clear hdq cv cs fs hS2 HSET
              generalize (wr.setCell ⟨w.heap.size + 1, j, none⟩ (.int .u32 ((add32 sa va : Nat) : Int))).drew = wl at *
              go_wp2_with fail
              refine ⟨⟨j + 1, by omega, by go_num, HV, HS, HR, HO, hbw⟩, by simp [intOf]; omega⟩
            · obtain rfl : j = 8 := by omega
              have hS := HS.out
              have he : sumE s r 8 = (stk MP (k + 1)).list := by
                rw [HNX.out, sumE_end, Hr2.out, ← HKK.out, ← HWS.out]; rfl
              rw [he] at hS
              have HS2 := Shut.mk hS
              clear hS he HS
              go_wp2_with fail
              refine ⟨⟨k + 1, by omega, by go_num, HS2, HR, HO, hbw, by have := HS2.out.lt; have := HV.out.lt; omega⟩, by simp [intOf]; omega⟩
    · obtain rfl : k = q := by omega
      have hslt := stk_lt MP k
      generalize stk MP k = h3 at *
      go_wp2_with fail
      have hB5 := HS.out.alloc (.cells (bv (List.replicate 32 0)).toArray 158)
      have hR5 := HR.out.alloc (.cells (bv (List.replicate 32 0)).toArray 158)
      have hO5 := Blk.new wr 158 (bv (List.replicate 32 0))
      have hb5 := hbw.alloc hbw.size (.cells (bv (List.replicate 32 0)).toArray 158)
      change Code.wp _ _ _ _ (wr.alloc (.cells (bv (List.replicate 32 0)).toArray 158))
      obtain ⟨O, hO⟩ : ∃ O, O = wr.heap.size := ⟨_, rfl⟩
      rw [← hO] at hO5 hsz ⊢
      clear hO hbw HS HR HO
      generalize wr.alloc (.cells (bv (List.replicate 32 0)).toArray 158) = w5 at *
      go_loopw [13] (fun i wr => ∃ t : Nat, t ≤ 32 ∧ i = .int .i64 t ∧ Shut (Blk wr (w.heap.size + 1) 183 (uv h3.list)) ∧ Shut (Blk wr w.heap.size 158 (bv (List.replicate 32 0))) ∧
        Shut (Blk wr O 158 (bv (outL h3 t))) ∧ Below w.heap.size w wr) (fun i _ => 32 - (intOf i).toNat)
      case atStart => exact ⟨0, by omega, rfl, ⟨hB5⟩, ⟨hR5⟩, ⟨hO5⟩, hb5⟩
      case round =>
        clear hB5 hR5 hO5 hb5
        obtain ⟨t, ht, rfl, HB, HRs, HO, hbw⟩ := hrel
        by_cases h32 : t < 32
        · have cs := HB.out.cell (list_at h3 (t / 4) (by omega))
          have co := HO.out.cell (outL_at h3 t h32)
          have fo := HO.out.free t
          have hX := out_byte h3 t h32
          have HX := Shut.mk hX
          have hlt : h3.list.getD (t / 4) 0 < 4294967296 := by
            rw [List.getD_eq_getElem?_getD]
            cases hh : h3.list[t / 4]? with
            | none => simp
            | some x => exact hslt x (List.mem_of_getElem? hh)
          generalize h3.list.getD (t / 4) 0 = v at *
          clear hX
          have d4 : (t : Int) / 4 < 8 := by omega
          have n4 : ((t : Int) / 4).toNat = t / 4 := by omega
          go_wp2_with fail
          have hv : (v : Int) / 2 ^ (24 - 8 * (t % 4)) % 256 = ((UInt8.ofNat (v / 2 ^ (24 - 8 * (t % 4)))).toNat : Int) := by
            simp
          rw [hv]
          refine ⟨⟨t + 1, by omega, by go_num, ⟨HB.out.other (by omega) _ _⟩, ⟨HRs.out.other (by omega) _ _⟩, ⟨?_⟩, hbw.setCell (by simp; omega) _⟩, by simp [intOf]; omega⟩
          have h := HO.out.set t (.int .u8 ((UInt8.ofNat (v / 2 ^ (24 - 8 * (t % 4)))).toNat : Int))
          rw [outL_set h3 t h32 _ HX.out] at h
          exact h
        · obtain rfl : t = 32 := by omega
          have hO := HO.out
          have hfin : outL h3 32 = res := by rw [outL_end, ← HSHA.out]
          rw [hfin] at hO
          have hlr : (bv res).length = 32 := by rw [← hfin]; rfl
          have HO2 := Shut.mk hO
          clear hO hfin HO
          go_wp2_with (first | (with_reducible refine stop_load ?_) | (with_reducible refine stop_store ?_))
          refine at_load_blk aggH rfl hlr HO2.out ?_
          go_wp2_with (first | (with_reducible refine stop_load ?_) | (with_reducible refine stop_store ?_))
          refine at_store_blk aggH rfl rfl hlr (by rfl) HRs.out (bv_one' _) ?_
          intro hB2
          go_wp2_with fail
          exact ret_blk rfl aggH rfl hlr hB2 rfl ⟨rfl, below_setRow hbw (by omega) _⟩
end Go.Proofs.YtedegedceeefdaaDoor
/-! Walks: package custodyref02, Short, Of, Text. -/
namespace Go.Proofs.YtedegedceeefdaaDoor
open Go.RowKit Go.Cw Cu
set_option maxRecDepth 100000
set_option maxHeartbeats 1000000
set_option linter.unusedVariables false
set_option linter.unusedSimpArgs false
def shL (bs : List UInt8) (t : Nat) : List UInt8 := (sha bs).take t ++ List.replicate (16 - t) 0
theorem sha_length (bs : List UInt8) : (sha bs).length = 32 := rfl
theorem shL_set (bs : List UInt8) (t : Nat) (ht : t < 16) (x : UInt8) (hx : (sha bs)[t]? = some x) : (bv (shL bs t)).set t (.int .u8 (x.toNat : Int)) = bv (shL bs (t + 1)) := by
  have hl : (bv ((sha bs).take t)).length = t := by rw [bv_length, List.length_take, sha_length]; omega
  unfold shL
  rw [bv_append, bv_append, List.set_append_right _ _ (by omega), hl, Nat.sub_self, List.take_add_one, hx, show 16 - t = (16 - (t + 1)) + 1 by omega, List.replicate_succ, bv_append]
  simp [bv]
theorem shL_at (bs : List UInt8) (t : Nat) (ht : t < 16) : (bv (shL bs t))[t]? = some (.int .u8 0) := by
  unfold shL bv
  rw [List.getElem?_map, List.getElem?_append_right (by rw [List.length_take, sha_length]; omega), List.length_take, sha_length, Nat.min_eq_left (by omega), Nat.sub_self, List.getElem?_replicate, if_pos (by omega)]
  rfl
theorem ref02_Short (bs : List UInt8) (A : Option Addr) (n c : Nat) (hn : n ≤ 140737488350000) (w : World) (hrd : Rd w A n 1 (bv bs)) (ht : Tab w 1 (uv ks)) :
    Calls Tryd.prog 125 #[.slice A n c] w fun e w' => e = .returned (.agg (bv ((sha bs).take 16)).toArray) ∧ Below w.heap.size w w' := by
  have HT := Shut.mk ht
  clear ht
  have hg : 1 < w.heap.size := HT.out.lt rfl
  go_enter Tryd.func125, Tryd.ntmps125
  go_wp2_with fail
  have hR0 := Blk.new w 36 (bv (List.replicate 16 0))
  have hb0 := below_alloc w (.cells (bv (List.replicate 16 0)).toArray 36)
  change Calls _ _ _ (w.alloc (.cells (bv (List.replicate 16 0)).toArray 36)) _
  have hz : (w.alloc (.cells (bv (List.replicate 16 0)).toArray 36)).heap.size = w.heap.size + 1 := by simp
  generalize w.alloc (.cells (bv (List.replicate 16 0)).toArray 36) = w1 at *
  refine (ref02_Sum bs A n c hn w1 (hrd.below hb0) (HT.out.below hb0 hg)).mono ?_
  rintro e w2 ⟨rfl, hb2⟩
  have HR := Shut.mk (hR0.below hb2)
  have hbw := hb0.trans (hb2.mono (by omega))
  have hsz : w.heap.size + 1 ≤ w2.heap.size := by have := hb2.size; omega
  clear hR0 hb0 hz hb2 w1
  have hsl : (bv (sha bs)).length = 32 := rfl
  go_wp2_with (first | (with_reducible refine stop_store ?_))
  refine at_store_new aggH rfl rfl hsl (by rfl) (bv_one' _) ?_
  intro w4 hH hal hz4
  replace HR := Shut.mk (HR.out.below hal)
  replace hbw := hbw.trans (hal.mono hbw.size)
  have HH := Shut.mk hH
  obtain ⟨H, hH0⟩ : ∃ H, H = w2.heap.size := ⟨_, rfl⟩
  rw [← hH0] at HH hz4 hsz ⊢
  clear hH hal hH0
  clear w2
  go_wp2_with (first | (with_reducible refine stop_store ?_))
  rw [← hz4]
  refine at_store_new aggG (vs := bv (List.replicate 16 0)) rfl rfl rfl (by rfl) (bv_one' _) ?_
  intro w5 hO hal hz5
  replace HR := Shut.mk (HR.out.below hal)
  replace HH := Shut.mk (HH.out.below hal)
  replace hbw := hbw.trans (hal.mono hbw.size)
  rw [hz4] at hO ⊢
  have HO0 := Shut.mk hO
  clear hO hal hz5 hz4
  clear w4
  go_wp2_with fail
  go_loopw [5] (fun i wr => ∃ t : Nat, t ≤ 16 ∧ i = .int .i64 t ∧ Shut (Blk wr H 158 (bv (sha bs))) ∧ Shut (Blk wr w.heap.size 36 (bv (List.replicate 16 0))) ∧
    Shut (Blk wr (H + 1) 36 (bv (shL bs t))) ∧ Below w.heap.size w wr) (fun i _ => 16 - (intOf i).toNat)
  case atStart => exact ⟨0, by omega, rfl, HH, HR, HO0, hbw⟩
  case round =>
    clear HH HR HO0 hbw
    obtain ⟨t, ht, rfl, HB, HRs, HO, hbw⟩ := hrel
    by_cases h16 : t < 16
    · obtain ⟨x, hx⟩ : ∃ x, (sha bs)[t]? = some x := ⟨_, List.getElem?_eq_getElem (by rw [sha_length]; omega)⟩
      have cs := HB.out.cell (j := t) (v := .int .u8 (x.toNat : Int)) (by simp [bv, hx])
      have co := HO.out.cell (shL_at bs t h16)
      have fo := HO.out.free t
      have HX := Shut.mk hx
      clear hx
      go_wp2_with fail
      refine ⟨⟨t + 1, by omega, by go_num, ⟨HB.out.other (by omega) _ _⟩, ⟨HRs.out.other (by omega) _ _⟩, ⟨?_⟩, hbw.setCell (by simp; omega) _⟩, by simp [intOf]; omega⟩
      have h := HO.out.set t (.int .u8 (x.toNat : Int))
      rw [shL_set bs t h16 _ HX.out] at h
      exact h
    · obtain rfl : t = 16 := by omega
      have hO := HO.out
      have hfin : shL bs 16 = (sha bs).take 16 := by unfold shL; simp
      rw [hfin] at hO
      have hlr : (bv ((sha bs).take 16)).length = 16 := rfl
      have HO2 := Shut.mk hO
      clear hO hfin HO hsl
      go_wp2_with (first | (with_reducible refine stop_load ?_) | (with_reducible refine stop_store ?_))
      refine at_load_blk aggG rfl hlr HO2.out ?_
      go_wp2_with (first | (with_reducible refine stop_load ?_) | (with_reducible refine stop_store ?_))
      refine at_store_blk aggG rfl rfl hlr (by rfl) HRs.out (bv_one' _) ?_
      intro hB2
      go_wp2_with fail
      exact ret_blk rfl aggG rfl hlr hB2 rfl ⟨rfl, below_setRow hbw (by omega) _⟩
theorem dig_def (tag : Nat) (ps : List (List UInt8)) : (sha (UInt8.ofNat tag :: ps.flatMap encBytes)).take 16 = dig tag ps := by unfold dig; rfl
theorem dig_length (tag : Nat) (ps : List (List UInt8)) : (dig tag ps).length = 16 := by unfold dig; rw [List.length_take, sha_length]; rfl
theorem ref02_Of (tag : Nat) (htag : tag < 256) (parts : List ByteArray) (hM : (UInt8.ofNat tag :: (parts.map sb).flatMap encBytes).length ≤ 140737488350000)
    (A : Option Addr) (n c : Nat) (w : World) (hrd : Rd w A n 1 (sv parts)) (ht : Tab w 1 (uv ks)) :
    Calls Tryd.prog 78 #[.int .i64 tag, .slice A n c] w fun e w' => e = .returned (.agg (bv (dig tag (parts.map sb))).toArray) ∧ Below w.heap.size w w' := by
  have HT := Shut.mk ht
  clear ht
  have hI := ref02_Input tag htag parts (by omega)
  have hd := dig_def tag (parts.map sb)
  have hlr : (bv (dig tag (parts.map sb))).length = 16 := by rw [bv_length, dig_length]
  generalize dig tag (parts.map sb) = res at *
  generalize UInt8.ofNat tag :: (parts.map sb).flatMap encBytes = msg at *
  have HD := Shut.mk hd
  have HI := Shut.mk hI
  clear hd hI
  have hg : 1 < w.heap.size := HT.out.lt rfl
  go_enter Tryd.func78, Tryd.ntmps78
  go_wp2_with fail
  have hR0 := Blk.new w 36 (bv (List.replicate 16 0))
  have hb0 := below_alloc w (.cells (bv (List.replicate 16 0)).toArray 36)
  change Calls _ _ _ (w.alloc (.cells (bv (List.replicate 16 0)).toArray 36)) _
  have hz : (w.alloc (.cells (bv (List.replicate 16 0)).toArray 36)).heap.size = w.heap.size + 1 := by simp
  generalize w.alloc (.cells (bv (List.replicate 16 0)).toArray 36) = w1 at *
  refine (HI.out A n c w1 (hrd.below hb0)).mono ?_
  rintro e w2 ⟨B, bc, rfl, hown, hb2⟩
  have hR2 := hR0.below hb2
  have hbw := hb0.trans (hb2.mono (by omega))
  go_wp2_with fail
  refine (ref02_Short _ B _ bc hM w2 (own_Rd hown) (HT.out.below hbw hg)).mono ?_
  rintro e w3 ⟨rfl, hb3⟩
  have HR3 := Shut.mk (hR2.below hb3)
  have hbw3 := hbw.trans (hb3.mono hbw.size)
  clear hR0 hR2 hb0 hb2 hb3 hbw hown hz
  rw [HD.out]
  go_wp2_with (first | (with_reducible refine stop_load ?_) | (with_reducible refine stop_store ?_))
  refine at_store_blk aggG rfl rfl hlr (by rfl) HR3.out (bv_one' _) ?_
  intro hB2
  go_wp2_with fail
  exact ret_blk rfl aggG rfl hlr hB2 rfl ⟨rfl, below_setRow hbw3 (Nat.le_refl _) _⟩
theorem ref02_Text (ds : List UInt8) (hl : ds.length = 16) (w : World) :
    Calls Tryd.prog 131 #[.agg (bv ds).toArray] w fun e w' => e = .returned (.string ⟨ds.toArray⟩) ∧ Below w.heap.size w w' := by
  go_enter Tryd.func131, Tryd.ntmps131
  go_wp2_with fail
  have hB := Blk.new w 36 (bv ds)
  have hb0 := below_alloc w (.cells (bv ds).toArray 36)
  generalize w.alloc (.cells (bv ds).toArray 36) = w1 at *
  go_loopw [4, 3] (fun i s wr => ∃ (t : Nat) (D : Option Addr) (d : Nat), t ≤ 16 ∧ i = .int .i64 t ∧ s = .slice D t d ∧ Shut (Blk wr w.heap.size 36 (bv ds)) ∧ Shut (wr.ownsRow (w.heap.size + 1) 5 1 (.slice D t d) t (bv (ds.take t))) ∧ Below w.heap.size w wr ∧ w.heap.size + 1 ≤ wr.heap.size) (fun i _ _ => 16 - (intOf i).toNat)
  case atStart => exact ⟨0, none, 0, by omega, rfl, rfl, ⟨hB⟩, ⟨World.ownsRow_nil _ _ _ _⟩, hb0, by have := hB.lt; omega⟩
  case round =>
    clear hB hb0
    obtain ⟨t, D, d, ht, rfl, rfl, HB, HO, hbw, hsz⟩ := hrel
    by_cases h16 : t < 16
    · obtain ⟨x, hx⟩ : ∃ x, ds[t]? = some x := ⟨_, List.getElem?_eq_getElem (by omega)⟩
      have cs := HB.out.cell (j := t) (v := .int .u8 (x.toNat : Int)) (by simp [bv, hx])
      have HX := Shut.mk hx
      clear hx
      go_wp2_with (with_reducible refine stop_append ?_)
      refine at_append_src eltB (w.heap.size + 1) rfl (HO.out.alloc _) rfl (Src.ofRd Tryd.underlying33 1 (rd_new (cs := bv [x]) 1 1 rfl (by omega)) (bv_one _)) (by omega) (by omega) (le_alloc hsz _) ?_
      intro A' c' w2 hown' hg _
      have hb' := below_own (hbw.alloc hbw.size _) (le_alloc hbw.size _) (HO.out.alloc _) (by omega) hg
      have hq := below_own ((Below.refl (w.heap.size + 1) wr).alloc hsz (.cells (bv [x]).toArray 5)) (le_alloc hsz _) (HO.out.alloc _) (Nat.le_refl _) hg
      have HB2 := Shut.mk (HB.out.below_at hq (by omega))
      have hsz2 : w.heap.size + 1 ≤ w2.heap.size := by have := hq.size; omega
      rw [← bv_append, show ds.take t ++ [x] = ds.take (t + 1) by rw [List.take_add_one, HX.out]; rfl] at hown'
      have HO2 := Shut.mk hown'
      clear hown' hg hq cs
      go_wp2_with fail
      go_roundw
      case rel => exact ⟨t + 1, A', c', by omega, by go_num, rfl, HB2, HO2, hb', hsz2⟩
      case measure => simp [intOf]; omega
    · obtain rfl : t = 16 := by omega
      have hO := HO.out
      rw [List.take_of_length_le (by omega)] at hO
      go_wp2_with (with_reducible refine stop_convert ?_)
      refine at_str Tryd.underlying33 Tryd.underlying5 Tryd.underlying9 rfl (own_Rd hO) ?_
      go_wp2_with fail
      go_ret
      exact ⟨rfl, hbw⟩
end Go.Proofs.YtedegedceeefdaaDoor

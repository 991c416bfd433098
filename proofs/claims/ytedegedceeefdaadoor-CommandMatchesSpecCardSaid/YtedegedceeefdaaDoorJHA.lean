/- Parts of the proof: Ha, Hb, Hm. -/
import Derived.Test.YtedegedceeefdaaDoorJWW
import Derived.Test.YtedegedceeefdaaDoorJKK
import Derived.Test.YtedegedceeefdaaDoorJPL
set_option linter.all false
set_option linter.unusedVariables false
set_option linter.unusedSimpArgs false
set_option linter.unnecessarySimpa false
set_option linter.deprecated false
/-! Walks: package hash, words. -/
namespace Go.Proofs.YtedegedceeefdaaDoor
open Go.RowKit Go.Cw Cu
set_option maxRecDepth 100000
set_option maxHeartbeats 1000000
set_option linter.unusedVariables false
set_option linter.unusedSimpArgs false
theorem wraps_u32 (n : Int) (h0 : 0 ≤ n) (h1 : n < 2 ^ 32) : IntKind.u32.wrap n = n := by simp [IntKind.wrap, IntKind.bits, IntKind.signed]; omega
theorem xor_u32 (a b : Nat) (ha : a < 4294967296) (hb : b < 4294967296) : bits .xor .u32 (a : Int) (b : Int) = ((a ^^^ b : Nat) : Int) := bits_xor_nat .u32 32 (by decide) wraps_u32 a b ha hb
theorem or_u32 (a b : Nat) (ha : a < 4294967296) (hb : b < 4294967296) : bits .or .u32 (a : Int) (b : Int) = ((a ||| b : Nat) : Int) := (bits_nat .u32 32 (by decide) wraps_u32 a b ha hb).2
theorem and_u32 (a b : Nat) (ha : a < 4294967296) (hb : b < 4294967296) : bits .and .u32 (a : Int) (b : Int) = ((a &&& b : Nat) : Int) := (bits_nat .u32 32 (by decide) wraps_u32 a b ha hb).1
theorem shr_u32 (x i : Nat) : (x : Int) / 2 ^ i = ((x >>> i : Nat) : Int) := by rw [Nat.shiftRight_eq_div_pow]; simp
theorem shl_u32 (x i : Nat) : IntKind.u32.wrap ((x : Int) * 2 ^ i) = (((x <<< i) % 4294967296 : Nat) : Int) := by
  rw [Nat.shiftLeft_eq]; simp [IntKind.wrap, IntKind.bits, IntKind.signed]
theorem rotr_lt (x i : Nat) (hx : x < 4294967296) : rotr x i < 4294967296 := by
  unfold rotr
  refine Nat.or_lt_two_pow (n := 32) ?_ (Nat.mod_lt _ (by omega))
  rw [Nat.shiftRight_eq_div_pow]
  exact Nat.lt_of_le_of_lt (Nat.div_le_self _ _) hx
theorem and31 (i : Nat) (hi : i < 32) (hi0 : 0 < i) : bits BinOp.and IntKind.u64 (IntKind.u64.wrap (-(i : Int))) 31 = 32 - (i : Int) := by
  have : ∀ j : Fin 32, 0 < j.val → bits BinOp.and IntKind.u64 (IntKind.u64.wrap (-(j.val : Int))) 31 = 32 - (j.val : Int) := by decide +kernel
  exact this ⟨i, hi⟩ hi0
theorem rot_eq (x i : Nat) (hi : i < 32) (hx : x < 4294967296) : bits BinOp.or IntKind.u32 ((x : Int) * 2 ^ (32 - i) % 4294967296) ((x : Int) / 2 ^ (32 - (32 - i))) = (rotr x i : Int) := by
  rw [show 32 - (32 - i) = i by omega, shr_u32]
  have e : (x : Int) * 2 ^ (32 - i) % 4294967296 = (((x <<< (32 - i)) % 4294967296 : Nat) : Int) := by rw [Nat.shiftLeft_eq]; simp
  rw [e, or_u32 _ _ (Nat.mod_lt _ (by omega)) (by rw [Nat.shiftRight_eq_div_pow]; exact Nat.lt_of_le_of_lt (Nat.div_le_self _ _) hx)]
  unfold rotr
  rw [Nat.or_comm]
theorem rotl32 (x i : Nat) (ni : Int) (hni : ni = -(i : Int)) (hi : i < 32) (hi0 : 0 < i) (hx : x < 4294967296) (w : World) :
    Calls Tryd.prog 191 #[.int .u32 x, .int .i64 ni] w fun e w' => e = .returned (.int .u32 (rotr x i : Int)) ∧ w = w' := by
  subst hni
  have e1 := and31 i hi hi0
  have e2 : (0 : Int) ≤ 32 - (i : Int) := by omega
  have e3 : (32 : Int) - (i : Int) ≤ 32 := by omega
  go_enter Tryd.func191, Tryd.ntmps191
  go_wp2_with fail
  go_ret
  exact ⟨congrArg (fun z => Ending.returned (.int .u32 z)) (rot_eq x i hi hx), rfl⟩
theorem mix_any (x i j k : Nat) (ni nj nk : Int) (hni : ni = (i : Int)) (hnj : nj = (j : Int)) (hnk : nk = (k : Int)) (hi : i < 32) (hi0 : 0 < i) (hj : j < 32) (hj0 : 0 < j) (hk : k < 32) (hk0 : 0 < k) (hx : x < 4294967296) (w : World) :
    Calls Tryd.prog 189 #[.int .u32 x, .int .i64 ni, .int .i64 nj, .int .i64 nk] w fun e w' => e = .returned (.int .u32 (mix3 x i j k : Int)) ∧ w = w' := by
  subst hni hnj hnk
  have l1 := rotr_lt x i hx
  have l2 := rotr_lt x j hx
  have l3 := rotr_lt x k hx
  have e1 := xor_u32 (rotr x i) (rotr x j) l1 l2
  have e2 := xor_u32 (rotr x i ^^^ rotr x j) (rotr x k) (Nat.xor_lt_two_pow (n := 32) l1 l2) l3
  go_enter Tryd.func189, Tryd.ntmps189
  go_wp2_with fail
  refine (rotl32 x i _ rfl hi hi0 hx _).mono ?_
  rintro e w1 ⟨rfl, rfl⟩
  go_wp2_with fail
  refine (rotl32 x j _ rfl hj hj0 hx _).mono ?_
  rintro e w1 ⟨rfl, rfl⟩
  go_wp2_with fail
  refine (rotl32 x k _ rfl hk hk0 hx _).mono ?_
  rintro e w1 ⟨rfl, rfl⟩
  go_wp2_with fail
  go_ret
  exact ⟨rfl, rfl⟩
end Go.Proofs.YtedegedceeefdaaDoor
/-! Walks: package hash, the schedule. -/
namespace Go.Proofs.YtedegedceeefdaaDoor
open Go.RowKit Go.Cw Cu
set_option maxRecDepth 100000
set_option maxHeartbeats 4000000
set_option linter.unusedVariables false
set_option linter.unusedSimpArgs false
/-- The array of the schedule, t words of it done, v in the next place. -/
def schL (b : List UInt8) (t v : Nat) : List Nat := (sched b).take t ++ v :: List.replicate (63 - t) 0
theorem schL_at (b : List UInt8) (hb : b.length = 64) (t v : Nat) (ht : t < 64) : (uv (schL b t v))[t]? = some (.int .u32 (v : Int)) := by
  have h := sched_length b hb
  unfold schL uv
  rw [List.getElem?_map, List.getElem?_append_right (by rw [List.length_take]; omega), List.length_take, h, Nat.min_eq_left (by omega), Nat.sub_self]
  rfl
theorem schL_old (b : List UInt8) (hb : b.length = 64) (t v i : Nat) (ht : t < 64) (hi : i < t) : (uv (schL b t v))[i]? = some (.int .u32 ((((sched b).take t).getD i 0 : Nat) : Int)) := by
  have h := sched_length b hb
  have hl : ((sched b).take t).length = t := by rw [List.length_take]; omega
  unfold schL uv
  rw [List.getElem?_map, List.getElem?_append_left (by omega), List.getD_eq_getElem?_getD, List.getElem?_eq_getElem (by omega)]
  rfl
theorem schL_set (b : List UInt8) (hb : b.length = 64) (t v v' : Nat) (ht : t < 64) : (uv (schL b t v)).set t (.int .u32 (v' : Int)) = uv (schL b t v') := by
  have h := sched_length b hb
  have hl : (uv ((sched b).take t)).length = t := by simp [uv]; omega
  unfold schL uv at *
  rw [List.map_append, List.map_append, List.set_append_right _ _ (by omega), hl, Nat.sub_self]
  rfl
theorem schL_next (b : List UInt8) (hb : b.length = 64) (t v : Nat) (ht : t < 63) (h : (sched b)[t]? = some v) : schL b t v = schL b (t + 1) 0 := by
  unfold schL
  rw [List.take_add_one, h, show 63 - t = (63 - (t + 1)) + 1 by omega, List.replicate_succ]
  simp
def schA (b : List UInt8) (t : Nat) : List Nat := (sched b).take t ++ List.replicate (64 - t) 0
theorem schA_lt (b : List UInt8) (t : Nat) (h : t < 64) : schA b t = schL b t 0 := by
  unfold schA schL
  rw [show 64 - t = (63 - t) + 1 by omega, List.replicate_succ]
theorem schA_next (b : List UInt8) (hb : b.length = 64) (t v : Nat) (ht : t < 64) (h : (sched b)[t]? = some v) : schA b (t + 1) = schL b t v := by
  unfold schL schA
  rw [List.take_add_one, h, show 64 - (t + 1) = 63 - t by omega]
  simp
theorem schA_end (b : List UInt8) (hb : b.length = 64) : schA b 64 = sched b := by
  unfold schA
  rw [List.take_of_length_le (by rw [sched_length b hb]; omega)]
  simp
theorem aggW : AggT Tryd.prog 212 64 := ⟨by kernel_rfl, by kernel_rfl⟩
theorem sig0_lt (p : Nat) (hp : p < 4294967296) : sig0 p < 4294967296 := by
  unfold sig0
  refine Nat.xor_lt_two_pow (n := 32) (Nat.xor_lt_two_pow (n := 32) (rotr_lt p 7 hp) (rotr_lt p 18 hp)) ?_
  rw [Nat.shiftRight_eq_div_pow]
  exact Nat.lt_of_le_of_lt (Nat.div_le_self _ _) hp
theorem sig1_lt (p : Nat) (hp : p < 4294967296) : sig1 p < 4294967296 := by
  unfold sig1
  refine Nat.xor_lt_two_pow (n := 32) (Nat.xor_lt_two_pow (n := 32) (rotr_lt p 17 hp) (rotr_lt p 19 hp)) ?_
  rw [Nat.shiftRight_eq_div_pow]
  exact Nat.lt_of_le_of_lt (Nat.div_le_self _ _) hp
theorem sig0_bits (p : Nat) (hp : p < 4294967296) : bits BinOp.xor IntKind.u32 (bits BinOp.xor IntKind.u32 (rotr p 7 : Int) (rotr p 18 : Int)) ((p : Int) / 8) = (sig0 p : Int) := by
  have h := shr_u32 p 3
  rw [show (2 : Int) ^ 3 = 8 by decide] at h
  rw [xor_u32 _ _ (rotr_lt p 7 hp) (rotr_lt p 18 hp), h, xor_u32 _ _ (Nat.xor_lt_two_pow (n := 32) (rotr_lt p 7 hp) (rotr_lt p 18 hp)) (by rw [Nat.shiftRight_eq_div_pow]; exact Nat.lt_of_le_of_lt (Nat.div_le_self _ _) hp)]
  rfl
theorem sig1_bits (p : Nat) (hp : p < 4294967296) : bits BinOp.xor IntKind.u32 (bits BinOp.xor IntKind.u32 (rotr p 17 : Int) (rotr p 19 : Int)) ((p : Int) / 1024) = (sig1 p : Int) := by
  have h := shr_u32 p 10
  rw [show (2 : Int) ^ 10 = 1024 by decide] at h
  rw [xor_u32 _ _ (rotr_lt p 17 hp) (rotr_lt p 19 hp), h, xor_u32 _ _ (Nat.xor_lt_two_pow (n := 32) (rotr_lt p 17 hp) (rotr_lt p 19 hp)) (by rw [Nat.shiftRight_eq_div_pow]; exact Nat.lt_of_le_of_lt (Nat.div_le_self _ _) hp)]
  rfl
/-- A hypothesis put out of the walk's sight. -/
structure Shut (p : Prop) : Prop where
  out : p
theorem take_getD_lt (l : List Nat) (h : ∀ x ∈ l, x < 4294967296) (t i : Nat) : (l.take t).getD i 0 < 4294967296 := by
  rw [List.getD_eq_getElem?_getD]
  cases hh : (l.take t)[i]? with
  | none => simp
  | some x => exact h x (List.mem_of_mem_take (List.mem_of_getElem? hh))
theorem hash_schedule (b : List UInt8) (hb : b.length = 64) (A : Option Addr) (c : Nat) (hc : 64 ≤ c) (w : World) (hrd : Rd w A 64 1 (bv b)) : Calls Tryd.prog 188 #[.slice A 64 c] w fun e w' => e = .returned (.agg (uv (sched b)).toArray) ∧ Below w.heap.size w w' := by
  go_enter Tryd.func188, Tryd.ntmps188
  go_wp2_with fail
  have hB0 := (Blk.new w 212 (uv (schL b 0 0))).alloc (.cells (uv (schL b 0 0)).toArray 212)
  have hB1 := Blk.new (w.alloc (.cells (uv (schL b 0 0)).toArray 212)) 212 (uv (schL b 0 0))
  have hz : (w.alloc (.cells (uv (schL b 0 0)).toArray 212)).heap.size = w.heap.size + 1 := by simp
  have hb0 := ((Below.refl w.heap.size w).alloc (Nat.le_refl _) (.cells (uv (schL b 0 0)).toArray 212)).alloc (by simp) (.cells (uv (schL b 0 0)).toArray 212)
  rw [hz] at hB1
  change Code.wp _ _ _ _ ((w.alloc (.cells (uv (schL b 0 0)).toArray 212)).alloc (.cells (uv (schL b 0 0)).toArray 212))
  generalize (w.alloc (.cells (uv (schL b 0 0)).toArray 212)).alloc (.cells (uv (schL b 0 0)).toArray 212) = w1 at *
  clear hz
  go_loopw [11] (fun i wr => ∃ t : Nat, t ≤ 64 ∧ i = .int .i64 t ∧ Hid (Blk wr (w.heap.size + 1) 212 (uv (schA b t))) ∧ Hid (Blk wr w.heap.size 212 (uv (schL b 0 0))) ∧ Below w.heap.size w wr ∧ w.heap.size + 2 ≤ wr.heap.size) (fun i _ => 64 - (intOf i).toNat)
  case atStart => exact ⟨0, by omega, rfl, by rw [schA_lt b 0 (by omega)]; exact hB1, hB0, hb0, by have := hB1.lt; omega⟩
  case round =>
    clear hB0 hB1 hb0
    obtain ⟨t, ht, rfl, hB1, hB0, hbw, hsz⟩ := hrel
    by_cases h64 : t < 64
    · have hBl : Blk wr (w.heap.size + 1) 212 (uv (schL b t 0)) := by rw [← schA_lt b t h64]; exact hB1.out
      by_cases h16 : t < 16
      · have g1 : decide ((t : Int) < 16) = true := by simp; omega
        go_wp2_with (with_reducible refine stop_slice ?_)
        refine at_slice_lohi_f eltB (l := 4 * t) (u := 4 * t + 4) (li := 4 * (t : Int)) (ui := 4 * (t : Int) + 4) rfl rfl (by omega) rfl (by omega) hc (by omega) (by omega) ?_
        intro A2 hsub
        have hrd2 := hsub w _ hrd
        clear hsub
        rw [bv_drop, bv_take, Nat.mul_one, Nat.mul_one, show 4 * t + 4 - 4 * t = 4 by omega] at hrd2
        rw [show 4 * t + 4 - 4 * t = 4 by omega]
        have HB := hid hBl
        clear hBl hB1
        go_wp2_with fail
        obtain ⟨wo, rfl⟩ : ∃ wo : World, wo = wr := ⟨_, rfl⟩
        have HB0 := hB0
        clear hB0
        go_loopw [24] (fun i wr => ∃ j : Nat, j ≤ 4 ∧ i = .int .i64 j ∧ Hid (Blk wr (w.heap.size + 1) 212 (uv (schL b t (((b.drop (4 * t)).take j).foldl (fun m x => m * 256 + x.toNat) 0)))) ∧ Hid (Blk wr w.heap.size 212 (uv (schL b 0 0))) ∧
            Below w.heap.size w wr ∧ w.heap.size + 2 ≤ wr.heap.size) (fun i _ => 4 - (intOf i).toNat)
        case atStart => exact ⟨0, by omega, rfl, HB, HB0, hbw, hsz⟩
        case round =>
          obtain ⟨j, hj, rfl, HB1, HB2, hbw2, hsz2⟩ := hrel
          have hlen : ((b.drop (4 * t)).take 4).length = 4 := by rw [List.length_take, List.length_drop]; omega
          by_cases hj4 : j < 4
          · obtain ⟨x, hx⟩ : ∃ x, ((b.drop (4 * t)).take 4)[j]? = some x := ⟨_, List.getElem?_eq_getElem (by omega)⟩
            have hv : val ((b.drop (4 * t)).take j) < 256 ^ j := val_take_lt _ _
            have hp : (256 : Nat) ^ j ≤ 256 ^ 3 := Nat.pow_le_pow_right (by omega) (by omega)
            have hnext : val ((b.drop (4 * t)).take (j + 1)) = val ((b.drop (4 * t)).take j) * 256 + x.toNat := val_take_succ (by rw [List.getElem?_take] at hx; rw [if_pos hj4] at hx; exact hx)
            have Hb1 := HB1.out
            change Blk _ _ _ (uv (schL b t (val ((b.drop (4 * t)).take j)))) at Hb1
            generalize val ((b.drop (4 * t)).take j) = v at *
            have Hn := hid hnext
            clear hnext HB1
            obtain ⟨ga, oa, x', rfl, hcx, hx'⟩ := hrd2.u8_at hbw2 hj4
            obtain rfl : x' = x := by rw [hx'] at hx; exact Option.some.inj hx
            have hx256 := x'.toNat_lt
            have hv2 : v < 16777216 := by omega
            have hcw := Hb1.cell (schL_at b hb t v h64)
            have hfw := Hb1.free t
            have hor : bits BinOp.or IntKind.u32 ((v : Int) * 256) (x'.toNat : Int) = ((v * 256 + x'.toNat : Nat) : Int) := by
              rw [show (v : Int) * 256 = ((v * 256 : Nat) : Int) by omega, or_u32 _ _ (by omega) (by omega)]
              congr 1
              rw [show v * 256 = 2 ^ 8 * v by omega, ← Nat.two_pow_add_eq_or_of_lt (by omega)]
            have HX := hid hx
            have HX' := hid hx'
            have HBl := hid Hb1
            clear hx hx' Hb1 hv hp
            go_wp2_with fail
            go_roundw
            case rel =>
              have e : (v : Int) * 256 + (x'.toNat : Int) = ((v * 256 + x'.toNat : Nat) : Int) := by omega
              rw [e]
              refine ⟨j + 1, by omega, by go_num, ?_, HB2.out.other (by omega) _ _, hbw2.setCell (by simp) _, by simpa [World.setCell] using hsz2⟩
              have h := HBl.out.set t (.int .u32 ((v * 256 + x'.toNat : Nat) : Int))
              rw [schL_set b hb t v _ h64, ← Hn.out] at h
              rw [← Hn.out]
              exact h
            case measure => simp [intOf]; omega
          · obtain rfl : j = 4 := by omega
            have hw := schA_next b hb t _ h64 (sched_word b hb t h16)
            have HB1' := HB1.out
            rw [← hw] at HB1'
            have HBn := hid HB1'
            clear hw HB1' HB1
            go_wp2_with fail
            go_roundw
            case rel => exact ⟨t + 1, by omega, by go_num, HBn, HB2, hbw2, hsz2⟩
            case measure => simp [intOf]; omega
      · have g1 : decide ((t : Int) < 16) = false := by simp; omega
        have c15 := hBl.cell (schL_old b hb t 0 (t - 15) h64 (by omega))
        have c2 := hBl.cell (schL_old b hb t 0 (t - 2) h64 (by omega))
        have c16 := hBl.cell (schL_old b hb t 0 (t - 16) h64 (by omega))
        have c7 := hBl.cell (schL_old b hb t 0 (t - 7) h64 (by omega))
        have ct := hBl.cell (schL_at b hb t 0 h64)
        have ft := hBl.free t
        have Hnx := Shut.mk (sched_next b hb t (by omega) h64)
        have lt : ∀ i, ((sched b).take t).getD i 0 < 4294967296 := take_getD_lt _ (sched_lt b) t
        have l15 := lt (t - 15)
        have l2 := lt (t - 2)
        have l16 := lt (t - 16)
        have l7 := lt (t - 7)
        clear lt
        unfold nextW at Hnx
        generalize ((sched b).take t).getD (t - 15) 0 = p at *
        generalize ((sched b).take t).getD (t - 2) 0 = q at *
        generalize ((sched b).take t).getD (t - 16) 0 = p16 at *
        generalize ((sched b).take t).getD (t - 7) 0 = p7 at *
        have HBl := hid hBl
        clear hBl hB1
        have e15 : IntKind.i64.wrap ((t : Int) - 15) = (t : Int) - 15 := IntWalk.i64_in _ (by omega)
        have e2 : IntKind.i64.wrap ((t : Int) - 2) = (t : Int) - 2 := IntWalk.i64_in _ (by omega)
        have n15 : ((t : Int) - 15).toNat = t - 15 := by omega
        have n2 : ((t : Int) - 2).toNat = t - 2 := by omega
        have C16 := hid c16
        have C7 := hid c7
        have CT := hid ct
        have FT := hid ft
        have L15 := hid l15
        have L2 := hid l2
        have L16 := hid l16
        have L7 := hid l7
        have E15 := hid e15
        have E2 := hid e2
        have N15 := hid n15
        have N2 := hid n2
        clear c16 c7 ct ft l15 l2 l16 l7 e15 e2 n15 n2
        go_wp2_with fail
        have e15 := E15.out
        have e2 := E2.out
        have n15 := N15.out
        have n2 := N2.out
        have b15 : (0 : Int) ≤ (t : Int) - 15 := by omega
        have b2 : (0 : Int) ≤ (t : Int) - 2 := by omega
        have d15 : (t : Int) - 15 < 64 := by omega
        have d2 : (t : Int) - 2 < 64 := by omega
        go_quiet (fail)
        clear e15 e2 n15 n2 b15 b2 d15 d2
        clear c15 c2
        go_wp2_with fail
        refine (rotl32 p 7 _ rfl (by omega) (by omega) L15.out _).mono ?_
        rintro e w1 ⟨rfl, rfl⟩
        go_wp2_with fail
        refine (rotl32 p 18 _ rfl (by omega) (by omega) L15.out _).mono ?_
        rintro e w1 ⟨rfl, rfl⟩
        go_wp2_with fail
        refine (rotl32 q 17 _ rfl (by omega) (by omega) L2.out _).mono ?_
        rintro e w1 ⟨rfl, rfl⟩
        go_wp2_with fail
        refine (rotl32 q 19 _ rfl (by omega) (by omega) L2.out _).mono ?_
        rintro e w1 ⟨rfl, rfl⟩
        go_wp2_with fail
        have s0lt := sig0_lt p L15.out
        have s1lt := sig1_lt q L2.out
        rw [sig0_bits p L15.out, sig1_bits q L2.out]
        have l16 := L16.out
        have l7 := L7.out
        generalize sig0 p = s0 at *
        generalize sig1 q = s1 at *
        clear E15 E2 N15 N2
        have e16 : IntKind.i64.wrap ((t : Int) - 16) = (t : Int) - 16 := IntWalk.i64_in _ (by omega)
        have e7 : IntKind.i64.wrap ((t : Int) - 7) = (t : Int) - 7 := IntWalk.i64_in _ (by omega)
        have n16 : ((t : Int) - 16).toNat = t - 16 := by omega
        have n7 : ((t : Int) - 7).toNat = t - 7 := by omega
        have b16 : (0 : Int) ≤ (t : Int) - 16 := by omega
        have b7 : (0 : Int) ≤ (t : Int) - 7 := by omega
        have d16 : (t : Int) - 16 < 64 := by omega
        have d7 : (t : Int) - 7 < 64 := by omega
        have c16 := C16.out
        have c7 := C7.out
        have ct := CT.out
        have ft := FT.out
        clear C16 C7 CT FT
        go_region
        clear e16 e7 n16 n7 b16 b7 d16 d7 c16 c7 ct ft
        go_wp2_with fail
        refine ⟨⟨t + 1, by omega, by go_num, ?_, ?_, ?_, by simpa [World.setCell, World.drewN] using hsz⟩, by simp [intOf]; omega⟩
        · have hd := (HBl.out.drw (w1 := wr.drewN (nq + 1)) ⟨_, rfl⟩).set t (.int .u32 (((p16 + s0 + p7 + s1) % 4294967296 : Nat) : Int))
          rw [schL_set b hb t _ _ h64, ← schA_next b hb t _ h64 Hnx.out] at hd
          rw [show ((p16 : Int) + s0 + p7 + s1) % 4294967296 = (((p16 + s0 + p7 + s1) % 4294967296 : Nat) : Int) by omega]
          exact hd
        · exact (hB0.out.drw (w1 := wr.drewN (nq + 1)) ⟨_, rfl⟩).other (by omega) _ _
        · exact (below_then hbw (Drw.below ⟨_, rfl⟩) hbw.size).setCell (by simp) _
    · have : t = 64 := by omega
      subst this
      have hBe : Blk wr (w.heap.size + 1) 212 (uv (sched b)) := by rw [← schA_end b hb]; exact hB1.out
      have hlen : (uv (sched b)).length = 64 := by rw [uv_length, sched_length b hb]
      go_wp2_with (first | (with_reducible refine stop_load ?_) | (with_reducible refine stop_store ?_))
      refine at_load_blk aggW rfl hlen hBe ?_
      go_wp2_with (first | (with_reducible refine stop_load ?_) | (with_reducible refine stop_store ?_))
      refine at_store_blk aggW rfl rfl hlen (by rfl) hB0.out (uv_one _) ?_
      intro hB2
      go_wp2_with fail
      exact ret_blk rfl aggW rfl hlen hB2 rfl ⟨rfl, below_setRow hbw (Nat.le_refl _) _⟩
end Go.Proofs.YtedegedceeefdaaDoor
/-! Plain laws on one round of SHA-256. -/
namespace Go.Proofs.YtedegedceeefdaaDoor
open Go.RowKit Go.Cw Cu
set_option maxRecDepth 100000
def St.Lt (s : St) : Prop := ∀ x ∈ s.list, x < 4294967296
theorem u32max : (if IntKind.u32.signed = true then (-1 : Int) else IntKind.u32.max) = ((4294967295 : Nat) : Int) := by decide
theorem and_lt (a b : Nat) (ha : a < 4294967296) : a &&& b < 4294967296 := Nat.lt_of_le_of_lt Nat.and_le_left ha
theorem xor_lt (a b : Nat) (ha : a < 4294967296) (hb : b < 4294967296) : a ^^^ b < 4294967296 := Nat.xor_lt_two_pow (n := 32) ha hb
theorem ch_u32 (e f g : Nat) (he : e < 4294967296) (hf : f < 4294967296) (hg : g < 4294967296) :
    bits BinOp.xor IntKind.u32 (bits BinOp.and IntKind.u32 (e : Int) (f : Int)) (bits BinOp.and IntKind.u32 (bits BinOp.xor IntKind.u32 (if IntKind.u32.signed = true then -1 else IntKind.u32.max) (e : Int)) (g : Int)) = (((e &&& f) ^^^ ((e ^^^ 4294967295) &&& g) : Nat) : Int) := by
  rw [u32max, and_u32 _ _ he hf, xor_u32 _ _ (by omega) he, Nat.xor_comm 4294967295 e, and_u32 _ _ (xor_lt _ _ he (by omega)) hg, xor_u32 _ _ (and_lt _ _ he) (and_lt _ _ (xor_lt _ _ he (by omega)))]
theorem maj_u32 (a b c : Nat) (ha : a < 4294967296) (hb : b < 4294967296) (hc : c < 4294967296) :
    bits BinOp.xor IntKind.u32 (bits BinOp.xor IntKind.u32 (bits BinOp.and IntKind.u32 (a : Int) (b : Int)) (bits BinOp.and IntKind.u32 (a : Int) (c : Int))) (bits BinOp.and IntKind.u32 (b : Int) (c : Int)) = (((a &&& b) ^^^ (a &&& c) ^^^ (b &&& c) : Nat) : Int) := by
  rw [and_u32 _ _ ha hb, and_u32 _ _ ha hc, and_u32 _ _ hb hc, xor_u32 _ _ (and_lt _ _ ha) (and_lt _ _ ha), xor_u32 _ _ (xor_lt _ _ (and_lt _ _ ha) (and_lt _ _ ha)) (and_lt _ _ hb)]
theorem St.Lt.a {s : St} (h : St.Lt s) : s.a < 4294967296 := h _ (by simp [St.list])
theorem St.Lt.b {s : St} (h : St.Lt s) : s.b < 4294967296 := h _ (by simp [St.list])
theorem St.Lt.c {s : St} (h : St.Lt s) : s.c < 4294967296 := h _ (by simp [St.list])
theorem St.Lt.d {s : St} (h : St.Lt s) : s.d < 4294967296 := h _ (by simp [St.list])
theorem St.Lt.e {s : St} (h : St.Lt s) : s.e < 4294967296 := h _ (by simp [St.list])
theorem St.Lt.f {s : St} (h : St.Lt s) : s.f < 4294967296 := h _ (by simp [St.list])
theorem St.Lt.g {s : St} (h : St.Lt s) : s.g < 4294967296 := h _ (by simp [St.list])
theorem St.Lt.h {s : St} (h : St.Lt s) : s.h < 4294967296 := h _ (by simp [St.list])
theorem add32_lt (a b : Nat) : add32 a b < 4294967296 := Nat.mod_lt _ (by omega)
theorem round_e (r : St) (hr : St.Lt r) (k x : Nat) (X : Int)
    (hX : (((r.h : Int) + (mix3 r.e 6 11 25 : Int) + bits BinOp.xor IntKind.u32 (bits BinOp.and IntKind.u32 (r.e : Int) (r.f : Int)) (bits BinOp.and IntKind.u32 (bits BinOp.xor IntKind.u32 (if IntKind.u32.signed = true then -1 else IntKind.u32.max) (r.e : Int)) (r.g : Int)) + (k : Int)) % 4294967296 + (x : Int)) % 4294967296 = X) :
    ((r.d : Int) + X) % 4294967296 = ((round r k x).e : Int) := by
  rw [ch_u32 _ _ _ hr.e hr.f hr.g] at hX
  show _ = ((add32 r.d ((r.h + mix3 r.e 6 11 25 + ((r.e &&& r.f) ^^^ ((r.e ^^^ 4294967295) &&& r.g)) + k + x) % 4294967296) : Nat) : Int)
  unfold add32
  rw [← hX]
  generalize (r.e &&& r.f) ^^^ ((r.e ^^^ 4294967295) &&& r.g) = m
  generalize mix3 r.e 6 11 25 = n
  omega
theorem round_a (r : St) (hr : St.Lt r) (k x : Nat) (X Y : Int)
    (hX : (((r.h : Int) + (mix3 r.e 6 11 25 : Int) + bits BinOp.xor IntKind.u32 (bits BinOp.and IntKind.u32 (r.e : Int) (r.f : Int)) (bits BinOp.and IntKind.u32 (bits BinOp.xor IntKind.u32 (if IntKind.u32.signed = true then -1 else IntKind.u32.max) (r.e : Int)) (r.g : Int)) + (k : Int)) % 4294967296 + (x : Int)) % 4294967296 = X)
    (hY : ((mix3 r.a 2 13 22 : Int) + bits BinOp.xor IntKind.u32 (bits BinOp.xor IntKind.u32 (bits BinOp.and IntKind.u32 (r.a : Int) (r.b : Int)) (bits BinOp.and IntKind.u32 (r.a : Int) (r.c : Int))) (bits BinOp.and IntKind.u32 (r.b : Int) (r.c : Int))) % 4294967296 = Y) :
    (X + Y) % 4294967296 = ((round r k x).a : Int) := by
  rw [ch_u32 _ _ _ hr.e hr.f hr.g] at hX
  rw [maj_u32 _ _ _ hr.a hr.b hr.c] at hY
  show _ = ((add32 ((r.h + mix3 r.e 6 11 25 + ((r.e &&& r.f) ^^^ ((r.e ^^^ 4294967295) &&& r.g)) + k + x) % 4294967296) ((mix3 r.a 2 13 22 + ((r.a &&& r.b) ^^^ (r.a &&& r.c) ^^^ (r.b &&& r.c))) % 4294967296) : Nat) : Int)
  unfold add32
  rw [← hX, ← hY]
  generalize (r.e &&& r.f) ^^^ ((r.e ^^^ 4294967295) &&& r.g) = m
  generalize mix3 r.e 6 11 25 = n
  generalize (r.a &&& r.b) ^^^ (r.a &&& r.c) ^^^ (r.b &&& r.c) = m2
  generalize mix3 r.a 2 13 22 = n2
  omega
theorem round_lt (r : St) (hr : St.Lt r) (k x : Nat) : St.Lt (round r k x) := by
  intro y hy
  simp only [St.list, round, List.mem_cons, List.not_mem_nil, or_false] at hy
  rcases hy with rfl | rfl | rfl | rfl | rfl | rfl | rfl | rfl
  · exact add32_lt _ _
  · exact hr.a
  · exact hr.b
  · exact hr.c
  · exact add32_lt _ _
  · exact hr.e
  · exact hr.f
  · exact hr.g
theorem rounds_snoc (kk ws : List Nat) (k x : Nat) (h : kk.length = ws.length) : ∀ s : St, rounds (kk ++ [k]) (ws ++ [x]) s = round (rounds kk ws s) k x := by
  induction kk generalizing ws with
  | nil =>
    intro s
    cases ws with
    | nil => rfl
    | cons y ys => simp at h
  | cons y ys ih =>
    intro s
    cases ws with
    | nil => simp at h
    | cons z zs => exact ih zs (by simpa using h) (round s y z)
theorem rounds_next (kk ws : List Nat) (h1 : kk.length = 64) (h2 : ws.length = 64) (t k x : Nat) (ht : t < 64) (hk : kk[t]? = some k) (hx : ws[t]? = some x) (s : St) :
    rounds (kk.take (t + 1)) (ws.take (t + 1)) s = round (rounds (kk.take t) (ws.take t) s) k x := by
  rw [List.take_add_one, List.take_add_one, hk, hx]
  exact rounds_snoc _ _ k x (by rw [List.length_take, List.length_take, h1, h2]) s
/-- The sums of the first n places of each half. -/
def sumL (s r : St) : Nat → List Nat
  | 0 => [s.a, s.b, s.c, s.d, s.e, s.f, s.g, s.h]
  | 1 => [add32 s.a r.a, s.b, s.c, s.d, add32 s.e r.e, s.f, s.g, s.h]
  | 2 => [add32 s.a r.a, add32 s.b r.b, s.c, s.d, add32 s.e r.e, add32 s.f r.f, s.g, s.h]
  | 3 => [add32 s.a r.a, add32 s.b r.b, add32 s.c r.c, s.d, add32 s.e r.e, add32 s.f r.f, add32 s.g r.g, s.h]
  | _ => [add32 s.a r.a, add32 s.b r.b, add32 s.c r.c, add32 s.d r.d, add32 s.e r.e, add32 s.f r.f, add32 s.g r.g, add32 s.h r.h]
theorem sumL_end (s r : St) : sumL s r 4 = (s.add r).list := rfl
theorem St.add_lt (s r : St) : St.Lt (s.add r) := by
  intro y hy
  simp only [St.list, St.add, List.mem_cons, List.not_mem_nil, or_false] at hy
  rcases hy with rfl | rfl | rfl | rfl | rfl | rfl | rfl | rfl <;> exact add32_lt _ _
theorem compress_lt (s : St) (b : List UInt8) : St.Lt (compress s b) := St.add_lt _ _
end Go.Proofs.YtedegedceeefdaaDoor

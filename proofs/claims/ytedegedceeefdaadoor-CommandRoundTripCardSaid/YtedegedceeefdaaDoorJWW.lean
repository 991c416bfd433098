/- Parts of the proof: Wa, Wb, Wc. -/
import Derived.Test.YtedegedceeefdaaDoorProg
import Derived.Test.YtedegedceeefdaaDoorJKK
import Derived.Test.YtedegedceeefdaaDoorJPL
set_option linter.all false
set_option linter.unusedVariables false
set_option linter.unusedSimpArgs false
set_option linter.unnecessarySimpa false
set_option linter.deprecated false
/-! Walks: package wire. -/
namespace Go.Proofs.YtedegedceeefdaaDoor
open Go.RowKit Go.Cw Cu

theorem eltB : Elt Tryd.prog 33 5 (.int .u8 0) 1 1 := ⟨Tryd.underlying33, by kernel_rfl, rfl, by omega⟩
theorem eltI : Elt Tryd.prog 22 3 (.int .i64 0) 1 8 := ⟨Tryd.underlying22, by kernel_rfl, rfl, by omega⟩

/-- The call returns a row of its own. -/
def RetOwn (w : World) (E sz n : Nat) (xs : List Value) (e : Ending) (w' : World) : Prop :=
  ∃ A c, e = .returned (.slice A n c) ∧ w'.ownsRow w.heap.size E sz (.slice A n c) n xs ∧ Below w.heap.size w w'

/-! ### wire.Int -/
theorem nb_more {j m : Nat} (h : 0 < j) (h2 : (m : Int) / 2 ^ (8 * (j - 1)) ≤ 0) : nbF (j - 1) m = nbF j m := by
  rw [shr_256] at h2
  obtain ⟨i, rfl⟩ : ∃ i, j = i + 1 := ⟨j - 1, by omega⟩
  simp only [Nat.add_sub_cancel] at h2 ⊢
  conv => rhs; unfold nbF
  rw [if_neg (by omega)]
theorem nb_here {j m : Nat} (h : 0 < j) (h2 : 0 < (m : Int) / 2 ^ (8 * (j - 1))) : nbF j m = j := by
  rw [shr_256] at h2
  obtain ⟨i, rfl⟩ : ∃ i, j = i + 1 := ⟨j - 1, by omega⟩
  simp only [Nat.add_sub_cancel] at h2 ⊢
  unfold nbF
  rw [if_pos (by omega)]
theorem be_step {ds : List UInt8} {t j m : Nat} (h : Hid (ds ++ be t m = be j m)) (ht : 1 ≤ t) : Hid (ds ++ [UInt8.ofNat (m / 256 ^ (t - 1))] ++ be (t - 1) m = be j m) := by
  show _ = _
  rw [← h.out]
  obtain ⟨i, rfl⟩ : ∃ i, t = i + 1 := ⟨t - 1, by omega⟩
  simp [be]
theorem encInt_nat (m : Nat) : encInt (m : Int) = UInt8.ofNat (128 + nb m) :: be (nb m) m := by
  unfold encInt
  rw [if_pos (by omega), Int.toNat_natCast]
set_option maxHeartbeats 400000 in
theorem Int_any (m : Nat) (w : World) (h1 : m ≤ 9223372036854775807) :
    Calls Tryd.prog 95 #[.int .i64 m] w (RetOwn w 5 1 (encInt m).length (bv (encInt m))) := by
  have hlt : decide ((m : Int) < 0) = false := by simp
  go_enter Tryd.func95, Tryd.ntmps95
  go_wp2
  go_step3
  go_wp2
  go_step3
  go_wp2
  go_loop [5] (fun k => ∃ j : Nat, j ≤ 8 ∧ Hid (nbF j m = nb m) ∧ k = .int .i64 j) (fun k => (intOf k).toNat)
  case atStart => exact ⟨8, by omega, rfl, rfl⟩
  case round =>
    obtain ⟨j, hj, hr, rfl⟩ := hrel
    go_wp2
    case roundEnd =>
      go_round
      case rel => exact ⟨j - 1, by omega, by show _ = _; rw [nb_more (by assumption) (by assumption)]; exact hr, by rw [show ((j - 1 : Nat) : Int) = (j : Int) - 1 by omega]⟩
      case measure => simp [intOf]; omega
    all_goals
      have hw8 : Hid (nb m = j) := by
        show _ = _
        rw [← hr.out]
        first
        | exact nb_here (by assumption) (by assumption)
        | (have : j = 0 := by omega
           subst this; rfl)
      clear hr
      go_loopw [6, 7] (fun v i wr => ∃ (t : Nat) (ds : List UInt8) (A : Option Addr) (n c : Nat), t ≤ j ∧ Hid (ds ++ be t m = be j m) ∧ i = .int .i64 ((t : Int) - 1) ∧ v = .slice A n c ∧
          wr.ownsRow w.heap.size 5 1 (.slice A n c) n (bv (UInt8.ofNat (128 + j) :: ds)) ∧ Below w.heap.size w wr) (fun _ i _ => (intOf i + 1).toNat)
      case atStart =>
        refine ⟨j, [], _, 1, 1, Nat.le_refl _, rfl, rfl, rfl, ?_, (Below.refl _ _).alloc (Nat.le_refl _) _⟩
        have e := xor0 (x := 128 + (j : Int)) (by omega) (by omega)
        rw [e, show [Value.int IntKind.u8 (128 + (j : Int))] = bv [UInt8.ofNat (128 + j)] by simp [bv]; omega]
        exact own_lit (Nat.le_refl _) rfl (by omega)
      case round =>
        obtain ⟨t, ds, A, n, c, ht, hds, rfl, rfl, hown, hb⟩ := hrel
        have hlen : Hid (n = ds.length + 1) := by have := hown.1; simp [bv] at this; exact this.symm
        have hdl : Hid (ds.length + t = j) := by have := congrArg List.length hds.out; simp [be_length] at this; exact this
        go_wp2_with (with_reducible refine stop_append ?_)
        all_goals first
        | (rw [Exit.noGoto_ret]
           have ht0 : t = 0 := by omega
           subst ht0
           go_ret
           have hd := hds.out
           simp only [be, List.append_nil] at hd
           rw [hd, ← hw8.out, ← encInt_nat] at hown
           have hn : n = (encInt (m : Int)).length := by have := hown.1; rw [bv_length] at this; omega
           subst hn
           exact ⟨A, c, rfl, hown, hb⟩)
        | (have ht1 : 1 ≤ t := by omega
           have hX : [Value.int IntKind.u8 (bits BinOp.xor IntKind.u8 ((m : Int) / 2 ^ (8 * (t - 1)) % 256) 0)] = bv [UInt8.ofNat (m / 256 ^ (t - 1))] := by
             rw [xor0 (by omega) (by omega), byte_of]; rfl
           rw [hX]
           have h1 := hlen.out
           have h2 := hdl.out
           refine at_append_src eltB w.heap.size rfl (hown.alloc _) rfl (Src.ofRd Tryd.underlying33 1 (rd_new 1 1 rfl (by omega)) (bv_one _)) (by omega) (by omega) (by have := hb.size; simp; omega) ?_
           intro A' c' w' hown' hg _
           clear h1 h2
           have hb' := below_own (hb.alloc hb.size _) (by have := hb.size; simp; omega) (hown.alloc _) (Nat.le_refl _) hg
           go_wp2
           go_roundw
           case rel => exact ⟨t - 1, ds ++ [UInt8.ofNat (m / 256 ^ (t - 1))], A', n + 1, c', by omega, be_step hds ht1, by rw [show ((t - 1 : Nat) : Int) - 1 = (t : Int) - 1 - 1 by omega], rfl, by rw [← bv_append] at hown'; exact hown', hb'⟩
           case measure => simp [intOf]; omega)
theorem cpl_int (b : UInt8) : (255 : Int) - (b.toNat : Int) = ((cpl b).toNat : Int) := by
  have := b.toNat_lt
  simp only [cpl, UInt8.toNat_ofNat']
  omega
theorem encInt_neg (m : Nat) : encInt (-1 - (m : Int)) = UInt8.ofNat (127 - nb m) :: (be (nb m) m).map cpl := by
  unfold encInt
  rw [if_neg (by omega), show (-1 - (-1 - (m : Int))).toNat = m by omega]
set_option maxHeartbeats 400000 in
theorem Int_neg (m : Nat) (w : World) (h1 : m ≤ 9223372036854775807) :
    Calls Tryd.prog 95 #[.int .i64 (-1 - (m : Int))] w (RetOwn w 5 1 (encInt (-1 - (m : Int))).length (bv (encInt (-1 - (m : Int))))) := by
  have hlt : decide (-1 - (m : Int) < 0) = true := by simp; omega
  go_enter Tryd.func95, Tryd.ntmps95
  go_wp2
  go_step3
  go_wp2
  go_step3
  go_wp2
  rw [not_u64 m h1]
  go_loop [5] (fun k => ∃ j : Nat, j ≤ 8 ∧ Hid (nbF j m = nb m) ∧ k = .int .i64 j) (fun k => (intOf k).toNat)
  case atStart => exact ⟨8, by omega, rfl, rfl⟩
  case round =>
    obtain ⟨j, hj, hr, rfl⟩ := hrel
    go_wp2
    case roundEnd =>
      go_round
      case rel => exact ⟨j - 1, by omega, by show _ = _; rw [nb_more (by assumption) (by assumption)]; exact hr, by rw [show ((j - 1 : Nat) : Int) = (j : Int) - 1 by omega]⟩
      case measure => simp [intOf]; omega
    all_goals
      have hw8 : Hid (nb m = j) := by
        show _ = _
        rw [← hr.out]
        first
        | exact nb_here (by assumption) (by assumption)
        | (have : j = 0 := by omega
           subst this; rfl)
      clear hr
      go_loopw [6, 7] (fun v i wr => ∃ (t : Nat) (ds : List UInt8) (A : Option Addr) (n c : Nat), t ≤ j ∧ Hid (ds ++ be t m = be j m) ∧ i = .int .i64 ((t : Int) - 1) ∧ v = .slice A n c ∧
          wr.ownsRow w.heap.size 5 1 (.slice A n c) n (bv (UInt8.ofNat (127 - j) :: ds.map cpl)) ∧ Below w.heap.size w wr) (fun _ i _ => (intOf i + 1).toNat)
      case atStart =>
        refine ⟨j, [], _, 1, 1, Nat.le_refl _, rfl, rfl, rfl, ?_, (Below.refl _ _).alloc (Nat.le_refl _) _⟩
        have e := xor255 (x := 128 + (j : Int)) (by omega) (by omega)
        rw [e, show [Value.int IntKind.u8 (255 - (128 + (j : Int)))] = bv [UInt8.ofNat (127 - j)] by simp [bv]; omega]
        exact own_lit (Nat.le_refl _) rfl (by omega)
      case round =>
        obtain ⟨t, ds, A, n, c, ht, hds, rfl, rfl, hown, hb⟩ := hrel
        have hlen : Hid (n = ds.length + 1) := by have := hown.1; simp [bv] at this; exact this.symm
        have hdl : Hid (ds.length + t = j) := by have := congrArg List.length hds.out; simp [be_length] at this; exact this
        go_wp2_with (with_reducible refine stop_append ?_)
        all_goals first
        | (rw [Exit.noGoto_ret]
           have ht0 : t = 0 := by omega
           subst ht0
           go_ret
           have hd := hds.out
           simp only [be, List.append_nil] at hd
           rw [hd, ← hw8.out, ← encInt_neg] at hown
           have hn : n = (encInt (-1 - (m : Int))).length := by have := hown.1; rw [bv_length] at this; omega
           subst hn
           exact ⟨A, c, rfl, hown, hb⟩)
        | (have ht1 : 1 ≤ t := by omega
           have hX : [Value.int IntKind.u8 (bits BinOp.xor IntKind.u8 ((m : Int) / 2 ^ (8 * (t - 1)) % 256) 255)] = bv [cpl (UInt8.ofNat (m / 256 ^ (t - 1)))] := by
             rw [xor255 (by omega) (by omega), byte_of, cpl_int]; rfl
           rw [hX]
           have h1 := hlen.out
           have h2 := hdl.out
           refine at_append_src eltB w.heap.size rfl (hown.alloc _) rfl (Src.ofRd Tryd.underlying33 1 (rd_new 1 1 rfl (by omega)) (bv_one _)) (by omega) (by omega) (by have := hb.size; simp; omega) ?_
           intro A' c' w' hown' hg _
           clear h1 h2
           have hb' := below_own (hb.alloc hb.size _) (by have := hb.size; simp; omega) (hown.alloc _) (Nat.le_refl _) hg
           go_wp2
           go_roundw
           case rel => exact ⟨t - 1, ds ++ [UInt8.ofNat (m / 256 ^ (t - 1))], A', n + 1, c', by omega, be_step hds ht1, by rw [show ((t - 1 : Nat) : Int) - 1 = (t : Int) - 1 - 1 by omega], rfl, by rw [← bv_append] at hown'; simpa using hown', hb'⟩
           case measure => simp [intOf]; omega)
theorem wire_Int (n : Int) (hn : inI64 n) (w : World) : Calls Tryd.prog 95 #[.int .i64 n] w (RetOwn w 5 1 (encInt n).length (bv (encInt n))) := by
  obtain ⟨h0, h1⟩ := hn
  by_cases h : 0 ≤ n
  · obtain ⟨m, rfl⟩ := Int.eq_ofNat_of_zero_le h
    exact Int_any m w (by omega)
  · obtain ⟨m, hm⟩ := Int.eq_ofNat_of_zero_le (show 0 ≤ -1 - n by omega)
    obtain rfl : n = -1 - (m : Int) := by omega
    exact Int_neg m w (by omega)

/-! ### wire.Bytes -/
set_option maxHeartbeats 400000 in
theorem wire_Bytes (s : ByteArray) (hs : s.size ≤ 140737488351232) (w : World) : Calls Tryd.prog 97 #[.string s] w (RetOwn w 5 1 (encBytes (sb s)).length (bv (encBytes (sb s)))) := by
  go_enter Tryd.func97, Tryd.ntmps97
  go_wp2_with fail
  refine (wire_Int (s.size : Int) ⟨by omega, by omega⟩ w).mono ?_
  rintro e w1 ⟨A, c, rfl, hown, hb⟩
  have hle := encInt_length_le (s.size : Int)
  go_wp2_with (with_reducible refine stop_append ?_)
  refine at_append_src eltB w.heap.size rfl hown rfl (Src.ofStr Tryd.underlying9 s) (by omega) (by omega) hb.size ?_
  intro A' c' w2 hown' hg _
  have hb' := below_own hb hb.size hown (Nat.le_refl _) hg
  clear hle
  go_wp2
  go_ret
  rw [← bv_append] at hown'
  have e1 : encInt (s.size : Int) ++ sb s = encBytes (sb s) := by unfold encBytes; rw [sb_length]
  have e2 : (encInt (s.size : Int)).length + s.size = (encBytes (sb s)).length := by rw [← e1, List.length_append, sb_length]
  rw [e1, e2] at hown'
  rw [e2]
  exact ⟨A', c', rfl, hown', hb'⟩

/-! ### wire.Ints -/
set_option maxHeartbeats 400000 in
theorem wire_Ints (xs : List Int) (hx : ∀ x ∈ xs, inI64 x) (A : Option Addr) (n c : Nat) (hn : n * 9 ≤ 140737488351232) (w : World) (hrd : Rd w A n 1 (iv xs)) :
    Calls Tryd.prog 98 #[.slice A n c] w (RetOwn w 5 1 (encList encInt xs).length (bv (encList encInt xs))) := by
  have hl : Hid (xs.length = n) := by have := hrd.len; rw [iv_length] at this; show _ = _; omega
  go_enter Tryd.func98, Tryd.ntmps98
  go_wp2_with fail
  refine (wire_Int (n : Int) ⟨by omega, by omega⟩ w).mono ?_
  rintro e w1 ⟨B, d, rfl, hown, hb⟩
  have hle := encInt_length_le (n : Int)
  go_wp2_with fail
  go_loopw [3, 11] (fun v i wr => ∃ (k m : Nat) (B : Option Addr) (d : Nat), k ≤ n ∧ m ≤ 9 * k + 9 ∧ i = .int .i64 k ∧ v = .slice B m d ∧
      wr.ownsRow w.heap.size 5 1 (.slice B m d) m (bv (encInt n ++ (xs.take k).flatMap encInt)) ∧ Below w.heap.size w wr) (fun _ i _ => n - (intOf i).toNat)
  case atStart => exact ⟨0, _, B, d, by omega, by omega, rfl, rfl, by simpa using hown, hb⟩
  case round =>
    clear hown hb
    obtain ⟨k, m, B', d', hk, hm, rfl, rfl, hown, hb⟩ := hrel
    by_cases hlt : k < n
    · obtain ⟨g, o, x, rfl, hcell, hxk⟩ := hrd.i64_at hb hlt
      have hin := hx x (List.mem_of_getElem? hxk)
      have Hx := hid hxk
      clear hxk
      go_wp2_with fail
      refine (wire_Int x hin _).mono ?_
      rintro e w2 ⟨C, d2, rfl, hown2, hb2⟩
      have hlx := encInt_length_le x
      go_wp2_with (with_reducible refine stop_append ?_)
      have hownw := own_below hown hb2
      have hb3 := below_then hb hb2 hb.size
      refine at_append_src eltB w.heap.size rfl hownw rfl (Src.ofRd Tryd.underlying33 d2 (own_Rd hown2) (bv_one _)) (by omega) (by omega) hb3.size ?_
      intro A' c' w3 hown' hg _
      have hb' := below_own hb3 hb3.size hownw (Nat.le_refl _) hg
      have HL := hid hlx
      clear hlx
      go_wp2
      go_roundw
      case rel => exact ⟨k + 1, _, A', c', by omega, by have := HL.out; omega, by go_num, rfl, by rw [take_flat _ Hx.out, ← List.append_assoc, bv_append]; exact hown', hb'⟩
      case measure => simp [intOf]; omega
    · go_wp2
      go_ret
      have hkn : k = n := by omega
      subst hkn
      have hl' := hl.out
      rw [List.take_of_length_le (by omega)] at hown
      have e1 : encInt (k : Int) ++ xs.flatMap encInt = encList encInt xs := by unfold encList; rw [hl']
      rw [e1] at hown
      have e2 : m = (encList encInt xs).length := by have := hown.1; rw [bv_length] at this; omega
      subst e2
      exact ⟨B', d', rfl, hown, hb⟩
end Go.Proofs.YtedegedceeefdaaDoor
/-! Walks: package wire, decoding. -/
namespace Go.Proofs.YtedegedceeefdaaDoor
open Go.RowKit Go.Cw Cu
set_option maxRecDepth 100000
set_option maxHeartbeats 1000000
set_option linter.unusedVariables false
set_option linter.unusedSimpArgs false

/-- What a decoder returns. -/
def R3 {α : Type} (z : Value) (f : α → Value) (r : Res α) : Value := match r with
  | .error e => .tuple #[z, .int .i64 0, .int .i64 (e : Int)]
  | .ok (x, k) => .tuple #[f x, .int .i64 (k : Int), .int .i64 0]
def intR (r : Res Int) : Value := R3 (.int .i64 0) (fun n => .int .i64 n) r

/-! ### wire.GetInt -/
theorem GetInt_empty (A : Option Addr) (c : Nat) (w : World) : Calls Tryd.prog 156 #[.slice A 0 c] w fun e w' => e = .returned (intR (decInt [])) ∧ w = w' := by
  go_enter Tryd.func156, Tryd.ntmps156
  go_wp2
  go_ret3
  exact ⟨rfl, rfl⟩
def loopRes (v K : Nat) (r : Int) : Value := if v ≥ 2 ^ 63 then .tuple #[.int .i64 0, .int .i64 0, .int .i64 6] else .tuple #[.int .i64 r, .int .i64 ((K + 1 : Nat) : Int), .int .i64 0]
theorem loopRes_big {v K : Nat} {r : Int} (h : 9223372036854775808 ≤ v) : loopRes v K r = .tuple #[.int .i64 0, .int .i64 0, .int .i64 6] := if_pos (by omega)
theorem loopRes_ok {v K : Nat} {r : Int} (h : ¬ 9223372036854775808 ≤ v) : loopRes v K r = .tuple #[.int .i64 r, .int .i64 ((K + 1 : Nat) : Int), .int .i64 0] := if_neg (by omega)
theorem val_take_succ {ds : List UInt8} {j : Nat} {x : UInt8} (h : ds[j]? = some x) : val (ds.take (j + 1)) = val (ds.take j) * 256 + x.toNat := by
  rw [List.take_add_one, h]
  show val (ds.take j ++ [x]) = _
  rw [val_append]
  simp [val]
theorem val_take_lt (ds : List UInt8) (j : Nat) : val (ds.take j) < 256 ^ j := by
  have h1 := val_lt (ds.take j)
  have h2 : (ds.take j).length ≤ j := by rw [List.length_take]; omega
  exact Nat.lt_of_lt_of_le h1 (Nat.pow_le_pow_right (by omega) h2)
theorem or_u64_byte (v : Nat) (x : Nat) (hv : v < 72057594037927936) (hx : x < 256) : bits BinOp.or IntKind.u64 ((v : Int) * 256) (x : Int) = ((v * 256 + x : Nat) : Int) := by
  have e : ((v : Int) * 256) = ((v * 256 : Nat) : Int) := by omega
  rw [e, bits_or_u64_nat _ _ (by omega) (by omega)]
  congr 1
  rw [show v * 256 = 2 ^ 8 * v by omega, ← Nat.two_pow_add_eq_or_of_lt (by omega)]

section
variable (g o K n c : Nat) (w : World)
theorem GetInt_big_pos (hn : 1 ≤ n) (hc : n ≤ c) (hK : 8 < K) (hK2 : K < 128) (h0 : w.cell? ⟨g, o, none⟩ = some (.int .u8 (128 + (K : Int)))) :
    Calls Tryd.prog 156 #[.slice (some ⟨g, o, none⟩) n c] w fun e w' => e = .returned (.tuple #[.int .i64 0, .int .i64 0, .int .i64 6]) ∧ w = w' := by
  have g1 : ((n : Int) == 0) = false := by simp; omega
  have g2 : decide (128 + (K : Int) < 128) = false := by simp; omega
  have g3 : bits BinOp.xor IntKind.u8 (128 + (K : Int)) 0 = 128 + (K : Int) := by rw [xor0 (by omega) (by omega)]
  go_enter Tryd.func156, Tryd.ntmps156
  go_wp2_with fail
  go_ret3
  exact ⟨rfl, rfl⟩
theorem GetInt_short_pos (hn : 1 ≤ n) (hc : n ≤ c) (hK : K ≤ 8) (hK2 : n ≤ K) (h0 : w.cell? ⟨g, o, none⟩ = some (.int .u8 (128 + (K : Int)))) :
    Calls Tryd.prog 156 #[.slice (some ⟨g, o, none⟩) n c] w fun e w' => e = .returned (.tuple #[.int .i64 0, .int .i64 0, .int .i64 5]) ∧ w = w' := by
  have g1 : ((n : Int) == 0) = false := by simp; omega
  have g2 : decide (128 + (K : Int) < 128) = false := by simp; omega
  have g3 : bits BinOp.xor IntKind.u8 (128 + (K : Int)) 0 = 128 + (K : Int) := by rw [xor0 (by omega) (by omega)]
  go_enter Tryd.func156, Tryd.ntmps156
  go_wp2_with fail
  go_ret3
  exact ⟨rfl, rfl⟩
theorem GetInt_lead_pos (hn : K < n) (hc : n ≤ c) (hK0 : 0 < K) (hK : K ≤ 8) (h0 : w.cell? ⟨g, o, none⟩ = some (.int .u8 (128 + (K : Int)))) (h1 : w.cell? ⟨g, o + 1, none⟩ = some (.int .u8 0)) :
    Calls Tryd.prog 156 #[.slice (some ⟨g, o, none⟩) n c] w fun e w' => e = .returned (.tuple #[.int .i64 0, .int .i64 0, .int .i64 6]) ∧ w = w' := by
  have g1 : ((n : Int) == 0) = false := by simp; omega
  have g2 : decide (128 + (K : Int) < 128) = false := by simp; omega
  have g3 : bits BinOp.xor IntKind.u8 (128 + (K : Int)) 0 = 128 + (K : Int) := by rw [xor0 (by omega) (by omega)]
  have g4 : bits BinOp.xor IntKind.u8 0 0 = 0 := by rw [xor0 (by omega) (by omega)]
  go_enter Tryd.func156, Tryd.ntmps156
  go_wp2_with fail
  go_ret3
  exact ⟨rfl, rfl⟩
theorem GetInt_zero_pos (hn : 0 < n) (hc : n ≤ c) (h0 : w.cell? ⟨g, o, none⟩ = some (.int .u8 128)) :
    Calls Tryd.prog 156 #[.slice (some ⟨g, o, none⟩) n c] w fun e w' => e = .returned (.tuple #[.int .i64 0, .int .i64 1, .int .i64 0]) ∧ w = w' := by
  have g1 : ((n : Int) == 0) = false := by simp; omega
  have g3 : bits BinOp.xor IntKind.u8 128 0 = 128 := by rw [xor0 (by omega) (by omega)]
  go_enter Tryd.func156, Tryd.ntmps156
  go_wp2_with fail
  all_goals
    refine wp_loop_rounds 1 ?_
    rw [rounds_succ]
    go_wp2_with fail
    go_ret3
    exact ⟨rfl, rfl⟩
theorem GetInt_loop_pos (ds : List UInt8) (hds : ds.length = K) (hn : K < n) (hc : n ≤ c) (hz : 0 < K) (hK : K ≤ 8) (hlead : K = 0 ∨ ds.headD 0 ≠ 0) (h0 : w.cell? ⟨g, o, none⟩ = some (.int .u8 (128 + (K : Int))))
    (ht : ∀ j x, ds[j]? = some x → w.cell? ⟨g, o + 1 + j, none⟩ = some (.int .u8 ((x.toNat : Int)))) :
    Calls Tryd.prog 156 #[.slice (some ⟨g, o, none⟩) n c] w fun e w' =>
      e = .returned (loopRes (val ds) K (val ds : Int)) ∧ w = w' := by
  have g1 : ((n : Int) == 0) = false := by simp; omega
  have g2 : decide (128 + (K : Int) < 128) = false := by simp; omega
  have g3 : bits BinOp.xor IntKind.u8 (128 + (K : Int)) 0 = 128 + (K : Int) := by rw [xor0 (by omega) (by omega)]
  have Hds := hid hds
  have Hlead := hid hlead
  clear hds hlead
  have hx1 : 0 < K → ∃ x : UInt8, w.cell? ⟨g, o + 1, none⟩ = some (.int .u8 ((x.toNat : Int))) ∧ bits BinOp.xor IntKind.u8 ((x.toNat : Int)) 0 = (x.toNat : Int) ∧ ((x.toNat : Int) == 0) = false := by
    intro h
    have hl := Hds.out
    rcases Hlead.out with h2 | h2
    · omega
    · match ds, hl, h2 with
      | x :: t, _, h2 =>
        have hb := x.toNat_lt
        refine ⟨x, ht 0 x rfl, by rw [xor0 (by omega) (by omega)], ?_⟩
        simp only [List.headD_cons] at h2
        have : x.toNat ≠ 0 := fun e => h2 (UInt8.toNat_inj.1 (by simpa using e))
        simp; omega
  have hx2 : ∀ j, j < K → ∃ x : UInt8, w.cell? ⟨g, o + 1 + j, none⟩ = some (.int .u8 ((x.toNat : Int))) ∧ bits BinOp.xor IntKind.u8 ((x.toNat : Int)) 0 = (x.toNat : Int) ∧ ds[j]? = some x := by
    intro j hj
    have hl := Hds.out
    have e := List.getElem?_eq_getElem (show j < ds.length by omega)
    have hb := (ds[j]'(by omega)).toNat_lt
    exact ⟨_, ht j _ e, by rw [xor0 (by omega) (by omega)], e⟩
  clear ht
  obtain ⟨x1, c1, c2, c3⟩ := hx1 hz
  clear hx1
  go_enter Tryd.func156, Tryd.ntmps156
  go_wp2_with fail
  clear c1 c2 c3
  go_loop [7, 48] (fun m i => ∃ j : Nat, j ≤ K ∧ i = .int .i64 j ∧ m = .int .u64 (val (ds.take j) : Int)) (fun _ i => K - (intOf i).toNat)
  case atStart => exact ⟨0, by omega, rfl, rfl⟩
  case round =>
    obtain ⟨j, hj, rfl, rfl⟩ := hrel
    by_cases hlt : j < K
    · obtain ⟨x, e1, e2, e3⟩ := hx2 j hlt
      have hv := val_take_lt ds j
      have hp : (256 : Nat) ^ j ≤ 256 ^ 7 := Nat.pow_le_pow_right (by omega) (by omega)
      have hs := hid (val_take_succ e3)
      clear hx2 e3
      generalize val (ds.take j) = v at *
      have hv2 : v < 72057594037927936 := by omega
      clear hv hp
      have hb := x.toNat_lt
      have e5 := or_u64_byte v x.toNat hv2 hb
      go_wp2_with fail
      go_round
      case rel => exact ⟨j + 1, by omega, by go_num, by rw [hs.out]; first | rfl | rw [e5] | (rw [← e5])⟩
      case measure => simp [intOf]; omega
    · have hjk : j = K := by omega
      subst hjk
      rw [List.take_of_length_le (by have := Hds.out; omega)]
      clear hx2
      have hv : val ds < 18446744073709551616 := by
        have h1 := val_lt ds
        have h2 : (256 : Nat) ^ ds.length ≤ 256 ^ 8 := Nat.pow_le_pow_right (by omega) (by have := Hds.out; omega)
        omega
      generalize hvd : val ds = v at *
      have HV := hid hvd
      clear hvd
      by_cases hbig : 9223372036854775808 ≤ v
      · go_wp2_with fail
        go_ret3
        exact ⟨by rw [HV.out, loopRes_big hbig]; exact tup3 rfl rfl rfl, rfl⟩
      · go_wp2_with fail
        go_ret3
        exact ⟨by rw [HV.out, loopRes_ok hbig]; exact tup3 rfl (by omega) rfl, rfl⟩
end

section
variable (g o K n c : Nat) (w : World)
theorem GetInt_big_neg (hn : 1 ≤ n) (hc : n ≤ c) (hK : 8 < K) (hK2 : K < 128) (h0 : w.cell? ⟨g, o, none⟩ = some (.int .u8 (127 - (K : Int)))) :
    Calls Tryd.prog 156 #[.slice (some ⟨g, o, none⟩) n c] w fun e w' => e = .returned (.tuple #[.int .i64 0, .int .i64 0, .int .i64 6]) ∧ w = w' := by
  have g1 : ((n : Int) == 0) = false := by simp; omega
  have g2 : decide (127 - (K : Int) < 128) = true := by simp; omega
  have g3 : bits BinOp.xor IntKind.u8 (127 - (K : Int)) 255 = 128 + (K : Int) := by rw [xor255 (by omega) (by omega)]; omega
  go_enter Tryd.func156, Tryd.ntmps156
  go_wp2_with fail
  go_ret3
  exact ⟨rfl, rfl⟩
theorem GetInt_short_neg (hn : 1 ≤ n) (hc : n ≤ c) (hK : K ≤ 8) (hK2 : n ≤ K) (h0 : w.cell? ⟨g, o, none⟩ = some (.int .u8 (127 - (K : Int)))) :
    Calls Tryd.prog 156 #[.slice (some ⟨g, o, none⟩) n c] w fun e w' => e = .returned (.tuple #[.int .i64 0, .int .i64 0, .int .i64 5]) ∧ w = w' := by
  have g1 : ((n : Int) == 0) = false := by simp; omega
  have g2 : decide (127 - (K : Int) < 128) = true := by simp; omega
  have g3 : bits BinOp.xor IntKind.u8 (127 - (K : Int)) 255 = 128 + (K : Int) := by rw [xor255 (by omega) (by omega)]; omega
  go_enter Tryd.func156, Tryd.ntmps156
  go_wp2_with fail
  go_ret3
  exact ⟨rfl, rfl⟩
theorem GetInt_lead_neg (hn : K < n) (hc : n ≤ c) (hK0 : 0 < K) (hK : K ≤ 8) (h0 : w.cell? ⟨g, o, none⟩ = some (.int .u8 (127 - (K : Int)))) (h1 : w.cell? ⟨g, o + 1, none⟩ = some (.int .u8 255)) :
    Calls Tryd.prog 156 #[.slice (some ⟨g, o, none⟩) n c] w fun e w' => e = .returned (.tuple #[.int .i64 0, .int .i64 0, .int .i64 6]) ∧ w = w' := by
  have g1 : ((n : Int) == 0) = false := by simp; omega
  have g2 : decide (127 - (K : Int) < 128) = true := by simp; omega
  have g3 : bits BinOp.xor IntKind.u8 (127 - (K : Int)) 255 = 128 + (K : Int) := by rw [xor255 (by omega) (by omega)]; omega
  have g4 : bits BinOp.xor IntKind.u8 255 255 = 0 := by rw [xor255 (by omega) (by omega)]; rfl
  go_enter Tryd.func156, Tryd.ntmps156
  go_wp2_with fail
  go_ret3
  exact ⟨rfl, rfl⟩
theorem GetInt_zero_neg (hn : 0 < n) (hc : n ≤ c) (h0 : w.cell? ⟨g, o, none⟩ = some (.int .u8 127)) :
    Calls Tryd.prog 156 #[.slice (some ⟨g, o, none⟩) n c] w fun e w' => e = .returned (.tuple #[.int .i64 (-1), .int .i64 1, .int .i64 0]) ∧ w = w' := by
  have g1 : ((n : Int) == 0) = false := by simp; omega
  have g3 : bits BinOp.xor IntKind.u8 127 255 = 128 := by rw [xor255 (by omega) (by omega)]; rfl
  go_enter Tryd.func156, Tryd.ntmps156
  go_wp2_with fail
  all_goals
    refine wp_loop_rounds 1 ?_
    rw [rounds_succ]
    go_wp2_with fail
    go_ret3
    exact ⟨tup3 (not_wrap 0 (by omega)) rfl rfl, rfl⟩
theorem GetInt_loop_neg (ds : List UInt8) (hds : ds.length = K) (hn : K < n) (hc : n ≤ c) (hz : 0 < K) (hK : K ≤ 8) (hlead : K = 0 ∨ ds.headD 0 ≠ 0) (h0 : w.cell? ⟨g, o, none⟩ = some (.int .u8 (127 - (K : Int))))
    (ht : ∀ j x, ds[j]? = some x → w.cell? ⟨g, o + 1 + j, none⟩ = some (.int .u8 (255 - (x.toNat : Int)))) :
    Calls Tryd.prog 156 #[.slice (some ⟨g, o, none⟩) n c] w fun e w' =>
      e = .returned (loopRes (val ds) K (-1 - (val ds : Int))) ∧ w = w' := by
  have g1 : ((n : Int) == 0) = false := by simp; omega
  have g2 : decide (127 - (K : Int) < 128) = true := by simp; omega
  have g3 : bits BinOp.xor IntKind.u8 (127 - (K : Int)) 255 = 128 + (K : Int) := by rw [xor255 (by omega) (by omega)]; omega
  have Hds := hid hds
  have Hlead := hid hlead
  clear hds hlead
  have hx1 : 0 < K → ∃ x : UInt8, w.cell? ⟨g, o + 1, none⟩ = some (.int .u8 (255 - (x.toNat : Int))) ∧ bits BinOp.xor IntKind.u8 (255 - (x.toNat : Int)) 255 = (x.toNat : Int) ∧ ((x.toNat : Int) == 0) = false := by
    intro h
    have hl := Hds.out
    rcases Hlead.out with h2 | h2
    · omega
    · match ds, hl, h2 with
      | x :: t, _, h2 =>
        have hb := x.toNat_lt
        refine ⟨x, ht 0 x rfl, by rw [xor255 (by omega) (by omega)]; omega, ?_⟩
        simp only [List.headD_cons] at h2
        have : x.toNat ≠ 0 := fun e => h2 (UInt8.toNat_inj.1 (by simpa using e))
        simp; omega
  have hx2 : ∀ j, j < K → ∃ x : UInt8, w.cell? ⟨g, o + 1 + j, none⟩ = some (.int .u8 (255 - (x.toNat : Int))) ∧ bits BinOp.xor IntKind.u8 (255 - (x.toNat : Int)) 255 = (x.toNat : Int) ∧ ds[j]? = some x := by
    intro j hj
    have hl := Hds.out
    have e := List.getElem?_eq_getElem (show j < ds.length by omega)
    have hb := (ds[j]'(by omega)).toNat_lt
    exact ⟨_, ht j _ e, by rw [xor255 (by omega) (by omega)]; omega, e⟩
  clear ht
  obtain ⟨x1, c1, c2, c3⟩ := hx1 hz
  clear hx1
  go_enter Tryd.func156, Tryd.ntmps156
  go_wp2_with fail
  clear c1 c2 c3
  go_loop [7, 48] (fun m i => ∃ j : Nat, j ≤ K ∧ i = .int .i64 j ∧ m = .int .u64 (val (ds.take j) : Int)) (fun _ i => K - (intOf i).toNat)
  case atStart => exact ⟨0, by omega, rfl, rfl⟩
  case round =>
    obtain ⟨j, hj, rfl, rfl⟩ := hrel
    by_cases hlt : j < K
    · obtain ⟨x, e1, e2, e3⟩ := hx2 j hlt
      have hv := val_take_lt ds j
      have hp : (256 : Nat) ^ j ≤ 256 ^ 7 := Nat.pow_le_pow_right (by omega) (by omega)
      have hs := hid (val_take_succ e3)
      clear hx2 e3
      generalize val (ds.take j) = v at *
      have hv2 : v < 72057594037927936 := by omega
      clear hv hp
      have hb := x.toNat_lt
      have e5 := or_u64_byte v x.toNat hv2 hb
      go_wp2_with fail
      go_round
      case rel => exact ⟨j + 1, by omega, by go_num, by rw [hs.out]; first | rfl | rw [e5] | (rw [← e5])⟩
      case measure => simp [intOf]; omega
    · have hjk : j = K := by omega
      subst hjk
      rw [List.take_of_length_le (by have := Hds.out; omega)]
      clear hx2
      have hv : val ds < 18446744073709551616 := by
        have h1 := val_lt ds
        have h2 : (256 : Nat) ^ ds.length ≤ 256 ^ 8 := Nat.pow_le_pow_right (by omega) (by have := Hds.out; omega)
        omega
      generalize hvd : val ds = v at *
      have HV := hid hvd
      clear hvd
      by_cases hbig : 9223372036854775808 ≤ v
      · go_wp2_with fail
        go_ret3
        exact ⟨by rw [HV.out, loopRes_big hbig]; exact tup3 rfl rfl rfl, rfl⟩
      · go_wp2_with fail
        go_ret3
        exact ⟨by rw [HV.out, loopRes_ok hbig]; exact tup3 (not_wrap v (by omega)) (by omega) rfl, rfl⟩
end

theorem Rd.byte {w : World} {g o n : Nat} {A : Option Addr} {bs : List UInt8} (hc : ∀ j u, (bv bs)[j]? = some u → w.cell? ⟨g, o + j, none⟩ = some u) (j : Nat) (x : UInt8) (h : bs[j]? = some x) :
    w.cell? ⟨g, o + j, none⟩ = some (.int .u8 (x.toNat : Int)) := hc j _ (by simp [bv, h])
theorem cpl_cell (x : UInt8) : (x.toNat : Int) = 255 - ((cpl x).toNat : Int) := by
  have := x.toNat_lt
  simp only [cpl, UInt8.toNat_ofNat']; omega
theorem decInt_zero {h : UInt8} (t : List UInt8) (hK : headK h = 0) : decInt (h :: t) = .ok (if h.toNat < 128 then -1 else 0, 1) := by
  simp [decInt, hK, digs, val]
theorem wire_GetInt (bs : List UInt8) (A : Option Addr) (n c : Nat) (w : World) (hrd : Rd w A n 1 (bv bs)) (hc : n ≤ c) :
    Calls Tryd.prog 156 #[.slice A n c] w fun e w' => e = .returned (intR (decInt bs)) ∧ w = w' := by
  have hl := hrd.len
  rw [bv_length] at hl
  cases bs with
  | nil =>
    obtain rfl : n = 0 := by simp at hl; omega
    exact GetInt_empty A c w
  | cons h t =>
    simp only [List.length_cons, Nat.mul_one] at hl
    obtain ⟨g, o, rfl, hcell⟩ := hrd.cells (by omega)
    have hb := Rd.byte (A := none) (n := 0) hcell
    have h0 := hb 0 h rfl
    rw [Nat.add_zero] at h0
    have ht : ∀ j x, t[j]? = some x → w.cell? ⟨g, o + 1 + j, none⟩ = some (.int .u8 (x.toNat : Int)) := fun j x hx => by
      rw [Nat.add_assoc]; exact hb (1 + j) x (by rw [Nat.add_comm]; simpa using hx)
    have hh := h.toNat_lt
    unfold intR
    by_cases hz : headK h = 0
    · rw [decInt_zero t hz]
      have hK := hz
      unfold headK at hK
      by_cases hneg : h.toNat < 128
      · rw [if_pos hneg] at hK ⊢
        exact GetInt_zero_neg g o n c w (by omega) hc (by rw [h0]; congr 2; omega)
      · rw [if_neg hneg] at hK ⊢
        exact GetInt_zero_pos g o n c w (by omega) hc (by rw [h0]; congr 2; omega)
    simp only [decInt]
    have htk : ∀ j x, (t.take (headK h))[j]? = some x → t[j]? = some x := fun j x hx => by
      rw [List.getElem?_take] at hx
      split at hx
      · exact hx
      · cases hx
    by_cases hneg : h.toNat < 128
    · have hK : headK h = 127 - h.toNat := by unfold headK; rw [if_pos hneg]
      have hd : ∀ l, digs h l = l.map cpl := fun l => by unfold digs; rw [if_pos hneg]
      simp only [hd]
      have h0' : w.cell? ⟨g, o, none⟩ = some (.int .u8 (127 - (headK h : Int))) := by rw [h0]; congr 2; omega
      by_cases h1 : headK h > 8
      · rw [if_pos h1]; exact GetInt_big_neg g o _ n c w (by omega) hc h1 (by omega) h0'
      rw [if_neg h1]
      by_cases h2 : t.length < headK h
      · rw [if_pos h2]; exact GetInt_short_neg g o _ n c w (by omega) hc (by omega) (by omega) h0'
      rw [if_neg h2]
      by_cases h3 : 0 < headK h ∧ ((t.take (headK h)).map cpl).headD 0 = 0
      · rw [if_pos h3]
        cases t with
        | nil => simp at h2; omega
        | cons x t' =>
          obtain ⟨h3a, h3b⟩ := h3
          obtain ⟨q, hq⟩ : ∃ q, headK h = q + 1 := ⟨headK h - 1, by omega⟩
          rw [hq] at h3b
          simp only [List.take_succ_cons, List.map_cons, List.headD_cons] at h3b
          have hx := ht 0 x rfl
          rw [cpl_cell, h3b] at hx
          exact GetInt_lead_neg g o _ n c w (by omega) hc h3a (by omega) h0' hx
      · rw [if_neg h3, if_pos hneg]
        have := GetInt_loop_neg g o (headK h) n c w ((t.take (headK h)).map cpl) (by simp; omega) (by omega) hc (by omega) (by omega)
          (.inr fun e => h3 ⟨by omega, e⟩) h0' (fun j x hx => by
            rw [List.getElem?_map] at hx
            obtain ⟨y, hy, rfl⟩ := Option.map_eq_some_iff.1 hx
            rw [ht j y (htk j y hy), cpl_cell])
        refine this.mono fun e w' he => ⟨?_, he.2⟩
        rw [he.1]
        unfold loopRes
        split <;> rfl
    · have hK : headK h = h.toNat - 128 := by unfold headK; rw [if_neg hneg]
      have hd : ∀ l, digs h l = l := fun l => by unfold digs; rw [if_neg hneg]
      simp only [hd]
      have h0' : w.cell? ⟨g, o, none⟩ = some (.int .u8 (128 + (headK h : Int))) := by rw [h0]; congr 2; omega
      by_cases h1 : headK h > 8
      · rw [if_pos h1]; exact GetInt_big_pos g o _ n c w (by omega) hc h1 (by omega) h0'
      rw [if_neg h1]
      by_cases h2 : t.length < headK h
      · rw [if_pos h2]; exact GetInt_short_pos g o _ n c w (by omega) hc (by omega) (by omega) h0'
      rw [if_neg h2]
      by_cases h3 : 0 < headK h ∧ (t.take (headK h)).headD 0 = 0
      · rw [if_pos h3]
        cases t with
        | nil => simp at h2; omega
        | cons x t' =>
          obtain ⟨h3a, h3b⟩ := h3
          obtain ⟨q, hq⟩ : ∃ q, headK h = q + 1 := ⟨headK h - 1, by omega⟩
          rw [hq] at h3b
          simp only [List.take_succ_cons, List.headD_cons] at h3b
          have hx := ht 0 x rfl
          rw [h3b] at hx
          exact GetInt_lead_pos g o _ n c w (by omega) hc h3a (by omega) h0' hx
      · rw [if_neg h3, if_neg hneg]
        have := GetInt_loop_pos g o (headK h) n c w (t.take (headK h)) (by simp; omega) (by omega) hc (by omega) (by omega)
          (.inr fun e => h3 ⟨by omega, e⟩) h0' (fun j x hx => ht j x (htk j x hx))
        refine this.mono fun e w' he => ⟨?_, he.2⟩
        rw [he.1]
        unfold loopRes
        split <;> rfl
end Go.Proofs.YtedegedceeefdaaDoor
/-! Walks: package wire, decoding of lists. -/
namespace Go.Proofs.YtedegedceeefdaaDoor
open Go.RowKit Go.Cw Cu
set_option maxRecDepth 100000
set_option maxHeartbeats 1000000
set_option linter.unusedVariables false
set_option linter.unusedSimpArgs false

theorem decInt_err {bs : List UInt8} {e : Nat} (h : decInt bs = .error e) : e = 5 ∨ e = 6 := by
  cases bs with
  | nil => simp [decInt] at h; omega
  | cons c t =>
    simp only [decInt] at h
    repeat' split at h
    all_goals first | (injection h with h; omega) | cases h
theorem decInt_ok {bs : List UInt8} {n : Int} {k : Nat} (h : decInt bs = .ok (n, k)) : k ≤ bs.length ∧ 0 < k ∧ inI64 n := ⟨(enc_of_dec h).1, (enc_of_dec h).2.1, (enc_of_dec h).2.2.2⟩
theorem decCount_err {bs : List UInt8} {sz e : Nat} (h : decCount bs sz = .error e) : e = 5 ∨ e = 6 := by
  unfold decCount at h
  split at h
  · rename_i e' he
    injection h with h; subst h; exact decInt_err he
  · repeat' split at h
    all_goals first | (injection h with h; omega) | cases h

/-! ### wire.count -/
theorem count_err (bs : List UInt8) (A : Option Addr) (n c sz e0 : Nat) (w : World) (hrd : Rd w A n 1 (bv bs)) (hc : n ≤ c) (hm : n ≤ 140737488351232) (hs0 : 0 < sz) (hs : sz ≤ 16) (h : decCount bs sz = .error e0) :
    Calls Tryd.prog 178 #[.slice A n c, .int .i64 sz] w fun e w' => (∃ x y : Int, e = .returned (.tuple #[.int .i64 x, .int .i64 y, .int .i64 e0])) ∧ w = w' := by
  have hl := hrd.len
  rw [bv_length] at hl
  unfold decCount at h
  cases hd : decInt bs with
  | error e1 =>
    rw [hd] at h
    obtain rfl : e1 = e0 := by simpa using h
    have := decInt_err hd
    have g : ((e1 : Int) != 0) = true := by simp; omega
    have hcall := wire_GetInt bs A n c w hrd hc
    rw [hd] at hcall
    go_enter Tryd.func178, Tryd.ntmps178
    go_wp2_with fail
    refine hcall.mono ?_
    rintro e w1 ⟨rfl, rfl⟩
    simp only [intR, R3]
    go_wp2_with fail
    go_ret3
    exact ⟨⟨_, _, rfl⟩, rfl⟩
  | ok p =>
    obtain ⟨m, k⟩ := p
    rw [hd] at h
    obtain ⟨hk, hk0, hm1, hm2⟩ := decInt_ok hd
    have hcall := wire_GetInt bs A n c w hrd hc
    rw [hd] at hcall
    simp only at h
    split at h
    · rename_i hneg
      obtain rfl : 6 = e0 := by simpa using h
      go_enter Tryd.func178, Tryd.ntmps178
      go_wp2_with fail
      refine hcall.mono ?_
      rintro e w1 ⟨rfl, rfl⟩
      simp only [intR, R3]
      go_wp2_with fail
      go_ret3
      exact ⟨⟨_, _, rfl⟩, rfl⟩
    · rename_i hneg
      obtain ⟨q, rfl⟩ := Int.eq_ofNat_of_zero_le (show 0 ≤ m by omega)
      have e1 : ((n : Int) - k) / sz = (((n - k) / sz : Nat) : Int) := by
        rw [show ((n : Int) - k) = ((n - k : Nat) : Int) by omega]; norm_cast
      rw [Int.toNat_natCast, hl, Nat.mul_one] at h
      have H1 := hid e1
      have H2 := hid h
      clear e1 h
      go_enter Tryd.func178, Tryd.ntmps178
      go_wp2_with fail
      refine hcall.mono ?_
      rintro e w1 ⟨rfl, rfl⟩
      simp only [intR, R3]
      go_wp2_with fail
      · have h := H2.out
        split at h
        · obtain rfl : 5 = e0 := by simpa using h
          go_ret3
          exact ⟨⟨_, _, rfl⟩, rfl⟩
        · cases h
      · have h := H2.out
        have h3 := H1.out
        rw [if_neg (by omega)] at h
        cases h
theorem count_ok (bs : List UInt8) (A : Option Addr) (n c sz m k : Nat) (w : World) (hrd : Rd w A n 1 (bv bs)) (hc : n ≤ c) (hm : n ≤ 140737488351232) (hs0 : 0 < sz) (hs : sz ≤ 16) (h : decCount bs sz = .ok (m, k)) :
    Calls Tryd.prog 178 #[.slice A n c, .int .i64 sz] w fun e w' => e = .returned (.tuple #[.int .i64 m, .int .i64 k, .int .i64 0]) ∧ w = w' := by
  have hl := hrd.len
  rw [bv_length] at hl
  unfold decCount at h
  cases hd : decInt bs with
  | error e1 => rw [hd] at h; cases h
  | ok p =>
    obtain ⟨q', k'⟩ := p
    rw [hd] at h
    obtain ⟨hk, hk0, hm1, hm2⟩ := decInt_ok hd
    have hcall := wire_GetInt bs A n c w hrd hc
    rw [hd] at hcall
    simp only at h
    split at h
    · cases h
    split at h
    · cases h
    rename_i h1 h2
    obtain ⟨q, rfl⟩ := Int.eq_ofNat_of_zero_le (show 0 ≤ q' by omega)
    simp only [Except.ok.injEq, Prod.mk.injEq, Int.toNat_natCast] at h
    obtain ⟨rfl, rfl⟩ := h
    rw [Int.toNat_natCast, hl, Nat.mul_one] at h2
    have e1 : ((n : Int) - k') / sz = (((n - k') / sz : Nat) : Int) := by
      rw [show ((n : Int) - k') = ((n - k' : Nat) : Int) by omega]; norm_cast
    have e2 : decide (((n : Int) - k') / sz < q) = false := by rw [e1]; simp; omega
    clear e1 h2
    go_enter Tryd.func178, Tryd.ntmps178
    go_wp2_with fail
    refine hcall.mono ?_
    rintro e w1 ⟨rfl, rfl⟩
    simp only [intR, R3]
    go_wp2_with fail
    go_ret3
    exact ⟨rfl, rfl⟩
/-! ### wire.GetBytes -/
def strR (r : Res (List UInt8)) : Value := R3 (.string ⟨#[]⟩) (fun s => .string ⟨s.toArray⟩) r
theorem wire_GetBytes (bs : List UInt8) (A : Option Addr) (n c : Nat) (w : World) (hrd : Rd w A n 1 (bv bs)) (hc : n ≤ c) (hm : n ≤ 140737488351232) :
    Calls Tryd.prog 158 #[.slice A n c] w fun e w' => e = .returned (strR (decBytes bs)) ∧ w = w' := by
  have hl := hrd.len
  rw [bv_length] at hl
  cases hd : decCount bs 1 with
  | error e1 =>
    have hcall := count_err bs A n c 1 e1 w hrd hc hm (by omega) (by omega) hd
    have := decCount_err hd
    have g : ((e1 : Int) != 0) = true := by simp; omega
    have hR := hid (show strR (decBytes bs) = .tuple #[.string ⟨#[]⟩, .int .i64 0, .int .i64 e1] by unfold decBytes; rw [hd]; rfl)
    go_enter Tryd.func158, Tryd.ntmps158
    go_wp2_with fail
    refine hcall.mono ?_
    rintro e w1 ⟨⟨x, y, rfl⟩, rfl⟩
    go_wp2_with fail
    go_ret3
    exact ⟨by rw [hR.out]; rfl, rfl⟩
  | ok p =>
    obtain ⟨m, k⟩ := p
    obtain ⟨h1, h2, _, h4, h5⟩ := enc_of_decCount (by omega) hd
    have hcall := count_ok bs A n c 1 m k w hrd hc hm (by omega) (by omega) hd
    have hR := hid (show strR (decBytes bs) = .tuple #[.string ⟨((bs.drop k).take m).toArray⟩, .int .i64 ((k + m : Nat) : Int), .int .i64 0] by unfold decBytes; rw [hd]; rfl)
    clear hd
    go_enter Tryd.func158, Tryd.ntmps158
    go_wp2_with fail
    refine hcall.mono ?_
    rintro e w1 ⟨rfl, rfl⟩
    go_wp2_with (first | (with_reducible refine stop_slice ?_) | (with_reducible refine stop_convert ?_))
    refine at_slice_lohi eltB (l := k) (u := k + m) rfl rfl rfl rfl (by omega) hrd hc (by omega) (by omega) ?_
    intro A' hrd'
    rw [bv_drop, bv_take, Nat.mul_one, Nat.mul_one, Nat.add_sub_cancel_left] at hrd'
    rw [Nat.add_sub_cancel_left]
    go_wp2_with (first | (with_reducible refine stop_slice ?_) | (with_reducible refine stop_convert ?_))
    refine at_str Tryd.underlying33 Tryd.underlying5 Tryd.underlying9 rfl hrd' ?_
    go_wp2
    go_ret3
    exact ⟨by rw [hR.out, Int.natCast_add]; rfl, rfl⟩

/-! ### wire.GetInts -/
theorem wire_reader (v : Value) (k : Int) (w : World) (hv : v.oneCell' = true) (A : Option Addr) (n c : Nat) (hva : v = .slice A n c) :
    Calls Tryd.prog 179 #[v, .int .i64 k] w fun e w' => e = .returned (.func (.func 190) #[] #[.pointer (some ⟨w.heap.size, 0, none⟩), .pointer (some ⟨w.heap.size + 1, 0, none⟩)]) ∧
      ((w.alloc (.cells #[v] 33)).alloc (.cells #[.int .i64 k] 3)) = w' := by
  subst hva
  go_enter Tryd.func179, Tryd.ntmps179
  go_wp2_with fail
  go_ret
  exact ⟨rfl, rfl⟩
/-- One step of the reader: from the place pos on. -/
def stepV (pos : Nat) (r : Res Int) : Value := match r with
  | .error e => .tuple #[.int .i64 0, .int .i64 (pos : Int), .int .i64 (e : Int)]
  | .ok (x, k) => .tuple #[.int .i64 x, .int .i64 ((pos + k : Nat) : Int), .int .i64 0]
def stepPos (pos : Nat) (r : Res Int) : Nat := match r with
  | .error _ => pos
  | .ok (_, k) => pos + k
theorem wire_reader1 (bs : List UInt8) (A : Option Addr) (n c pos g1 g2 : Nat) (w : World) (hrd : Rd w A n 1 (bv bs)) (hc : n ≤ c) (hm : n ≤ 140737488351232) (hp : pos ≤ n)
    (h1 : w.cell? ⟨g1, 0, none⟩ = some (.slice A n c)) (h2 : w.heap[g2]? = some (.cells #[.int .i64 (pos : Int)] 3 (0, 0))) :
    Calls Tryd.prog 190 #[.pointer (some ⟨g1, 0, none⟩), .pointer (some ⟨g2, 0, none⟩)] w fun e w' =>
      e = .returned (stepV pos (decInt (bs.drop pos))) ∧ Drw (w.setCell ⟨g2, 0, none⟩ (.int .i64 (stepPos pos (decInt (bs.drop pos)) : Int))) w' := by
  have hl := hrd.len
  rw [bv_length] at hl
  have c2 := cell_of_one h2
  have f2 := free_of_one h2
  have H2 := hid h2
  clear h2
  go_enter Tryd.func190, Tryd.ntmps190
  go_wp2_with (with_reducible refine stop_slice ?_)
  refine at_slice_lo eltB (l := pos) rfl rfl rfl hrd hc hp ?_
  intro A' hrd'
  rw [bv_drop, Nat.mul_one] at hrd'
  go_wp2_with fail
  refine (wire_GetInt _ A' _ _ w hrd' (by omega)).mono ?_
  rintro e w1 ⟨rfl, rfl⟩
  cases hd : decInt (bs.drop pos) with
  | error e0 =>
    have hd' := hid hd
    clear hd
    simp only [intR, R3]
    go_wp2_with fail
    go_quiet (fail)
    go_wp2_with fail
    go_ret3
    exact ⟨by rw [hd'.out]; rfl, by rw [hd'.out]; exact ⟨_, rfl⟩⟩
  | ok p =>
    obtain ⟨x, k⟩ := p
    have hk := (decInt_ok hd).1
    rw [List.length_drop] at hk
    have hd' := hid hd
    clear hd
    simp only [intR, R3]
    go_wp2_with fail
    go_quiet (fail)
    go_wp2_with fail
    go_ret3
    exact ⟨by rw [hd'.out]; exact tup3 rfl (by omega) rfl, by rw [hd'.out, show ((pos : Int) + (k : Int)) = ((pos + k : Nat) : Int) by omega]; exact ⟨_, rfl⟩⟩
/-- A list of ints in new memory, the number of bytes, OK; or an error. -/
def ListRet (w : World) (E sz : Nat) {α : Type} (f : List α → List Value) (r : Res (List α)) (e : Ending) (w' : World) : Prop := match r with
  | .error e0 => e = .returned (.tuple #[.slice none 0 0, .int .i64 0, .int .i64 (e0 : Int)]) ∧ Below w.heap.size w w'
  | .ok (l, k) => ∃ A c, e = .returned (.tuple #[.slice A l.length c, .int .i64 (k : Int), .int .i64 0]) ∧ w'.ownsRow w.heap.size E sz (.slice A l.length c) l.length (f l) ∧ Below w.heap.size w w'
theorem wire_GetInts (bs : List UInt8) (A : Option Addr) (n c : Nat) (w : World) (hrd : Rd w A n 1 (bv bs)) (hc : n ≤ c) (hm : n * 8 ≤ 140737488351232) :
    Calls Tryd.prog 159 #[.slice A n c] w (ListRet w 3 1 iv (decList 1 decInt bs)) := by
  have hl := hrd.len
  rw [bv_length] at hl
  cases hd : decCount bs 1 with
  | error e1 =>
    have hcall := count_err bs A n c 1 e1 w hrd hc (by omega) (by omega) (by omega) hd
    have := decCount_err hd
    have g : ((e1 : Int) != 0) = true := by simp; omega
    have hR := hid (show decList 1 decInt bs = .error e1 by unfold decList; rw [hd])
    go_enter Tryd.func159, Tryd.ntmps159
    go_wp2_with fail
    refine hcall.mono ?_
    rintro e w1 ⟨⟨x, y, rfl⟩, rfl⟩
    go_wp2_with fail
    go_ret3
    rw [hR.out]
    exact ⟨rfl, Below.refl _ _⟩
  | ok p =>
    obtain ⟨m, k⟩ := p
    obtain ⟨h1, h2, _, h4, h5⟩ := enc_of_decCount (by omega) hd
    have hcall := count_ok bs A n c 1 m k w hrd hc (by omega) (by omega) (by omega) hd
    have hR := hid (show decList 1 decInt bs = getLoop decInt bs m [] k by unfold decList; rw [hd])
    clear hd
    go_enter Tryd.func159, Tryd.ntmps159
    go_wp2_with fail
    refine hcall.mono ?_
    rintro e w1 ⟨rfl, rfl⟩
    go_wp2_with fail
    refine (wire_reader _ k w rfl A n c rfl).mono ?_
    rintro e w1 ⟨rfl, hw1⟩
    have hb1 : Below w.heap.size w w1 := by rw [← hw1]; exact ((Below.refl _ _).alloc (Nat.le_refl _) _).alloc (by simp) _
    have hz : w1.heap.size = w.heap.size + 2 := by rw [← hw1]; simp
    have hcB : w1.cell? ⟨w.heap.size, 0, none⟩ = some (.slice A n c) := by rw [← hw1]; rw [World.cell?_alloc_past _ _ _ (by simp), World.cell?_alloc_at _ _ _ _ rfl]; rfl
    have hcP : w1.heap[w.heap.size + 1]? = some (.cells #[.int .i64 (k : Int)] 3 (0, 0)) := by rw [← hw1]; have := World.heap_new (w.alloc (.cells #[.slice A n c] 33)) (.cells #[.int .i64 (k : Int)] 3); simpa using this
    have HZ := hid hz
    have HP := hid hcP
    have HB := hid hcB
    clear hw1 hz hcP hcB
    go_wp2_with fail
    go_loopw [6, 9, 26] (fun q v i wr => ∃ (j pos : Nat) (l : List Int) (D : Option Addr) (d : Nat), j ≤ m ∧ pos ≤ n ∧ i = .int .i64 j ∧ q = .int .i64 pos ∧ v = .slice D l.length d ∧ Hid (l.length = j) ∧
        wr.ownsRow (w.heap.size + 2) 3 1 (.slice D l.length d) l.length (iv l) ∧ Hid (getLoop decInt bs m [] k = getLoop decInt bs (m - j) l pos) ∧
        Hid (wr.heap[w.heap.size + 1]? = some (.cells #[.int .i64 (pos : Int)] 3 (0, 0))) ∧ Hid (wr.cell? ⟨w.heap.size, 0, none⟩ = some (.slice A n c)) ∧ Below w.heap.size w wr ∧ w.heap.size + 2 ≤ wr.heap.size)
      (fun _ _ i _ => m - (intOf i).toNat)
    case atStart => exact ⟨0, k, [], none, 0, by omega, by omega, rfl, rfl, rfl, rfl, World.ownsRow_nil _ _ _ _, rfl, HP, HB, hb1, by have := HZ.out; omega⟩
    case round =>
      clear hb1 HZ HP HB
      obtain ⟨j, pos, l, D, d, hj, hpos, rfl, rfl, rfl, hlj, hown, hG, HP, HB, hb, hsz⟩ := hrel
      by_cases hlt : j < m
      · go_wp2_with fail
        refine (wire_reader1 bs A n c pos w.heap.size (w.heap.size + 1) wr (hrd.below hb) hc (by omega) hpos HB.out HP.out).mono ?_
        rintro e w2 ⟨rfl, hw2⟩
        have hp2 := one_setCell (u := .int .i64 (stepPos pos (decInt (bs.drop pos)) : Int)) HP.out
        have ho2 := hw2.own (ownsRow_setCell_below (a := ⟨w.heap.size + 1, 0, none⟩) hown (by simp) (.int .i64 (stepPos pos (decInt (bs.drop pos)) : Int)))
        have hb2 := below_then (hb.setCell (p := ⟨w.heap.size + 1, 0, none⟩) (by simp) (.int .i64 (stepPos pos (decInt (bs.drop pos)) : Int))) (Drw.below hw2) (by simp [World.setCell]; omega)
        have hB2 : w2.cell? ⟨w.heap.size, 0, none⟩ = some (.slice A n c) := by
          rw [(Drw.below (B := w.heap.size + 1) hw2).cell (by simp), World.cell?_setCell_other _ _ _ _ (show (⟨w.heap.size + 1, 0, none⟩ : Addr) ≠ ⟨w.heap.size, 0, none⟩ by simp)]; exact HB.out
        have hz2 : w.heap.size + 2 ≤ w2.heap.size := by rw [hw2.heap]; simp [World.setCell]; omega
        rw [← hw2.heap] at hp2
        cases hd : decInt (bs.drop pos) with
        | error e0 =>
          have := decInt_err hd
          have g : ((e0 : Int) != 0) = true := by simp; omega
          have hR2 := hid (show getLoop decInt bs (m - j) l pos = .error e0 by
            obtain ⟨q, hq⟩ : ∃ q, m - j = q + 1 := ⟨m - j - 1, by omega⟩
            rw [hq]; simp only [getLoop]; rw [hd])
          clear hd hp2 ho2 hB2 hw2
          simp only [stepV]
          go_wp2_with fail
          go_ret3
          rw [hR.out, hG.out, hR2.out]
          exact ⟨rfl, hb2⟩
        | ok p =>
          obtain ⟨x, u⟩ := p
          have hk := (decInt_ok hd).1
          rw [List.length_drop] at hk
          rw [hd] at hp2
          have hR2 := hid (show getLoop decInt bs (m - j) l pos = getLoop decInt bs (m - (j + 1)) (l ++ [x]) (pos + u) by
            obtain ⟨q, hq⟩ : ∃ q, m - j = q + 1 := ⟨m - j - 1, by omega⟩
            rw [hq, show m - (j + 1) = q by omega]; simp only [getLoop]; rw [hd])
          have HP2 := hid hp2
          have HB2 := hid hB2
          have HL := hlj.out
          clear hd hp2 hB2 hw2
          simp only [stepV]
          go_wp2_with (with_reducible refine stop_append ?_)
          refine at_append_src eltI (w.heap.size + 2) rfl (ho2.alloc _) rfl (Src.ofRd Tryd.underlying22 1 (rd_new (cs := [.int .i64 x]) 1 1 rfl (by omega)) (iv_one [x])) (by omega) (by omega) (by simp; omega) ?_
          intro A' c' w3 hown' hg _
          have hb3 := below_own (hb2.alloc hb2.size _) (by have := hb2.size; simp; omega) (ho2.alloc _) (by omega) hg
          have hq := below_own ((Below.refl (w.heap.size + 2) w2).alloc (by omega) (.cells #[.int .i64 x] 3)) (by simp; omega) (ho2.alloc _) (Nat.le_refl _) hg
          have HP3 := hid ((hq.block (w.heap.size + 1) (by omega)).trans HP2.out)
          have HB3 := hid ((hq.cell (p := ⟨w.heap.size, 0, none⟩) (by simp)).trans HB2.out)
          have hz3 : w.heap.size + 2 ≤ w3.heap.size := by have := hq.size; omega
          clear HL hq hg HP2 HB2
          go_wp2_with fail
          go_roundw
          case rel => exact ⟨j + 1, pos + u, l ++ [x], A', c', by omega, by omega, by go_num, by go_num, by simp, by show _ = _; have := hlj.out; simp; omega, by rw [iv_append, List.length_append]; exact hown', by show _ = _; rw [← hR2.out]; exact hG, HP3, HB3, hb3, hz3⟩
          case measure => simp [intOf]; omega
      · go_wp2_with fail
        go_ret3
        have hjm : m - j = 0 := by omega
        have hG' := hG.out
        rw [hjm] at hG'
        rw [hR.out, hG']
        exact ⟨D, d, rfl, own_mono hown (by omega), hb⟩
end Go.Proofs.YtedegedceeefdaaDoor

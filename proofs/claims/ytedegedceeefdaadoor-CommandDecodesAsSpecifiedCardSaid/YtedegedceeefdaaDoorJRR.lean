/- Parts of the proof: Ra, Rb, Rc, Rd, Re. -/
import Derived.Test.YtedegedceeefdaaDoorJWW
import Derived.Deep.RegionWith
set_option linter.all false
set_option linter.unusedVariables false
set_option linter.unusedSimpArgs false
set_option linter.unnecessarySimpa false
set_option linter.deprecated false
/-! Walks: package custodyref01. -/
namespace Go.Proofs.YtedegedceeefdaaDoor
open Go.RowKit Go.Cw Cu
set_option maxRecDepth 100000
set_option maxHeartbeats 1000000
set_option linter.unusedVariables false
set_option linter.unusedSimpArgs false
theorem be_rev_get (t m i : Nat) (h : i < t) : (be t m).reverse[i]? = some (UInt8.ofNat (m / 256 ^ i)) := by
  induction t with
  | zero => omega
  | succ t ih =>
    rw [be, List.reverse_cons]
    rcases Nat.lt_or_ge i t with h2 | h2
    · rw [List.getElem?_append_left (by simp [be_length]; omega)]; exact ih h2
    · obtain rfl : i = t := by omega
      rw [List.getElem?_append_right (by simp [be_length])]
      simp [be_length]

theorem refInt_pos (m : Nat) (w : World) (h1 : m ≤ 9223372036854775807) :
    Calls Tryd.prog 99 #[.int .i64 ((m : Int))] w (RetOwn w 5 1 (encInt ((m : Int))).length (bv (encInt ((m : Int))))) := by
  have hlt : decide ((m : Int) < 0) = false := by simp
  have hge : decide (0 ≤ (m : Int)) = true := by simp
  go_enter Tryd.func99, Tryd.ntmps99
  go_wp2_with fail

  go_loopw [3, 4] (fun q v wr => ∃ (t x : Nat) (A : Option Addr) (c : Nat), x ≤ 9223372036854775807 ∧ t ≤ 8 ∧ Hid (x = m / 256 ^ t) ∧ (t = 0 ∨ 0 < m / 256 ^ (t - 1)) ∧ q = .int .i64 x ∧ v = .slice A t c ∧
      wr.ownsRow w.heap.size 5 1 (.slice A t c) t (bv (be t m).reverse) ∧ Below w.heap.size w wr) (fun q _ _ => (intOf q).toNat)
  case atStart => exact ⟨0, m, none, 0, h1, by omega, by show _ = _; simp, .inl rfl, rfl, rfl, World.ownsRow_nil _ _ _ _, Below.refl _ _⟩
  case round =>
    obtain ⟨t, x, A, c, hx9, ht, hx, hnz, rfl, rfl, hown, hb⟩ := hrel
    have Hnz := hid hnz
    clear hnz
    by_cases hpos : 0 < x
    · have ht7 : t ≤ 7 := by
        have := hx.out
        rw [this] at hpos
        have h2 := (Nat.div_pos_iff.1 hpos).2
        rcases Nat.lt_or_ge 7 t with h | h
        · have h3 : (256 : Nat) ^ 8 ≤ 256 ^ t := Nat.pow_le_pow_right (by omega) h
          omega
        · exact h
      go_wp2_with (with_reducible refine stop_append ?_)
      have hX : [Value.int IntKind.u8 ((x : Int) % 256)] = bv [UInt8.ofNat (m / 256 ^ t)] := by
        rw [← hx.out]; simp [bv]
      rw [hX]
      refine at_append_src eltB w.heap.size rfl (hown.alloc _) rfl (Src.ofRd Tryd.underlying33 1 (rd_new 1 1 rfl (by omega)) (bv_one _)) (by omega) (by omega) (by have := hb.size; simp; omega) ?_
      intro A' c' w' hown' hg _
      have hb' := below_own (hb.alloc hb.size _) (by have := hb.size; simp; omega) (hown.alloc _) (Nat.le_refl _) hg
      go_wp2_with fail
      go_roundw
      case rel => exact ⟨t + 1, x / 256, A', c', by omega, by omega, by show _ = _; rw [hx.out, Nat.div_div_eq_div_mul, Nat.pow_succ], .inr (by rw [Nat.add_sub_cancel, ← hx.out]; exact hpos), by go_num, rfl, by rw [be, List.reverse_cons, bv_append]; exact hown', hb'⟩
      case measure => simp [intOf]; omega
    · obtain rfl : x = 0 := by omega
      have hnb : nb m = t := by
        have h0 := hx.out
        have hp : 0 < 256 ^ t := Nat.pow_pos (by omega)
        refine nbF_eq 8 m t ?_ ?_ (by omega)
        · rcases Nat.div_eq_zero_iff.1 h0.symm with h | h
          · omega
          · exact h
        · exact Hnz.out.imp id fun h => (Nat.div_pos_iff.1 h).2
      have Hnb := hid hnb
      clear hnb hx
      obtain ⟨wo, rfl⟩ : ∃ wo : World, wo = wr := ⟨_, rfl⟩
      go_wp2_with (with_reducible refine stop_append ?_)
      have hX : [Value.int IntKind.u8 (128 + (t : Int))] = bv [UInt8.ofNat (128 + t)] := by simp [bv]; omega
      rw [hX]
      refine at_append_src eltB wo.heap.size rfl (World.ownsRow_nil _ _ _ _) rfl (Src.ofRd Tryd.underlying33 1 (rd_new 1 1 rfl (by omega)) (bv_one _)) (by omega) (by omega) (by simp) ?_
      intro A2 c2 w2 hown2 hg2 _
      have hb2 := below_own ((Below.refl wo.heap.size wo).alloc (Nat.le_refl _) _) (by simp) (World.ownsRow_nil _ wo.heap.size 5 1) (Nat.le_refl _) hg2
      go_wp2_with fail
      go_loopw [6, 7] (fun v i wr2 => ∃ (j n : Nat) (ds : List UInt8) (A : Option Addr) (c : Nat), j ≤ t ∧ n ≤ 9 ∧ Hid (ds ++ be j m = be t m) ∧ i = .int .i64 ((j : Int) - 1) ∧ v = .slice A n c ∧
          wr2.ownsRow wo.heap.size 5 1 (.slice A n c) n (bv (UInt8.ofNat (128 + t) :: ds)) ∧ Below wo.heap.size wo wr2) (fun _ i _ => (intOf i + 1).toNat)
      case atStart =>
        exact ⟨t, 0 + 1, [], A2, c2, by omega, by omega, rfl, rfl, rfl, hown2, hb2⟩
      case round =>
        obtain ⟨j, n, ds, A3, c3, hj, hn9, hds, rfl, rfl, hown3, hb3⟩ := hrel
        have hlen : Hid (n = ds.length + 1) := by have := hown3.1; simp [bv] at this; exact this.symm
        have hdl : Hid (ds.length + j = t) := by have := congrArg List.length hds.out; simp [be_length] at this; exact this
        by_cases hj1 : 1 ≤ j
        · obtain ⟨p, hp⟩ : ∃ p, j = p + 1 := ⟨j - 1, by omega⟩
          rw [show ((j : Int) - 1) = (p : Int) by omega]
          obtain ⟨g, o, x, rfl, hcell, hxk⟩ := (own_Rd hown).u8_at hb3 (k := p) (by omega)
          rw [be_rev_get _ _ _ (by omega)] at hxk
          obtain rfl := Option.some.inj hxk
          have hlt2 := (UInt8.ofNat (m / 256 ^ p)).toNat_lt
          generalize hby : UInt8.ofNat (m / 256 ^ p) = by_ at *
          have Hby := hid hby
          clear hby
          have hpt : p < t := by omega
          have Hp := hid hp
          clear hp
          go_wp2_with (with_reducible refine stop_append ?_)
          have hX : [Value.int IntKind.u8 ((by_.toNat : Int))] = bv [by_] := by simp [bv]
          rw [hX]
          have e1 := hlen.out
          have e2 := hdl.out
          refine at_append_src eltB wo.heap.size rfl (hown3.alloc _) rfl (Src.ofRd Tryd.underlying33 1 (rd_new 1 1 rfl (by omega)) (bv_one _)) (by omega) (by omega) (le_alloc hb3.size _) ?_
          intro A4 c4 w4 hown4 hg4 _
          have hb4 := below_own (hb3.alloc hb3.size _) (by have := hb3.size; simp; omega) (hown3.alloc _) (Nat.le_refl _) hg4
          have e3 := Hp.out
          have Hn : Hid (n + 1 ≤ 9) := by show _ ≤ _; omega
          have Hd : Hid (ds ++ [by_] ++ be p m = be t m) := by
            show _ = _
            rw [← hds.out, e3, be, ← Hby.out]; simp
          clear e1 e2 e3
          go_wp2_with fail
          go_roundw
          case rel => exact ⟨p, n + 1, ds ++ [by_], A4, c4, by have := Hp.out; omega, Hn.out, Hd, rfl, rfl, by rw [← bv_append] at hown4; exact hown4, hb4⟩
          case measure => simp [intOf]
        · obtain rfl : j = 0 := by omega
          go_wp2_with fail
          go_ret
          have hd := hds.out
          simp only [be, List.append_nil] at hd
          have e := Hnb.out
          rw [hd, ← e, ← encInt_nat] at hown3
          have hn : n = (encInt ((m : Int))).length := by have := hown3.1; rw [bv_length] at this; omega
          subst hn
          exact ⟨A3, c3, rfl, own_mono hown3 hb.size, hb.trans (hb3.mono hb.size)⟩

theorem refInt_neg (m : Nat) (w : World) (h1 : m ≤ 9223372036854775807) :
    Calls Tryd.prog 99 #[.int .i64 (-1 - (m : Int))] w (RetOwn w 5 1 (encInt (-1 - (m : Int))).length (bv (encInt (-1 - (m : Int))))) := by
  have hlt : decide (-1 - (m : Int) < 0) = true := by simp; omega
  have hge : decide (0 ≤ -1 - (m : Int)) = false := by simp; omega
  go_enter Tryd.func99, Tryd.ntmps99
  go_wp2_with fail
  rw [show -1 - (-1 - (m : Int)) = (m : Int) by omega]
  go_loopw [3, 4] (fun q v wr => ∃ (t x : Nat) (A : Option Addr) (c : Nat), x ≤ 9223372036854775807 ∧ t ≤ 8 ∧ Hid (x = m / 256 ^ t) ∧ (t = 0 ∨ 0 < m / 256 ^ (t - 1)) ∧ q = .int .i64 x ∧ v = .slice A t c ∧
      wr.ownsRow w.heap.size 5 1 (.slice A t c) t (bv (be t m).reverse) ∧ Below w.heap.size w wr) (fun q _ _ => (intOf q).toNat)
  case atStart => exact ⟨0, m, none, 0, h1, by omega, by show _ = _; simp, .inl rfl, rfl, rfl, World.ownsRow_nil _ _ _ _, Below.refl _ _⟩
  case round =>
    obtain ⟨t, x, A, c, hx9, ht, hx, hnz, rfl, rfl, hown, hb⟩ := hrel
    have Hnz := hid hnz
    clear hnz
    by_cases hpos : 0 < x
    · have ht7 : t ≤ 7 := by
        have := hx.out
        rw [this] at hpos
        have h2 := (Nat.div_pos_iff.1 hpos).2
        rcases Nat.lt_or_ge 7 t with h | h
        · have h3 : (256 : Nat) ^ 8 ≤ 256 ^ t := Nat.pow_le_pow_right (by omega) h
          omega
        · exact h
      go_wp2_with (with_reducible refine stop_append ?_)
      have hX : [Value.int IntKind.u8 ((x : Int) % 256)] = bv [UInt8.ofNat (m / 256 ^ t)] := by
        rw [← hx.out]; simp [bv]
      rw [hX]
      refine at_append_src eltB w.heap.size rfl (hown.alloc _) rfl (Src.ofRd Tryd.underlying33 1 (rd_new 1 1 rfl (by omega)) (bv_one _)) (by omega) (by omega) (by have := hb.size; simp; omega) ?_
      intro A' c' w' hown' hg _
      have hb' := below_own (hb.alloc hb.size _) (by have := hb.size; simp; omega) (hown.alloc _) (Nat.le_refl _) hg
      go_wp2_with fail
      go_roundw
      case rel => exact ⟨t + 1, x / 256, A', c', by omega, by omega, by show _ = _; rw [hx.out, Nat.div_div_eq_div_mul, Nat.pow_succ], .inr (by rw [Nat.add_sub_cancel, ← hx.out]; exact hpos), by go_num, rfl, by rw [be, List.reverse_cons, bv_append]; exact hown', hb'⟩
      case measure => simp [intOf]; omega
    · obtain rfl : x = 0 := by omega
      have hnb : nb m = t := by
        have h0 := hx.out
        have hp : 0 < 256 ^ t := Nat.pow_pos (by omega)
        refine nbF_eq 8 m t ?_ ?_ (by omega)
        · rcases Nat.div_eq_zero_iff.1 h0.symm with h | h
          · omega
          · exact h
        · exact Hnz.out.imp id fun h => (Nat.div_pos_iff.1 h).2
      have Hnb := hid hnb
      clear hnb hx
      obtain ⟨wo, rfl⟩ : ∃ wo : World, wo = wr := ⟨_, rfl⟩
      go_wp2_with (with_reducible refine stop_append ?_)
      have hX : [Value.int IntKind.u8 (127 - (t : Int))] = bv [UInt8.ofNat (127 - t)] := by simp [bv]; omega
      rw [hX]
      refine at_append_src eltB wo.heap.size rfl (World.ownsRow_nil _ _ _ _) rfl (Src.ofRd Tryd.underlying33 1 (rd_new 1 1 rfl (by omega)) (bv_one _)) (by omega) (by omega) (by simp) ?_
      intro A2 c2 w2 hown2 hg2 _
      have hb2 := below_own ((Below.refl wo.heap.size wo).alloc (Nat.le_refl _) _) (by simp) (World.ownsRow_nil _ wo.heap.size 5 1) (Nat.le_refl _) hg2
      go_wp2_with fail
      go_loopw [6, 7] (fun v i wr2 => ∃ (j n : Nat) (ds : List UInt8) (A : Option Addr) (c : Nat), j ≤ t ∧ n ≤ 9 ∧ Hid (ds ++ be j m = be t m) ∧ i = .int .i64 ((j : Int) - 1) ∧ v = .slice A n c ∧
          wr2.ownsRow wo.heap.size 5 1 (.slice A n c) n (bv (UInt8.ofNat (127 - t) :: (ds).map cpl)) ∧ Below wo.heap.size wo wr2) (fun _ i _ => (intOf i + 1).toNat)
      case atStart =>
        exact ⟨t, 0 + 1, [], A2, c2, by omega, by omega, rfl, rfl, rfl, hown2, hb2⟩
      case round =>
        obtain ⟨j, n, ds, A3, c3, hj, hn9, hds, rfl, rfl, hown3, hb3⟩ := hrel
        have hlen : Hid (n = ds.length + 1) := by have := hown3.1; simp [bv] at this; exact this.symm
        have hdl : Hid (ds.length + j = t) := by have := congrArg List.length hds.out; simp [be_length] at this; exact this
        by_cases hj1 : 1 ≤ j
        · obtain ⟨p, hp⟩ : ∃ p, j = p + 1 := ⟨j - 1, by omega⟩
          rw [show ((j : Int) - 1) = (p : Int) by omega]
          obtain ⟨g, o, x, rfl, hcell, hxk⟩ := (own_Rd hown).u8_at hb3 (k := p) (by omega)
          rw [be_rev_get _ _ _ (by omega)] at hxk
          obtain rfl := Option.some.inj hxk
          have hlt2 := (UInt8.ofNat (m / 256 ^ p)).toNat_lt
          generalize hby : UInt8.ofNat (m / 256 ^ p) = by_ at *
          have Hby := hid hby
          clear hby
          have hpt : p < t := by omega
          have Hp := hid hp
          clear hp
          go_wp2_with (with_reducible refine stop_append ?_)
          have hX : [Value.int IntKind.u8 (255 - (by_.toNat : Int))] = bv [cpl by_] := by simp [bv]; rw [cpl_int]
          rw [hX]
          have e1 := hlen.out
          have e2 := hdl.out
          refine at_append_src eltB wo.heap.size rfl (hown3.alloc _) rfl (Src.ofRd Tryd.underlying33 1 (rd_new 1 1 rfl (by omega)) (bv_one _)) (by omega) (by omega) (le_alloc hb3.size _) ?_
          intro A4 c4 w4 hown4 hg4 _
          have hb4 := below_own (hb3.alloc hb3.size _) (by have := hb3.size; simp; omega) (hown3.alloc _) (Nat.le_refl _) hg4
          have e3 := Hp.out
          have Hn : Hid (n + 1 ≤ 9) := by show _ ≤ _; omega
          have Hd : Hid (ds ++ [by_] ++ be p m = be t m) := by
            show _ = _
            rw [← hds.out, e3, be, ← Hby.out]; simp
          clear e1 e2 e3
          go_wp2_with fail
          go_roundw
          case rel => exact ⟨p, n + 1, ds ++ [by_], A4, c4, by have := Hp.out; omega, Hn.out, Hd, rfl, rfl, by rw [← bv_append] at hown4; simpa using hown4, hb4⟩
          case measure => simp [intOf]
        · obtain rfl : j = 0 := by omega
          go_wp2_with fail
          go_ret
          have hd := hds.out
          simp only [be, List.append_nil] at hd
          have e := Hnb.out
          rw [hd, ← e, ← encInt_neg] at hown3
          have hn : n = (encInt (-1 - (m : Int))).length := by have := hown3.1; rw [bv_length] at this; omega
          subst hn
          exact ⟨A3, c3, rfl, own_mono hown3 hb.size, hb.trans (hb3.mono hb.size)⟩
theorem ref01_Int (n : Int) (hn : inI64 n) (w : World) : Calls Tryd.prog 99 #[.int .i64 n] w (RetOwn w 5 1 (encInt n).length (bv (encInt n))) := by
  obtain ⟨h0, h1⟩ := hn
  by_cases h : 0 ≤ n
  · obtain ⟨m, rfl⟩ := Int.eq_ofNat_of_zero_le h
    exact refInt_pos m w (by omega)
  · obtain ⟨m, hm⟩ := Int.eq_ofNat_of_zero_le (show 0 ≤ -1 - n by omega)
    obtain rfl : n = -1 - (m : Int) := by omega
    exact refInt_neg m w (by omega)
end Go.Proofs.YtedegedceeefdaaDoor
/-! Walks: package custodyref01, the rest. -/
namespace Go.Proofs.YtedegedceeefdaaDoor
open Go.RowKit Go.Cw Cu
set_option maxRecDepth 100000
set_option maxHeartbeats 1000000
set_option linter.unusedVariables false
set_option linter.unusedSimpArgs false

theorem ref01_Bytes (s : ByteArray) (hs : s.size ≤ 140737488351232) (w : World) : Calls Tryd.prog 100 #[.string s] w (RetOwn w 5 1 (encBytes (sb s)).length (bv (encBytes (sb s)))) := by
  go_enter Tryd.func100, Tryd.ntmps100
  go_wp2_with fail
  refine (ref01_Int (s.size : Int) ⟨by omega, by omega⟩ w).mono ?_
  rintro e w1 ⟨A, c, rfl, hown, hb⟩
  have hle := encInt_length_le (s.size : Int)
  go_wp2_with (first | (with_reducible refine stop_append ?_) | (with_reducible refine stop_convert ?_))
  refine at_bytes Tryd.underlying9 Tryd.underlying33 Tryd.underlying5 rfl (by omega) ?_
  intro B cb w2 hrd hcb hb2
  have hown2 := own_below hown hb2
  have hb3 := below_then hb hb2 hb.size
  go_wp2_with (first | (with_reducible refine stop_append ?_) | (with_reducible refine stop_convert ?_))
  refine at_append_src eltB w.heap.size rfl hown2 rfl (Src.ofRd Tryd.underlying33 cb hrd (bv_one _)) (by omega) (by omega) hb3.size ?_
  intro A' c' w3 hown' hg _
  have hb' := below_own hb3 hb3.size hown2 (Nat.le_refl _) hg
  clear hle
  go_wp2
  go_ret
  rw [← bv_append] at hown'
  have e1 : encInt (s.size : Int) ++ sb s = encBytes (sb s) := by unfold encBytes; rw [sb_length]
  have e2 : (encInt (s.size : Int)).length + s.size = (encBytes (sb s)).length := by rw [← e1, List.length_append, sb_length]
  rw [e1, e2] at hown'
  rw [e2]
  exact ⟨A', c', rfl, hown', hb'⟩

/-! ### Same -/
theorem ref01_Same (xs ys : List UInt8) (A B : Option Addr) (n m c d : Nat) (hm : n ≤ 140737488351232) (hm2 : m ≤ 140737488351232) (w : World) (h1 : Rd w A n 1 (bv xs)) (h2 : Rd w B m 1 (bv ys)) :
    Calls Tryd.prog 29 #[.slice A n c, .slice B m d] w fun e w' => e = .returned (.bool (decide (xs = ys))) ∧ Below w.heap.size w w' := by
  have l1 := h1.len
  have l2 := h2.len
  rw [bv_length] at l1 l2
  by_cases hnm : n = m
  · subst hnm
    have g1 : ((n : Int) != n) = false := by simp
    go_enter Tryd.func29, Tryd.ntmps29
    go_wp2_with fail
    go_loopw [5] (fun i wr => ∃ j : Nat, j ≤ n ∧ i = .int .i64 j ∧ Hid (xs.take j = ys.take j) ∧ Below w.heap.size w wr) (fun i _ => n - (intOf i).toNat)
    case atStart => exact ⟨0, by omega, rfl, rfl, Below.refl _ _⟩
    case round =>
      obtain ⟨j, hj, rfl, hE, hb⟩ := hrel
      by_cases hlt : j < n
      · obtain ⟨ga, oa, x, rfl, hcx, hx⟩ := h1.u8_at hb hlt
        obtain ⟨gb, ob, y, rfl, hcy, hy⟩ := h2.u8_at hb hlt
        have Hx := hid hx
        have Hy := hid hy
        clear hx hy
        by_cases hxy : x = y
        · subst hxy
          have g : ((x.toNat : Int) != x.toNat) = false := by simp
          have hlt' : (j : Int) < n := by omega
          go_wp2_with fail
          go_quiet (fail)
          go_wp2_with fail
          go_roundw
          case rel => exact ⟨j + 1, by omega, by go_num, by show _ = _; rw [List.take_add_one, List.take_add_one, Hx.out, Hy.out, hE.out], below_then hb (Drw.below ⟨_, rfl⟩) hb.size⟩
          case measure => simp [intOf]; omega
        · have g : ((x.toNat : Int) != y.toNat) = true := by simp; intro e; exact hxy (UInt8.toNat_inj.1 (by omega))
          have hlt' : (j : Int) < n := by omega
          have g3 := hid (show decide (xs = ys) = false by
            simp
            intro e
            have h1 := Hx.out
            have h2 := Hy.out
            rw [e, h2] at h1
            exact hxy (Option.some.inj h1).symm)
          go_wp2_with fail
          go_quiet (fail)
          go_wp2_with fail
          go_ret
          exact ⟨by rw [g3.out]; rfl, below_then hb (Drw.below ⟨_, rfl⟩) hb.size⟩
      · have g3 := hid (show decide (xs = ys) = true by
          have e := hE.out
          rw [List.take_of_length_le (by omega), List.take_of_length_le (by omega)] at e
          simp [e])
        go_wp2_with fail
        go_ret
        exact ⟨by rw [g3.out]; rfl, hb⟩
  · have g1 : ((n : Int) != m) = true := by simp; omega
    have g2 : decide (n = m) = false := by simp; omega
    have g3 := hid (show decide (xs = ys) = false by simp; intro e; subst e; omega)
    go_enter Tryd.func29, Tryd.ntmps29
    go_wp2_with fail
    go_ret
    exact ⟨by rw [g3.out]; rfl, Below.refl _ _⟩
end Go.Proofs.YtedegedceeefdaaDoor
/-! Walks: package custodyref01, decoding. -/
namespace Go.Proofs.YtedegedceeefdaaDoor
open Go.RowKit Go.Cw Cu
set_option maxRecDepth 100000
set_option maxHeartbeats 1000000
set_option linter.unusedVariables false
set_option linter.unusedSimpArgs false
/-- Val of the number that a decoded sequence stands for. -/
def numOf (h : UInt8) (v : Nat) : Int := if h.toNat < 128 then -1 - (v : Int) else (v : Int)
theorem below_drew {w w1 : World} (h : Below w.heap.size w.drew w1) : Below w.heap.size w w1 := ⟨h.os, h.tape, h.output, h.size, h.block⟩
theorem val_big {ds : List UInt8} {j : Nat} (hj : j < ds.length) (h : 36028797018963968 ≤ val (ds.take j)) : val ds ≥ 2 ^ 63 := by
  have e : val ds = val (ds.take j ++ ds.drop j) := by rw [List.take_append_drop]
  rw [e, val_append]
  have h2 : (256 : Nat) ^ 1 ≤ 256 ^ (ds.drop j).length := Nat.pow_le_pow_right (by omega) (by rw [List.length_drop]; omega)
  have h3 : 36028797018963968 * 256 ≤ val (ds.take j) * 256 ^ (ds.drop j).length := Nat.mul_le_mul h (by simpa using h2)
  omega
theorem refInt_dec (h : UInt8) (t : List UInt8) (hK : headK h ≤ 8) (hl : headK h ≤ t.length) (hv : val (digs h (t.take (headK h))) < 2 ^ 63) :
    decInt (h :: t) = if encInt (numOf h (val (digs h (t.take (headK h))))) = (h :: t).take (headK h + 1) then .ok (numOf h (val (digs h (t.take (headK h)))), headK h + 1) else .error 6 := by
  generalize hn : numOf h (val (digs h (t.take (headK h)))) = n
  have hin : inI64 n := by rw [← hn]; unfold numOf inI64; split <;> omega
  split
  · rename_i he
    have e : h :: t = encInt n ++ (h :: t).drop (headK h + 1) := by rw [he]; exact (List.take_append_drop _ _).symm
    have hlen : (encInt n).length = headK h + 1 := by rw [he, List.length_take, List.length_cons]; omega
    rw [← hlen, e]
    exact dec_enc n hin _
  · rename_i he
    cases hd : decInt (h :: t) with
    | ok p =>
      obtain ⟨n', k'⟩ := p
      have h2 := (enc_of_dec hd).2.2.1
      simp only [decInt] at hd
      rw [if_neg (by omega), if_neg (by omega)] at hd
      split at hd
      · cases hd
      rw [if_neg (by omega)] at hd
      simp only [Except.ok.injEq, Prod.mk.injEq] at hd
      obtain ⟨e1, e2⟩ := hd
      have : n' = n := by rw [← hn, ← e1]; rfl
      subst this
      rw [← e2] at h2
      exact absurd h2.symm he
    | error e =>
      simp only [decInt] at hd
      rw [if_neg (by omega), if_neg (by omega)] at hd
      split at hd
      · injection hd with hd; rw [hd]
      rw [if_neg (by omega)] at hd
      cases hd

theorem refGet_loop_pos (g o K n c : Nat) (w : World) (bs ds : List UInt8) (hds : ds.length = K) (hn : K < n) (hc : n ≤ c) (hm : n ≤ 140737488351232) (hK : K ≤ 8) (hrd : Rd w (some ⟨g, o, none⟩) n 1 (bv bs))
    (h0 : w.cell? ⟨g, o, none⟩ = some (.int .u8 (128 + (K : Int)))) (ht : ∀ j x, ds[j]? = some x → w.cell? ⟨g, o + 1 + j, none⟩ = some (.int .u8 ((x.toNat : Int))))
    (R : Value) (hbig : val ds ≥ 2 ^ 63 → R = .tuple #[.int .i64 0, .int .i64 0, .int .i64 6])
    (hsm : val ds < 2 ^ 63 → R = if encInt ((val ds : Int)) = bs.take (K + 1) then .tuple #[.int .i64 ((val ds : Int)), .int .i64 ((K + 1 : Nat) : Int), .int .i64 0] else .tuple #[.int .i64 0, .int .i64 0, .int .i64 6]) :
    Calls Tryd.prog 109 #[.slice (some ⟨g, o, none⟩) n c] w fun e w' => e = .returned R ∧ Below w.heap.size w w' := by
  have g1 : ((n : Int) == 0) = false := by simp; omega
  have g2 : decide (128 + (K : Int) < 119) = false := by simp; omega
  have g3 : decide (136 < 128 + (K : Int)) = false := by simp; omega
  have g4 : decide (128 + (K : Int) < 128) = false := by simp; omega
  have g5 : decide ((n : Int) < (K : Int) + 1) = false := by simp; omega
  have hx2 : ∀ j, j < K → ∃ x : UInt8, w.cell? ⟨g, o + 1 + j, none⟩ = some (.int .u8 ((x.toNat : Int))) ∧ ds[j]? = some x := by
    intro j hj
    have e := List.getElem?_eq_getElem (show j < ds.length by omega)
    exact ⟨_, ht j _ e, e⟩
  have Hds := hid hds
  have Hb := hid hbig
  have Hs := hid hsm
  clear ht hds hbig hsm
  go_enter Tryd.func109, Tryd.ntmps109
  go_wp2_with fail
  go_loopw [7, 8] (fun m i wr => ∃ (j v : Nat), j ≤ K ∧ v < 9223372036854775808 ∧ Hid (v = val (ds.take j)) ∧ i = .int .i64 ((j : Int) + 1) ∧ m = .int .i64 v ∧ Below w.heap.size w wr) (fun _ i _ => K + 1 - (intOf i).toNat)
  case atStart => exact ⟨0, 0, by omega, by omega, rfl, rfl, rfl, Below.refl _ _⟩
  case round =>
    obtain ⟨j, v, hj, hv9, hv, rfl, rfl, hb⟩ := hrel
    by_cases hlt : j < K
    · obtain ⟨x, e1, e2⟩ := hx2 j hlt
      have hc1 : wr.cell? ⟨g, o + (j + 1), none⟩ = some (.int .u8 ((x.toNat : Int))) := by
        rw [← e1, ← hb.cell (World.block_lt_of_cell? w _ e1)]; congr 2; omega
      have hx256 := x.toNat_lt
      clear e1 hx2
      have He2 := hid e2
      clear e2
      by_cases hbg : 36028797018963967 < v
      · have hR := hid (Hb.out (val_big (j := j) (by have := Hds.out; omega) (by rw [← hv.out]; omega)))
        clear Hs Hb
        go_wp2_with fail
        go_ret3
        exact ⟨by rw [hR.out]; rfl, hb⟩
      · have HV := hid (show 256 * v + x.toNat = val (ds.take (j + 1)) by rw [val_take_succ He2.out, ← hv.out]; omega)
        go_wp2_with fail
        go_roundw
        case rel => exact ⟨j + 1, 256 * v + x.toNat, by omega, by omega, HV.out, by go_num, by go_num, hb⟩
        case measure => simp [intOf]; omega
    · have hjk : j = K := by omega
      subst hjk
      have hvd : v = val ds := by rw [hv.out, List.take_of_length_le (by have := Hds.out; omega)]
      have hR := hid (Hs.out (by rw [← hvd]; omega))
      clear hv Hs Hb hx2
      have HVD := hid hvd
      clear hvd
      go_wp2_with fail
      have hle := encInt_length_le ((v : Int))
      have hcz : ¬ c = 0 := by omega
      have e1 : IntKind.i64.wrap (128 + (j : Int) - 128 + 1) = (j : Int) + 1 := by rw [IntWalk.i64_in _ (by omega)]; omega
      have e2 : (0 : Int) ≤ (j : Int) + 1 := by omega
      have e3 : (j : Int) + 1 ≤ (c : Int) := by omega
      have e4 : ((j : Int) + 1).toNat = j + 1 := by omega
      have hrdt := hrd.take (u := j + 1) (by omega)
      rw [bv_take, Nat.mul_one] at hrdt
      have HB := hid hb
      have HRD := hid hrdt
      clear hrdt hb hrd
      go_region_with (first | (go_at_call 99; refine (ref01_Int ((v : Int)) ⟨by omega, by omega⟩ _).mono ?_; rintro e w2 ⟨A2, c2, rfl, hown2, hb2⟩) | (go_at_call 29; have hb3 := below_then HB.out (below_drew hb2) HB.out.size; refine (ref01_Same (encInt ((v : Int))) (bs.take (j + 1)) A2 _ _ _ _ _ (by omega) (by omega) w2 (own_Rd hown2) (HRD.out.below hb3)).mono ?_; rintro e w3 ⟨rfl, hb4⟩; have hb5 := hid (below_then hb3 hb4 hb3.size)))
      all_goals
        by_cases hE : encInt ((v : Int)) = bs.take (j + 1)
        · have hd : decide (encInt ((v : Int)) = bs.take (j + 1)) = true := by simpa using hE
          rw [hd]
          have HE := hid hE
          clear hE hd
          go_wp2_with fail
          go_ret3
          exact ⟨by rw [hR.out, ← HVD.out, if_pos HE.out]; exact tup3 rfl (by omega) rfl, hb5.out⟩
        · have hd : decide (encInt ((v : Int)) = bs.take (j + 1)) = false := by simpa using hE
          rw [hd]
          have HE := hid hE
          clear hE hd
          go_wp2_with fail
          go_ret3
          exact ⟨by rw [hR.out, ← HVD.out, if_neg HE.out]; rfl, hb5.out⟩

theorem refGet_loop_neg (g o K n c : Nat) (w : World) (bs ds : List UInt8) (hds : ds.length = K) (hn : K < n) (hc : n ≤ c) (hm : n ≤ 140737488351232) (hK : K ≤ 8) (hrd : Rd w (some ⟨g, o, none⟩) n 1 (bv bs))
    (h0 : w.cell? ⟨g, o, none⟩ = some (.int .u8 (127 - (K : Int)))) (ht : ∀ j x, ds[j]? = some x → w.cell? ⟨g, o + 1 + j, none⟩ = some (.int .u8 (255 - (x.toNat : Int))))
    (R : Value) (hbig : val ds ≥ 2 ^ 63 → R = .tuple #[.int .i64 0, .int .i64 0, .int .i64 6])
    (hsm : val ds < 2 ^ 63 → R = if encInt (-1 - (val ds : Int)) = bs.take (K + 1) then .tuple #[.int .i64 (-1 - (val ds : Int)), .int .i64 ((K + 1 : Nat) : Int), .int .i64 0] else .tuple #[.int .i64 0, .int .i64 0, .int .i64 6]) :
    Calls Tryd.prog 109 #[.slice (some ⟨g, o, none⟩) n c] w fun e w' => e = .returned R ∧ Below w.heap.size w w' := by
  have g1 : ((n : Int) == 0) = false := by simp; omega
  have g2 : decide (127 - (K : Int) < 119) = false := by simp; omega
  have g3 : decide (136 < 127 - (K : Int)) = false := by simp; omega
  have g4 : decide (127 - (K : Int) < 128) = true := by simp; omega
  have g5 : decide ((n : Int) < (K : Int) + 1) = false := by simp; omega
  have hx2 : ∀ j, j < K → ∃ x : UInt8, w.cell? ⟨g, o + 1 + j, none⟩ = some (.int .u8 (255 - (x.toNat : Int))) ∧ ds[j]? = some x := by
    intro j hj
    have e := List.getElem?_eq_getElem (show j < ds.length by omega)
    exact ⟨_, ht j _ e, e⟩
  have Hds := hid hds
  have Hb := hid hbig
  have Hs := hid hsm
  clear ht hds hbig hsm
  go_enter Tryd.func109, Tryd.ntmps109
  go_wp2_with fail
  go_loopw [7, 8] (fun m i wr => ∃ (j v : Nat), j ≤ K ∧ v < 9223372036854775808 ∧ Hid (v = val (ds.take j)) ∧ i = .int .i64 ((j : Int) + 1) ∧ m = .int .i64 v ∧ Below w.heap.size w wr) (fun _ i _ => K + 1 - (intOf i).toNat)
  case atStart => exact ⟨0, 0, by omega, by omega, rfl, rfl, rfl, Below.refl _ _⟩
  case round =>
    obtain ⟨j, v, hj, hv9, hv, rfl, rfl, hb⟩ := hrel
    by_cases hlt : j < K
    · obtain ⟨x, e1, e2⟩ := hx2 j hlt
      have hc1 : wr.cell? ⟨g, o + (j + 1), none⟩ = some (.int .u8 (255 - (x.toNat : Int))) := by
        rw [← e1, ← hb.cell (World.block_lt_of_cell? w _ e1)]; congr 2; omega
      have hx256 := x.toNat_lt
      clear e1 hx2
      have He2 := hid e2
      clear e2
      by_cases hbg : 36028797018963967 < v
      · have hR := hid (Hb.out (val_big (j := j) (by have := Hds.out; omega) (by rw [← hv.out]; omega)))
        clear Hs Hb
        go_wp2_with fail
        go_ret3
        exact ⟨by rw [hR.out]; rfl, hb⟩
      · have HV := hid (show 256 * v + x.toNat = val (ds.take (j + 1)) by rw [val_take_succ He2.out, ← hv.out]; omega)
        go_wp2_with fail
        go_roundw
        case rel => exact ⟨j + 1, 256 * v + x.toNat, by omega, by omega, HV.out, by go_num, by go_num, hb⟩
        case measure => simp [intOf]; omega
    · have hjk : j = K := by omega
      subst hjk
      have hvd : v = val ds := by rw [hv.out, List.take_of_length_le (by have := Hds.out; omega)]
      have hR := hid (Hs.out (by rw [← hvd]; omega))
      clear hv Hs Hb hx2
      have HVD := hid hvd
      clear hvd
      go_wp2_with fail
      have hle := encInt_length_le (-1 - (v : Int))
      have hcz : ¬ c = 0 := by omega
      have e1 : IntKind.i64.wrap (127 - (127 - (j : Int)) + 1) = (j : Int) + 1 := by rw [IntWalk.i64_in _ (by omega)]; omega
      have e2 : (0 : Int) ≤ (j : Int) + 1 := by omega
      have e3 : (j : Int) + 1 ≤ (c : Int) := by omega
      have e4 : ((j : Int) + 1).toNat = j + 1 := by omega
      have hrdt := hrd.take (u := j + 1) (by omega)
      rw [bv_take, Nat.mul_one] at hrdt
      have HB := hid hb
      have HRD := hid hrdt
      clear hrdt hb hrd
      go_region_with (first | (go_at_call 99; refine (ref01_Int (-1 - (v : Int)) ⟨by omega, by omega⟩ _).mono ?_; rintro e w2 ⟨A2, c2, rfl, hown2, hb2⟩) | (go_at_call 29; have hb3 := below_then HB.out (below_drew hb2) HB.out.size; refine (ref01_Same (encInt (-1 - (v : Int))) (bs.take (j + 1)) A2 _ _ _ _ _ (by omega) (by omega) w2 (own_Rd hown2) (HRD.out.below hb3)).mono ?_; rintro e w3 ⟨rfl, hb4⟩; have hb5 := hid (below_then hb3 hb4 hb3.size)))
      all_goals
        by_cases hE : encInt (-1 - (v : Int)) = bs.take (j + 1)
        · have hd : decide (encInt (-1 - (v : Int)) = bs.take (j + 1)) = true := by simpa using hE
          rw [hd]
          have HE := hid hE
          clear hE hd
          go_wp2_with fail
          go_ret3
          exact ⟨by rw [hR.out, ← HVD.out, if_pos HE.out]; exact tup3 rfl (by omega) rfl, hb5.out⟩
        · have hd : decide (encInt (-1 - (v : Int)) = bs.take (j + 1)) = false := by simpa using hE
          rw [hd]
          have HE := hid hE
          clear hE hd
          go_wp2_with fail
          go_ret3
          exact ⟨by rw [hR.out, ← HVD.out, if_neg HE.out]; rfl, hb5.out⟩

theorem refGet_big_pos (g o K n c : Nat) (w : World) (hn : 1 ≤ n) (hK : 8 < K) (hK2 : K < 128) (h0 : w.cell? ⟨g, o, none⟩ = some (.int .u8 (128 + (K : Int)))) :
    Calls Tryd.prog 109 #[.slice (some ⟨g, o, none⟩) n c] w fun e w' => e = .returned (.tuple #[.int .i64 0, .int .i64 0, .int .i64 6]) ∧ Below w.heap.size w w' := by
  have g1 : ((n : Int) == 0) = false := by simp; omega
  have g2 : decide (128 + (K : Int) < 119) = false := by simp; omega
  have g3 : decide (136 < 128 + (K : Int)) = true := by simp; omega
  go_enter Tryd.func109, Tryd.ntmps109
  go_wp2_with fail
  go_ret3
  exact ⟨rfl, Below.refl _ _⟩
theorem refGet_short_pos (g o K n c : Nat) (w : World) (hn : 1 ≤ n) (hK : K ≤ 8) (hK2 : n ≤ K) (h0 : w.cell? ⟨g, o, none⟩ = some (.int .u8 (128 + (K : Int)))) :
    Calls Tryd.prog 109 #[.slice (some ⟨g, o, none⟩) n c] w fun e w' => e = .returned (.tuple #[.int .i64 0, .int .i64 0, .int .i64 5]) ∧ Below w.heap.size w w' := by
  have g1 : ((n : Int) == 0) = false := by simp; omega
  have g2 : decide (128 + (K : Int) < 119) = false := by simp; omega
  have g3 : decide (136 < 128 + (K : Int)) = false := by simp; omega
  have g4 : decide (128 + (K : Int) < 128) = false := by simp; omega
  go_enter Tryd.func109, Tryd.ntmps109
  go_wp2_with fail
  go_ret3
  exact ⟨rfl, Below.refl _ _⟩

theorem refGet_big_neg (g o K n c : Nat) (w : World) (hn : 1 ≤ n) (hK : 8 < K) (hK2 : K < 128) (h0 : w.cell? ⟨g, o, none⟩ = some (.int .u8 (127 - (K : Int)))) :
    Calls Tryd.prog 109 #[.slice (some ⟨g, o, none⟩) n c] w fun e w' => e = .returned (.tuple #[.int .i64 0, .int .i64 0, .int .i64 6]) ∧ Below w.heap.size w w' := by
  have g1 : ((n : Int) == 0) = false := by simp; omega
  have g2 : decide (127 - (K : Int) < 119) = true := by simp; omega
  have g3 : decide (136 < 127 - (K : Int)) = false := by simp; omega
  go_enter Tryd.func109, Tryd.ntmps109
  go_wp2_with fail
  go_ret3
  exact ⟨rfl, Below.refl _ _⟩
theorem refGet_short_neg (g o K n c : Nat) (w : World) (hn : 1 ≤ n) (hK : K ≤ 8) (hK2 : n ≤ K) (h0 : w.cell? ⟨g, o, none⟩ = some (.int .u8 (127 - (K : Int)))) :
    Calls Tryd.prog 109 #[.slice (some ⟨g, o, none⟩) n c] w fun e w' => e = .returned (.tuple #[.int .i64 0, .int .i64 0, .int .i64 5]) ∧ Below w.heap.size w w' := by
  have g1 : ((n : Int) == 0) = false := by simp; omega
  have g2 : decide (127 - (K : Int) < 119) = false := by simp; omega
  have g3 : decide (136 < 127 - (K : Int)) = false := by simp; omega
  have g4 : decide (127 - (K : Int) < 128) = true := by simp; omega
  go_enter Tryd.func109, Tryd.ntmps109
  go_wp2_with fail
  go_ret3
  exact ⟨rfl, Below.refl _ _⟩

theorem refGet_empty (A : Option Addr) (c : Nat) (w : World) : Calls Tryd.prog 109 #[.slice A 0 c] w fun e w' => e = .returned (intR (decInt [])) ∧ Below w.heap.size w w' := by
  go_enter Tryd.func109, Tryd.ntmps109
  go_wp2
  go_ret3
  exact ⟨rfl, Below.refl _ _⟩
theorem ref01_GetInt (bs : List UInt8) (A : Option Addr) (n c : Nat) (w : World) (hrd : Rd w A n 1 (bv bs)) (hc : n ≤ c) (hm : n ≤ 140737488351232) :
    Calls Tryd.prog 109 #[.slice A n c] w fun e w' => e = .returned (intR (decInt bs)) ∧ Below w.heap.size w w' := by
  have hl := hrd.len
  rw [bv_length] at hl
  cases bs with
  | nil =>
    obtain rfl : n = 0 := by simp at hl; omega
    exact refGet_empty A c w
  | cons h t =>
    simp only [List.length_cons, Nat.mul_one] at hl
    obtain ⟨g, o, rfl, hcell⟩ := hrd.cells (by omega)
    have hb := Rd.byte (A := none) (n := 0) hcell
    have h0 := hb 0 h rfl
    rw [Nat.add_zero] at h0
    have ht : ∀ j x, t[j]? = some x → w.cell? ⟨g, o + 1 + j, none⟩ = some (.int .u8 (x.toNat : Int)) := fun j x hx => by
      rw [Nat.add_assoc]; exact hb (1 + j) x (by rw [Nat.add_comm]; simpa using hx)
    have hh := h.toNat_lt
    have htk : ∀ j x, (t.take (headK h))[j]? = some x → t[j]? = some x := fun j x hx => by
      rw [List.getElem?_take] at hx
      split at hx
      · exact hx
      · cases hx
    by_cases h1 : headK h > 8
    · have e : decInt (h :: t) = .error 6 := by simp only [decInt]; rw [if_pos h1]
      rw [e]
      by_cases hneg : h.toNat < 128
      · have hK : headK h = 127 - h.toNat := by unfold headK; rw [if_pos hneg]
        exact refGet_big_neg g o (headK h) n c w (by omega) h1 (by omega) (by rw [h0]; congr 2; omega)
      · have hK : headK h = h.toNat - 128 := by unfold headK; rw [if_neg hneg]
        exact refGet_big_pos g o (headK h) n c w (by omega) h1 (by omega) (by rw [h0]; congr 2; omega)
    by_cases h2 : t.length < headK h
    · have e : decInt (h :: t) = .error 5 := by simp only [decInt]; rw [if_neg h1, if_pos h2]
      rw [e]
      by_cases hneg : h.toNat < 128
      · have hK : headK h = 127 - h.toNat := by unfold headK; rw [if_pos hneg]
        exact refGet_short_neg g o (headK h) n c w (by omega) (by omega) (by omega) (by rw [h0]; congr 2; omega)
      · have hK : headK h = h.toNat - 128 := by unfold headK; rw [if_neg hneg]
        exact refGet_short_pos g o (headK h) n c w (by omega) (by omega) (by omega) (by rw [h0]; congr 2; omega)
    have hbig : val (digs h (t.take (headK h))) ≥ 2 ^ 63 → intR (decInt (h :: t)) = .tuple #[.int .i64 0, .int .i64 0, .int .i64 6] := fun hv => by
      have e : decInt (h :: t) = .error 6 := by
        simp only [decInt]
        rw [if_neg h1, if_neg h2]
        repeat' split
        all_goals first | rfl | exact absurd hv ‹_›
      rw [e]; rfl
    have hsm : val (digs h (t.take (headK h))) < 2 ^ 63 → intR (decInt (h :: t)) = if encInt (numOf h (val (digs h (t.take (headK h))))) = (h :: t).take (headK h + 1) then
        .tuple #[.int .i64 (numOf h (val (digs h (t.take (headK h))))), .int .i64 ((headK h + 1 : Nat) : Int), .int .i64 0] else .tuple #[.int .i64 0, .int .i64 0, .int .i64 6] := fun hv => by
      rw [refInt_dec h t (by omega) (by omega) hv]
      split <;> rfl
    by_cases hneg : h.toNat < 128
    · have hK : headK h = 127 - h.toNat := by unfold headK; rw [if_pos hneg]
      have hd : digs h (t.take (headK h)) = (t.take (headK h)).map cpl := by unfold digs; rw [if_pos hneg]
      have hnum : ∀ v, numOf h v = -1 - (v : Int) := fun v => by unfold numOf; rw [if_pos hneg]
      rw [hd, hnum] at hsm
      rw [hd] at hbig
      exact refGet_loop_neg g o (headK h) n c w (h :: t) ((t.take (headK h)).map cpl) (by simp; omega) (by omega) hc hm (by omega) hrd (by rw [h0]; congr 2; omega) (fun j x hx => by
            rw [List.getElem?_map] at hx
            obtain ⟨y, hy, rfl⟩ := Option.map_eq_some_iff.1 hx
            rw [ht j y (htk j y hy), cpl_cell]) _ hbig hsm
    · have hK : headK h = h.toNat - 128 := by unfold headK; rw [if_neg hneg]
      have hd : digs h (t.take (headK h)) = t.take (headK h) := by unfold digs; rw [if_neg hneg]
      have hnum : ∀ v, numOf h v = (v : Int) := fun v => by unfold numOf; rw [if_neg hneg]
      rw [hd, hnum] at hsm
      rw [hd] at hbig
      exact refGet_loop_pos g o (headK h) n c w (h :: t) (t.take (headK h)) (by simp; omega) (by omega) hc hm (by omega) hrd (by rw [h0]; congr 2; omega) (fun j x hx => ht j x (htk j x hx)) _ hbig hsm
end Go.Proofs.YtedegedceeefdaaDoor
/-! Walks: package custodyref01, lists. -/
namespace Go.Proofs.YtedegedceeefdaaDoor
open Go.RowKit Go.Cw Cu
set_option maxRecDepth 100000
set_option maxHeartbeats 1000000
set_option linter.unusedVariables false
set_option linter.unusedSimpArgs false

def natR (r : Res Nat) : Value := R3 (.int .i64 0) (fun n : Nat => .int .i64 (n : Int)) r
theorem ref01_count (bs : List UInt8) (A : Option Addr) (n c sz : Nat) (w : World) (hrd : Rd w A n 1 (bv bs)) (hc : n ≤ c) (hm : n ≤ 140737488351232) (hs0 : 0 < sz) (hs : sz ≤ 16) :
    Calls Tryd.prog 160 #[.slice A n c, .int .i64 sz] w fun e w' => e = .returned (natR (decCount bs sz)) ∧ Below w.heap.size w w' := by
  have hl := hrd.len
  rw [bv_length, Nat.mul_one] at hl
  have hcall := ref01_GetInt bs A n c w hrd hc hm
  cases hd : decInt bs with
  | error e1 =>
    rw [hd] at hcall
    have hR := hid (show natR (decCount bs sz) = .tuple #[.int .i64 0, .int .i64 0, .int .i64 e1] by unfold decCount; rw [hd]; rfl)
    have := decInt_err hd
    have g : ((e1 : Int) != 0) = true := by simp; omega
    go_enter Tryd.func160, Tryd.ntmps160
    go_wp2_with fail
    refine hcall.mono ?_
    rintro e w1 ⟨rfl, hb⟩
    simp only [intR, R3]
    go_wp2_with fail
    go_ret3
    exact ⟨by rw [hR.out]; rfl, hb⟩
  | ok p =>
    obtain ⟨m, k⟩ := p
    rw [hd] at hcall
    obtain ⟨hk, hk0, hm1, hm2⟩ := decInt_ok hd
    by_cases hneg : m < 0
    · have hR := hid (show natR (decCount bs sz) = .tuple #[.int .i64 0, .int .i64 0, .int .i64 6] by unfold decCount; rw [hd]; simp only; rw [if_pos hneg]; rfl)
      go_enter Tryd.func160, Tryd.ntmps160
      go_wp2_with fail
      refine hcall.mono ?_
      rintro e w1 ⟨rfl, hb⟩
      simp only [intR, R3]
      go_wp2_with fail
      go_ret3
      exact ⟨by rw [hR.out]; rfl, hb⟩
    · obtain ⟨q, rfl⟩ := Int.eq_ofNat_of_zero_le (show 0 ≤ m by omega)
      have hdiv : q > (n - k) / sz ↔ n - k < q * sz := Nat.div_lt_iff_lt_mul hs0
      by_cases hbig : q > n
      · have hR := hid (show natR (decCount bs sz) = .tuple #[.int .i64 0, .int .i64 0, .int .i64 5] by
          unfold decCount; rw [hd]; simp only; rw [if_neg hneg, if_pos]; rfl
          rw [Int.toNat_natCast, hl]
          have := Nat.div_le_self (n - k) sz
          omega)
        have g1 : decide ((n : Int) < q) = true := by simp; omega
        go_enter Tryd.func160, Tryd.ntmps160
        go_wp2_with fail
        refine hcall.mono ?_
        rintro e w1 ⟨rfl, hb⟩
        simp only [intR, R3]
        go_wp2_with fail
        go_ret3
        exact ⟨by rw [hR.out]; rfl, hb⟩
      · have hqs : q * sz ≤ 140737488351232 * 16 := Nat.mul_le_mul (by omega) hs
        have g1 : decide ((n : Int) < q) = false := by simp; omega
        have e1 : ((q : Int) * (sz : Int)) = ((q * sz : Nat) : Int) := by norm_cast
        generalize hz : q * sz = z at *
        have e2 : (0 : Int) ≤ (q : Int) * sz := by omega
        have e3 : (q : Int) * sz ≤ 2251799813619712 := by omega
        by_cases hsm : n - k < z
        · have hR := hid (show natR (decCount bs sz) = .tuple #[.int .i64 0, .int .i64 0, .int .i64 5] by
            unfold decCount; rw [hd]; simp only; rw [if_neg hneg, if_pos]; rfl
            rw [Int.toNat_natCast, hl]
            exact hdiv.2 hsm)
          have g2 : decide ((n : Int) - k < (q : Int) * sz) = true := by rw [e1]; simp; omega
          clear e1 hz hdiv
          go_enter Tryd.func160, Tryd.ntmps160
          go_wp2_with fail
          refine hcall.mono ?_
          rintro e w1 ⟨rfl, hb⟩
          simp only [intR, R3]
          go_wp2_with fail
          go_ret3
          exact ⟨by rw [hR.out]; rfl, hb⟩
        · have hR := hid (show natR (decCount bs sz) = .tuple #[.int .i64 q, .int .i64 k, .int .i64 0] by
            unfold decCount; rw [hd]; simp only; rw [if_neg hneg, if_neg]; rfl
            rw [Int.toNat_natCast, hl]
            exact fun h => hsm (hdiv.1 h))
          have g2 : decide ((n : Int) - k < (q : Int) * sz) = false := by rw [e1]; simp; omega
          clear e1 hz hdiv
          go_enter Tryd.func160, Tryd.ntmps160
          go_wp2_with fail
          refine hcall.mono ?_
          rintro e w1 ⟨rfl, hb⟩
          simp only [intR, R3]
          go_wp2_with fail
          go_ret3
          exact ⟨by rw [hR.out]; rfl, hb⟩
/-! ### GetBytes -/
theorem ref01_GetBytes (bs : List UInt8) (A : Option Addr) (n c : Nat) (w : World) (hrd : Rd w A n 1 (bv bs)) (hc : n ≤ c) (hm : n ≤ 140737488351232) :
    Calls Tryd.prog 110 #[.slice A n c] w fun e w' => e = .returned (strR (decBytes bs)) ∧ Below w.heap.size w w' := by
  have hl := hrd.len
  rw [bv_length] at hl
  have hcall := ref01_count bs A n c 1 w hrd hc hm (by omega) (by omega)
  cases hd : decCount bs 1 with
  | error e1 =>
    rw [hd] at hcall
    have := decCount_err hd
    have g : ((e1 : Int) != 0) = true := by simp; omega
    have hR := hid (show strR (decBytes bs) = .tuple #[.string ⟨#[]⟩, .int .i64 0, .int .i64 e1] by unfold decBytes; rw [hd]; rfl)
    go_enter Tryd.func110, Tryd.ntmps110
    go_wp2_with fail
    refine hcall.mono ?_
    rintro e w1 ⟨rfl, hb⟩
    simp only [natR, R3]
    go_wp2_with fail
    go_ret3
    exact ⟨by rw [hR.out]; rfl, hb⟩
  | ok p =>
    obtain ⟨m, k⟩ := p
    rw [hd] at hcall
    obtain ⟨h1, h2, _, h4, h5⟩ := enc_of_decCount (by omega) hd
    have hR := hid (show strR (decBytes bs) = .tuple #[.string ⟨((bs.drop k).take m).toArray⟩, .int .i64 ((k + m : Nat) : Int), .int .i64 0] by unfold decBytes; rw [hd]; rfl)
    clear hd
    go_enter Tryd.func110, Tryd.ntmps110
    go_wp2_with fail
    refine hcall.mono ?_
    rintro e w1 ⟨rfl, hb⟩
    simp only [natR, R3]
    go_wp2_with (first | (with_reducible refine stop_slice ?_) | (with_reducible refine stop_convert ?_))
    refine at_slice_lohi eltB (l := k) (u := k + m) rfl rfl rfl rfl (by omega) (hrd.below hb) hc (by omega) (by omega) ?_
    intro A' hrd'
    rw [bv_drop, bv_take, Nat.mul_one, Nat.mul_one, Nat.add_sub_cancel_left] at hrd'
    rw [Nat.add_sub_cancel_left]
    go_wp2_with (first | (with_reducible refine stop_slice ?_) | (with_reducible refine stop_convert ?_))
    refine at_str Tryd.underlying33 Tryd.underlying5 Tryd.underlying9 rfl hrd' ?_
    go_wp2
    go_ret3
    exact ⟨by rw [hR.out, Int.natCast_add]; rfl, hb⟩
/-! ### Ints -/
theorem ref01_Ints (xs : List Int) (hx : ∀ x ∈ xs, inI64 x) (A : Option Addr) (n c : Nat) (hn : n * 9 ≤ 140737488351232) (w : World) (hrd : Rd w A n 1 (iv xs)) :
    Calls Tryd.prog 101 #[.slice A n c] w (RetOwn w 5 1 (encList encInt xs).length (bv (encList encInt xs))) := by
  have hl : Hid (xs.length = n) := by have := hrd.len; rw [iv_length] at this; show _ = _; omega
  go_enter Tryd.func101, Tryd.ntmps101
  go_wp2_with fail
  refine (ref01_Int (n : Int) ⟨by omega, by omega⟩ w).mono ?_
  rintro e w1 ⟨B, d, rfl, hown, hb⟩
  have hle := encInt_length_le (n : Int)
  go_wp2_with fail
  go_loopw [3, 4] (fun v i wr => ∃ (k m : Nat) (B : Option Addr) (d : Nat), k ≤ n ∧ m ≤ 9 * k + 9 ∧ i = .int .i64 k ∧ v = .slice B m d ∧
      wr.ownsRow w.heap.size 5 1 (.slice B m d) m (bv (encInt n ++ (xs.take k).flatMap encInt)) ∧ Below w.heap.size w wr) (fun _ i _ => n - (intOf i).toNat)
  case atStart => exact ⟨0, _, B, d, by omega, by omega, rfl, rfl, by simpa using hown, hb⟩
  case round =>
    clear hown hb
    obtain ⟨k, m, B', d', hk, hm, rfl, rfl, hown, hb⟩ := hrel
    by_cases hlt : k < n
    · obtain ⟨g, o, x, rfl, hcell, hxk⟩ := hrd.i64_at hb hlt
      have hin := hx x (List.mem_of_getElem? hxk)
      have Hx := hid hxk
      clear hxk
      go_wp2_with fail
      refine (ref01_Int x hin _).mono ?_
      rintro e w2 ⟨C, d2, rfl, hown2, hb2⟩
      have hlx := encInt_length_le x
      go_wp2_with (with_reducible refine stop_append ?_)
      have hownw := own_below hown hb2
      have hb3 := below_then hb hb2 hb.size
      refine at_append_src eltB w.heap.size rfl hownw rfl (Src.ofRd Tryd.underlying33 d2 (own_Rd hown2) (bv_one _)) (by omega) (by omega) hb3.size ?_
      intro A' c' w3 hown' hg _
      have hb' := below_own hb3 hb3.size hownw (Nat.le_refl _) hg
      have HL := hid hlx
      clear hlx
      go_wp2
      go_roundw
      case rel => exact ⟨k + 1, _, A', c', by omega, by have := HL.out; omega, by go_num, rfl, by rw [take_flat _ Hx.out, ← List.append_assoc, bv_append]; exact hown', hb'⟩
      case measure => simp [intOf]; omega
    · go_wp2
      go_ret
      have hkn : k = n := by omega
      subst hkn
      have hl' := hl.out
      rw [List.take_of_length_le (by omega)] at hown
      have e1 : encInt (k : Int) ++ xs.flatMap encInt = encList encInt xs := by unfold encList; rw [hl']
      rw [e1] at hown
      have e2 : m = (encList encInt xs).length := by have := hown.1; rw [bv_length] at this; omega
      subst e2
      exact ⟨B', d', rfl, hown, hb⟩
end Go.Proofs.YtedegedceeefdaaDoor
/-! Walks: package custodyref01, GetInts and SameInts. -/
namespace Go.Proofs.YtedegedceeefdaaDoor
open Go.RowKit Go.Cw Cu
set_option maxRecDepth 100000
set_option maxHeartbeats 1000000
set_option linter.unusedVariables false
set_option linter.unusedSimpArgs false

theorem ref01_GetInts (bs : List UInt8) (A : Option Addr) (n c : Nat) (w : World) (hrd : Rd w A n 1 (bv bs)) (hc : n ≤ c) (hm : n * 8 ≤ 140737488351232) :
    Calls Tryd.prog 111 #[.slice A n c] w (ListRet w 3 1 iv (decList 1 decInt bs)) := by
  have hl := hrd.len
  rw [bv_length] at hl
  have hcall := ref01_count bs A n c 1 w hrd hc (by omega) (by omega) (by omega)
  cases hd : decCount bs 1 with
  | error e1 =>
    rw [hd] at hcall
    have := decCount_err hd
    have g : ((e1 : Int) != 0) = true := by simp; omega
    have hR := hid (show decList 1 decInt bs = .error e1 by unfold decList; rw [hd])
    go_enter Tryd.func111, Tryd.ntmps111
    go_wp2_with fail
    refine hcall.mono ?_
    rintro e w1 ⟨rfl, hb⟩
    simp only [natR, R3]
    go_wp2_with fail
    go_ret3
    rw [hR.out]
    exact ⟨rfl, hb⟩
  | ok p =>
    obtain ⟨m, k⟩ := p
    rw [hd] at hcall
    obtain ⟨h1, h2, _, h4, h5⟩ := enc_of_decCount (by omega) hd
    have hR := hid (show decList 1 decInt bs = getLoop decInt bs m [] k by unfold decList; rw [hd])
    clear hd
    go_enter Tryd.func111, Tryd.ntmps111
    go_wp2_with fail
    refine hcall.mono ?_
    rintro e w1 ⟨rfl, hb1⟩
    simp only [natR, R3]
    go_wp2_with fail
    go_loopw [6, 8, 9] (fun q v i wr => ∃ (j pos : Nat) (l : List Int) (D : Option Addr) (d : Nat), j ≤ m ∧ pos ≤ n ∧ i = .int .i64 j ∧ q = .int .i64 pos ∧ v = .slice D l.length d ∧ Hid (l.length = j) ∧
        wr.ownsRow w.heap.size 3 1 (.slice D l.length d) l.length (iv l) ∧ Hid (getLoop decInt bs m [] k = getLoop decInt bs (m - j) l pos) ∧ Below w.heap.size w wr)
      (fun _ _ i _ => m - (intOf i).toNat)
    case atStart => exact ⟨0, k, [], none, 0, by omega, by omega, rfl, rfl, rfl, rfl, World.ownsRow_nil _ _ _ _, rfl, hb1⟩
    case round =>
      clear hb1
      obtain ⟨j, pos, l, D, d, hj, hpos, rfl, rfl, rfl, hlj, hown, hG, hb⟩ := hrel
      by_cases hlt : j < m
      · go_wp2_with (with_reducible refine stop_slice ?_)
        refine at_slice_lo eltB (l := pos) rfl rfl rfl (hrd.below hb) hc hpos ?_
        intro A' hrd'
        rw [bv_drop, Nat.mul_one] at hrd'
        go_wp2_with fail
        refine (ref01_GetInt _ A' _ _ wr hrd' (by omega) (by omega)).mono ?_
        rintro e w2 ⟨rfl, hw2⟩
        have ho2 := own_below hown hw2
        have hb2 := below_then hb hw2 hb.size
        cases hd : decInt (bs.drop pos) with
        | error e0 =>
          have := decInt_err hd
          have g : ((e0 : Int) != 0) = true := by simp; omega
          have hR2 := hid (show getLoop decInt bs (m - j) l pos = .error e0 by
            obtain ⟨q, hq⟩ : ∃ q, m - j = q + 1 := ⟨m - j - 1, by omega⟩
            rw [hq]; simp only [getLoop]; rw [hd])
          clear hd ho2 hw2
          simp only [intR, R3]
          go_wp2_with fail
          go_ret3
          rw [hR.out, hG.out, hR2.out]
          exact ⟨rfl, hb2⟩
        | ok p =>
          obtain ⟨x, u⟩ := p
          have hk := (decInt_ok hd).1
          rw [List.length_drop] at hk
          have hR2 := hid (show getLoop decInt bs (m - j) l pos = getLoop decInt bs (m - (j + 1)) (l ++ [x]) (pos + u) by
            obtain ⟨q, hq⟩ : ∃ q, m - j = q + 1 := ⟨m - j - 1, by omega⟩
            rw [hq, show m - (j + 1) = q by omega]; simp only [getLoop]; rw [hd])
          have HL := hlj.out
          clear hd hw2
          simp only [intR, R3]
          go_wp2_with (with_reducible refine stop_append ?_)
          refine at_append_src eltI w.heap.size rfl (ho2.alloc _) rfl (Src.ofRd Tryd.underlying22 1 (rd_new (cs := [.int .i64 x]) 1 1 rfl (by omega)) (iv_one [x])) (by omega) (by omega) (le_alloc hb2.size _) ?_
          intro A2 c2 w3 hown' hg _
          have hb3 := below_own (hb2.alloc hb2.size _) (le_alloc hb2.size _) (ho2.alloc _) (Nat.le_refl _) hg
          clear HL hg
          go_wp2_with fail
          go_roundw
          case rel => exact ⟨j + 1, pos + u, l ++ [x], A2, c2, by omega, by omega, by go_num, by go_num, by simp, by show _ = _; have := hlj.out; simp; omega, by rw [iv_append, List.length_append]; exact hown', by show _ = _; rw [← hR2.out]; exact hG, hb3⟩
          case measure => simp [intOf]; omega
      · go_wp2_with fail
        go_ret3
        have hjm : m - j = 0 := by omega
        have hG' := hG.out
        rw [hjm] at hG'
        rw [hR.out, hG']
        exact ⟨D, d, rfl, hown, hb⟩

theorem ref01_SameInts (xs ys : List Int) (A B : Option Addr) (n m c d : Nat) (hm : n ≤ 140737488351232) (hm2 : m ≤ 140737488351232) (w : World) (h1 : Rd w A n 1 (iv xs)) (h2 : Rd w B m 1 (iv ys)) :
    Calls Tryd.prog 104 #[.slice A n c, .slice B m d] w fun e w' => e = .returned (.bool (decide (xs = ys))) ∧ Below w.heap.size w w' := by
  have l1 := h1.len
  have l2 := h2.len
  rw [iv_length] at l1 l2
  by_cases hnm : n = m
  · subst hnm
    have g1 : ((n : Int) != n) = false := by simp
    go_enter Tryd.func104, Tryd.ntmps104
    go_wp2_with fail
    go_loopw [5] (fun i wr => ∃ j : Nat, j ≤ n ∧ i = .int .i64 j ∧ Hid (xs.take j = ys.take j) ∧ Below w.heap.size w wr) (fun i _ => n - (intOf i).toNat)
    case atStart => exact ⟨0, by omega, rfl, rfl, Below.refl _ _⟩
    case round =>
      obtain ⟨j, hj, rfl, hE, hb⟩ := hrel
      by_cases hlt : j < n
      · obtain ⟨ga, oa, x, rfl, hcx, hx⟩ := h1.i64_at hb hlt
        obtain ⟨gb, ob, y, rfl, hcy, hy⟩ := h2.i64_at hb hlt
        have Hx := hid hx
        have Hy := hid hy
        clear hx hy
        by_cases hxy : x = y
        · subst hxy
          have g : (x != x) = false := by simp
          have hlt' : (j : Int) < n := by omega
          go_wp2_with fail
          go_quiet (fail)
          go_wp2_with fail
          go_roundw
          case rel => exact ⟨j + 1, by omega, by go_num, by show _ = _; rw [List.take_add_one, List.take_add_one, Hx.out, Hy.out, hE.out], below_then hb (Drw.below ⟨_, rfl⟩) hb.size⟩
          case measure => simp [intOf]; omega
        · have g : (x != y) = true := by simp; exact hxy
          have hlt' : (j : Int) < n := by omega
          have g3 := hid (show decide (xs = ys) = false by
            simp
            intro e
            have h1 := Hx.out
            have h2 := Hy.out
            rw [e, h2] at h1
            exact hxy (Option.some.inj h1).symm)
          go_wp2_with fail
          go_quiet (fail)
          go_wp2_with fail
          go_ret
          exact ⟨by rw [g3.out]; rfl, below_then hb (Drw.below ⟨_, rfl⟩) hb.size⟩
      · have g3 := hid (show decide (xs = ys) = true by
          have e := hE.out
          rw [List.take_of_length_le (by omega), List.take_of_length_le (by omega)] at e
          simp [e])
        go_wp2_with fail
        go_ret
        exact ⟨by rw [g3.out]; rfl, hb⟩
  · have g1 : ((n : Int) != m) = true := by simp; omega
    have g2 : decide (n = m) = false := by simp; omega
    have g3 := hid (show decide (xs = ys) = false by simp; intro e; subst e; omega)
    go_enter Tryd.func104, Tryd.ntmps104
    go_wp2_with fail
    go_ret
    exact ⟨by rw [g3.out]; rfl, Below.refl _ _⟩
end Go.Proofs.YtedegedceeefdaaDoor

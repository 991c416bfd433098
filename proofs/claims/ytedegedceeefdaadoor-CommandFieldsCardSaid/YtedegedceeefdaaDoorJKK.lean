/- Parts of the proof: K, Kb, Kc, Kd, Ke, Kf, Kh. -/
import Derived.WalkKit
import Derived.WalkSpells
import Derived.WalkLawsBesides
import Derived.Deep.AppendSrc
import Derived.Deep.AppendLies
import Derived.Deep.QuietTactic
import Derived.BigQuiet
import Derived.Deep.Draws
import Derived.Test.YtedegedceeefdaaDoorJPL
import Derived.Laws.CopyRow
import Derived.StillTail
import Derived.Great.BuildSlice
import Derived.DeepKeys
import Derived.Great.FillDense
import Derived.Laws.Small
set_option linter.all false
set_option linter.unusedVariables false
set_option linter.unusedSimpArgs false
set_option linter.unnecessarySimpa false
set_option linter.deprecated false
/-! Words for the walks: rows that are read, rows of the call's own, and laws at single operations. -/
namespace Go.Cw
open Go.RowKit

/-- A stop of the walk at one operation. -/
def StopAt (P : Program) (ops : Array Oper) (Q : Exit → Act → World → Prop) (o : Oper) (rest : List Oper) (a : Act) (w : World) : Prop := wpList P ops Q (o :: rest) a w
section
variable {P : Program} {ops : Array Oper} {Q : Exit → Act → World → Prop} {rest : List Oper} {a : Act} {w : World} {d : Option Tmp} {ty : TypeId} {pos : String} {af : Array Edge} {g : Option (Nat × Bool)}
theorem stop_append {args : Array Operand} {ts : Array TypeId} (h : StopAt P ops Q ⟨d, .call { callee := .builtin .append, args := args, argTypes := ts }, ty, pos, af, g⟩ rest a w) :
    wpList P ops Q (⟨d, .call { callee := .builtin .append, args := args, argTypes := ts }, ty, pos, af, g⟩ :: rest) a w := h
theorem stop_copy {args : Array Operand} {ts : Array TypeId} (h : StopAt P ops Q ⟨d, .call { callee := .builtin .copy, args := args, argTypes := ts }, ty, pos, af, g⟩ rest a w) :
    wpList P ops Q (⟨d, .call { callee := .builtin .copy, args := args, argTypes := ts }, ty, pos, af, g⟩ :: rest) a w := h
theorem stop_convert {s t : TypeId} {x : Operand} (h : StopAt P ops Q ⟨d, .convert s t x, ty, pos, af, g⟩ rest a w) : wpList P ops Q (⟨d, .convert s t x, ty, pos, af, g⟩ :: rest) a w := h
theorem stop_load {t : TypeId} {x : Operand} (h : StopAt P ops Q ⟨d, .load t x, ty, pos, af, g⟩ rest a w) : wpList P ops Q (⟨d, .load t x, ty, pos, af, g⟩ :: rest) a w := h
theorem stop_store {t : TypeId} {x y : Operand} (h : StopAt P ops Q ⟨d, .store t x y, ty, pos, af, g⟩ rest a w) : wpList P ops Q (⟨d, .store t x y, ty, pos, af, g⟩ :: rest) a w := h
theorem stop_index {t : TypeId} {x i : Operand} (h : StopAt P ops Q ⟨d, .index t x i, ty, pos, af, g⟩ rest a w) : wpList P ops Q (⟨d, .index t x i, ty, pos, af, g⟩ :: rest) a w := h
theorem stop_indexAddr {t : TypeId} {x i : Operand} (h : StopAt P ops Q ⟨d, .indexAddr t x i, ty, pos, af, g⟩ rest a w) : wpList P ops Q (⟨d, .indexAddr t x i, ty, pos, af, g⟩ :: rest) a w := h
theorem stop_slice {t : TypeId} {x : Operand} {lo hi mx : Option Operand} (h : StopAt P ops Q ⟨d, .slice t x lo hi mx, ty, pos, af, g⟩ rest a w) : wpList P ops Q (⟨d, .slice t x lo hi mx, ty, pos, af, g⟩ :: rest) a w := h
theorem stop_binOp {op : BinOp} {t t' : TypeId} {x y : Operand} (h : StopAt P ops Q ⟨d, .binOp op t x y t', ty, pos, af, g⟩ rest a w) : wpList P ops Q (⟨d, .binOp op t x y t', ty, pos, af, g⟩ :: rest) a w := h
theorem stop_toArray {t : TypeId} {x : Operand} (h : StopAt P ops Q ⟨d, .sliceToArrayPointer t x, ty, pos, af, g⟩ rest a w) : wpList P ops Q (⟨d, .sliceToArrayPointer t x, ty, pos, af, g⟩ :: rest) a w := h
theorem stop_build {t : TypeId} {ps : Array (Nat × Operand)} (h : StopAt P ops Q ⟨d, .build t ps, ty, pos, af, g⟩ rest a w) : wpList P ops Q (⟨d, .build t ps, ty, pos, af, g⟩ :: rest) a w := h
theorem stop_buildSlice {t : TypeId} {n : Nat} {ps : Array (Nat × Operand)} (h : StopAt P ops Q ⟨d, .buildSlice t n ps, ty, pos, af, g⟩ rest a w) : wpList P ops Q (⟨d, .buildSlice t n ps, ty, pos, af, g⟩ :: rest) a w := h
theorem stop_box {t : TypeId} {x : Operand} (h : StopAt P ops Q ⟨d, .box t x, ty, pos, af, g⟩ rest a w) : wpList P ops Q (⟨d, .box t x, ty, pos, af, g⟩ :: rest) a w := h

/-- An operation that gives a value: by its run. -/
theorem at_val (hg : g = none) {op : Op} {v : Value} {w' : World} (h : (execOp a.eval ⟨d, op, ty, pos, af, g⟩).run P w = .ok (.value v) w') (k : wpList P ops Q rest (a.put d v) w') :
    StopAt P ops Q ⟨d, op, ty, pos, af, g⟩ rest a w := by
  subst hg
  refine wpList_plain rfl fun K hK => ?_
  unfold Oper.wp
  rw [h]
  exact hK _ _ k
end

theorem World.heap_new (w : World) (o : Obj) : (w.alloc o).heap[w.heap.size]? = some o := by
  show (w.heap.push o)[w.heap.size]? = _
  simp

theorem hid {p : Prop} (h : p) : Hid p := h

/-! ### Rows that are read -/
def bv (bs : List UInt8) : List Value := bs.map fun b => .int .u8 (b.toNat : Int)
def iv (xs : List Int) : List Value := xs.map fun x => .int .i64 x
theorem bv_length (bs : List UInt8) : (bv bs).length = bs.length := by simp [bv]
theorem iv_length (xs : List Int) : (iv xs).length = xs.length := by simp [iv]
theorem bv_append (a b : List UInt8) : bv (a ++ b) = bv a ++ bv b := by simp [bv]
theorem iv_append (a b : List Int) : iv (a ++ b) = iv a ++ iv b := by simp [iv]
theorem bv_one (bs : List UInt8) : ∀ u ∈ bv bs, u.oneCell' = true := by
  intro u hu
  obtain ⟨_, _, rfl⟩ := List.mem_map.1 hu
  rfl
theorem iv_one (xs : List Int) : ∀ u ∈ iv xs, u.oneCell' = true := by
  intro u hu
  obtain ⟨_, _, rfl⟩ := List.mem_map.1 hu
  rfl

/-- n elements of some size, from address A on, read as these cells (nil and empty slices too). -/
structure Rd (w : World) (A : Option Addr) (n size : Nat) (xs : List Value) : Prop where
  len : xs.length = n * size
  max : n ≤ 9223372036854775807
  cells : 0 < n → ∃ g o, A = some ⟨g, o, none⟩ ∧ ∀ j u, xs[j]? = some u → w.cell? ⟨g, o + j, none⟩ = some u

theorem Rd.below {w w1 : World} {A : Option Addr} {n size : Nat} {xs : List Value} (h : Rd w A n size xs) (hb : Below w.heap.size w w1) : Rd w1 A n size xs :=
  ⟨h.len, h.max, fun hn => by
    obtain ⟨g, o, e, hc⟩ := h.cells hn
    refine ⟨g, o, e, fun j u hu => ?_⟩
    have := hc j u hu
    exact (hb.cell (World.block_lt_of_cell? w _ this)).trans this⟩
theorem Rd.empty (w : World) (A : Option Addr) (size : Nat) : Rd w A 0 size [] := ⟨by simp, by omega, fun h => absurd h (by omega)⟩
/-- An element's cells. -/
theorem Rd.at_ {w : World} {A : Option Addr} {n size : Nat} {xs : List Value} (h : Rd w A n size xs) (hn : 0 < n) : ∃ g o, A = some ⟨g, o, none⟩ ∧ ∀ j u, xs[j]? = some u → w.cell? ⟨g, o + j, none⟩ = some u := h.cells hn
theorem Rd.grown {w w1 : World} {A : Option Addr} {n size : Nat} {xs : List Value} (h : Rd w A n size xs) {row : Option Nat} (hg : w.grownBy w1 row) (hne : ∀ g o, A = some ⟨g, o, none⟩ → 0 < n → some g ≠ row) : Rd w1 A n size xs :=
  ⟨h.len, h.max, fun hn => by
    obtain ⟨g, o, e, hc⟩ := h.cells hn
    exact ⟨g, o, e, fun j u hu => hg.cell (hc j u hu) (hne g o e hn)⟩⟩

theorem own_Rd {w : World} {base e size n c : Nat} {A : Option Addr} {xs : List Value} (h : w.ownsRow base e size (.slice A n c) n xs) : Rd w A n size xs := by
  refine ⟨h.1, ?_, fun hn => ?_⟩
  · rcases h.2 with ⟨_, h0⟩ | ⟨g, cap, cur, _, _, _, h1, h2, _⟩
    · omega
    · simp only [maxLen] at h2; omega
  · obtain ⟨g, cap, e, _, _⟩ := h.form hn
    injection e with e1 e2 e3
    subst e1
    refine ⟨g, 0, rfl, fun j u hu => ?_⟩
    have := h.cells (g := g) rfl j u hu
    rwa [show (⟨g, 0, none⟩ : Addr).add j = ⟨g, 0 + j, none⟩ by rw [Addr.add_lit]] at this

theorem own_slice {w : World} {base e size n : Nat} {v : Value} {xs : List Value} (h : w.ownsRow base e size v n xs) : ∃ A c, v = .slice A n c := by
  rcases h.2 with ⟨rfl, rfl⟩ | ⟨g, cap, cur, rfl, _⟩
  · exact ⟨none, 0, rfl⟩
  · exact ⟨_, cap, rfl⟩
theorem own_below {w w1 : World} {base e size n : Nat} {v : Value} {xs : List Value} (h : w.ownsRow base e size v n xs) (hb : Below w.heap.size w w1) : w1.ownsRow base e size v n xs :=
  h.kept (row := none) ⟨hb.os, hb.tape, hb.output, hb.size, fun i hi _ => hb.block i hi⟩ (by cases v.ownBlock <;> simp)
theorem own_mono {w : World} {base base' e size n : Nat} {v : Value} {xs : List Value} (h : w.ownsRow base e size v n xs) (hb : base' ≤ base) : w.ownsRow base' e size v n xs :=
  ⟨h.1, h.2.imp id fun ⟨g, cap, cur, a, b, c⟩ => ⟨g, cap, cur, a, Nat.le_trans hb b, c⟩⟩
theorem below_then {B : Nat} {w w1 w2 : World} (h : Below B w w1) (k : Below w1.heap.size w1 w2) (hB : B ≤ w1.heap.size) : Below B w w2 := h.trans (k.mono hB)
theorem below_all {w w1 w2 : World} (h : Below w.heap.size w w1) (k : Below w1.heap.size w1 w2) : Below w.heap.size w w2 := h.trans (k.mono h.size)
theorem below_own {B : Nat} {w w1 w2 : World} (h : Below B w w1) (hB : B ≤ w1.heap.size) {base e size n : Nat} {v : Value} {xs : List Value} (ho : w1.ownsRow base e size v n xs) (hb : B ≤ base)
    (hg : w1.grownBy w2 v.ownBlock) : Below B w w2 := h.grown hg hB fun k hk => Nat.le_trans hb (ho.lt k hk).1

/-- The world is the old one, some orders having been drawn. -/
def Drw (w w' : World) : Prop := ∃ n, w' = w.drewN n
theorem Drw.heap {w w' : World} (h : Drw w w') : w'.heap = w.heap := by obtain ⟨n, rfl⟩ := h; rfl
theorem Drw.refl (w : World) : Drw w w := ⟨0, rfl⟩
theorem Drw.below {B : Nat} {w w' : World} (h : Drw w w') : Below B w w' := by
  obtain ⟨n, rfl⟩ := h
  exact ⟨rfl, rfl, rfl, Nat.le_refl _, fun _ _ => rfl⟩
theorem Drw.own {w w' : World} (h : Drw w w') {base e size n : Nat} {v : Value} {xs : List Value} (ho : w.ownsRow base e size v n xs) : w'.ownsRow base e size v n xs := own_below ho h.below

theorem le_alloc {B : Nat} {w : World} (h : B ≤ w.heap.size) (o : Obj) : B ≤ (w.alloc o).heap.size := by
  show B ≤ (w.heap.push o).size
  simp; omega

/-! ### Element types -/
structure Elt (P : Program) (t e : TypeId) (z : Value) (size bytes : Nat) : Prop where
  ht : P.underlying t = some (.slice e)
  hi : (P.info? e).map (fun i => (i.zero, i.size, i.bytes)) = some (some z, size, bytes)
  hzs : z.cells.size = size
  hsz : 0 < size

section
variable {P : Program} {w : World}
theorem Src.ofRd {size : Nat} {tx e' : TypeId} (hk : P.underlying tx = some (.slice e')) {A : Option Addr} {n : Nat} (c : Nat) {news : List Value} (h : Rd w A n size news) (h1 : ∀ u ∈ news, u.oneCell' = true) :
    Src P size tx (.slice A n c) n news w := by
  rcases Nat.eq_zero_or_pos n with hn | hn
  · subst hn
    have : news = [] := List.eq_nil_of_length_eq_zero (by simpa using h.len)
    subst this
    refine ⟨.inl ⟨e', hk⟩, fun _ => rfl, ?_, ?_, by simp, fun u hu => by cases hu⟩ <;> cases A <;> simp [Builtin.firstCells, loadCells, loadCellsFrom]
  · obtain ⟨g, o, rfl, hc⟩ := h.cells hn
    exact Src.ofSlice w hk _ _ _ _ h.len (fun j u hu => by rw [Addr.add_lit]; exact hc j u hu) h1

/-- append to a row of the call's own, whatever is appended. -/
theorem run_append_own_src (base : Nat) (t tx ty e : TypeId) (z : Value) (size bytes : Nat) (hE : Elt P t e z size bytes)
    (v : Value) (n : Nat) (xs : List Value) (hown : w.ownsRow base e size v n xs)
    (x : Value) (m : Nat) (news : List Value) (hs : Src P size tx x m news w) (hbytes : (n + m) * bytes ≤ 140737488355328) (h63 : n + m ≤ 9223372036854775807) (hbase : base ≤ w.heap.size) :
    ∃ A c w', (Builtin.append_ #[t, tx] ty #[v, x]).run P w = .ok (.slice A (n + m) c) w' ∧ w'.ownsRow base e size (.slice A (n + m) c) (n + m) (xs ++ news) ∧ w.grownBy w' v.ownBlock ∧
      (∀ k, (Value.slice A (n + m) c).ownBlock = some k → v.ownBlock = some k ∨ k = w.heap.size) := by
  obtain ⟨ht, hi0, hzs, hsz⟩ := hE
  obtain ⟨i, hi, hz, rfl, rfl⟩ := info_parts hi0
  have h63m : n + m ≤ maxLen := by simp only [maxLen]; omega
  have hlen : (xs ++ news).length = (n + m) * i.size := by rw [List.length_append, hown.1, hs.newsLen, Nat.add_mul]
  have grown : ∀ (old : Nat) (row : Option Nat),
      (w.drew.alloc (.cells ((xs ++ news).toArray ++ Builtin.zeroCells z.cells (grownCap w (n + m) old e - (n + m))) e)).ownsRow base e i.size
        (.slice (some ⟨w.heap.size, 0, none⟩) (n + m) (grownCap w (n + m) old e)) (n + m) (xs ++ news) ∧
      w.grownBy (w.drew.alloc (.cells ((xs ++ news).toArray ++ Builtin.zeroCells z.cells (grownCap w (n + m) old e - (n + m))) e)) row := by
    intro old row
    have hge := grownCap_ge w (n + m) old e
    have hcm : grownCap w (n + m) old e ≤ maxLen := grownCap_le_maxLen w (n + m) old e h63m
    refine ⟨⟨hlen, .inr ⟨w.heap.size, _, _, rfl, hbase, heap_alloc_new w.drew _, hge, hcm, ?_, ?_⟩⟩, ⟨rfl, rfl, rfl, by simp, fun k hk _ => Below.heap_alloc w.drew _ k hk⟩⟩
    · simp only [Array.size_append, List.size_toArray, size_zeroCells, hzs, hlen, ← Nat.add_mul]
      congr 1
      omega
    · simp only [Array.toList_append]
      rw [← hlen]
      exact List.take_left
  rcases hown.2 with ⟨rfl, rfl⟩ | ⟨g, cap, cur, rfl, hbg, hg, hnc, hcm, hcs, htake⟩
  · have hx : xs = [] := List.eq_nil_of_length_eq_zero (by simpa using hown.1)
    subst hx
    by_cases hm : m = 0
    · subst hm
      have hn : news = [] := List.eq_nil_of_length_eq_zero (by simpa using hs.newsLen)
      subst hn
      refine ⟨none, 0, w, ?_, World.ownsRow_nil w base e i.size, ⟨rfl, rfl, rfl, Nat.le_refl _, fun _ _ _ => rfl⟩, by simp [Value.ownBlock]⟩
      rcases hs.kind with ⟨e', hk⟩ | hk <;> simp [Builtin.append_, run_underlying ht, run_underlying hk, sizeOf, typeInfo, hi, hs.len, hs.cells]
    · have hold : (Builtin.firstCells i.size 0 (.slice none 0 0)).run P w.drew = .ok ([] : List Value).toArray w.drew := rfl
      have hr := run_append_grow_src (P := P) w t tx ty e i z ht hi hz none 0 0 [] hold x m news hs (by omega) (by omega) (growslice_fits (by omega) hbytes)
      have hgr := grown 0 (Value.ownBlock (.slice none 0 0))
      exact ⟨_, _, _, hr, hgr.1, hgr.2, fun k hk => .inr (by simpa [Value.ownBlock] using hk.symm)⟩
  · by_cases hroom : n + m ≤ cap
    · have hfit : n * i.size + news.length ≤ cur.size := by rw [hs.newsLen, hcs, ← Nat.add_mul]; exact Nat.mul_le_mul_right _ hroom
      have hst := run_storeCells_at P g (n * i.size) e news 0 cur w hg (by simpa using hfit) hs.one
      simp only [Nat.add_zero] at hst
      have hr : (Builtin.append_ #[t, tx] ty #[.slice (some ⟨g, 0, none⟩) n cap, x]).run P w =
          .ok (.slice (some ⟨g, 0, none⟩) (n + m) cap) (w.setRow g (cur.toList.take (n * i.size) ++ news ++ cur.toList.drop (n * i.size + news.length)).toArray) := by
        rcases hs.kind with ⟨e', hk⟩ | hk <;> simp [Builtin.append_, run_underlying ht, run_underlying hk, sizeOf, typeInfo, hi, hs.len, hroom, hs.cells, Addr.add_lit, hst]
      refine ⟨_, _, _, hr, ⟨hlen, .inr ⟨g, cap, _, rfl, hbg, setRow_heap w g cur _ e _ hg, hroom, hcm, ?_, ?_⟩⟩, ⟨rfl, rfl, rfl, by simp, fun k _ hk => setRow_other w g k _ (fun e => hk (by simp [Value.ownBlock, e]))⟩, fun k hk => .inl hk⟩
      · simp only [List.size_toArray, List.length_append, List.length_take, List.length_drop, Array.length_toList]
        omega
      · rw [htake, ← hlen]
        exact List.take_left
    · have holds : ∀ j u, xs[j]? = some u → w.cell? ((⟨g, 0, none⟩ : Addr).add j) = some u := hown.cells (g := g) rfl
      have hold : (Builtin.firstCells i.size n (.slice (some ⟨g, 0, none⟩) n cap)).run P w.drew = .ok xs.toArray w.drew :=
        run_firstCells_some (P := P) w.drew i.size n ⟨g, 0, none⟩ n cap xs hown.1 holds
      have hr := run_append_grow_src (P := P) w t tx ty e i z ht hi hz (some ⟨g, 0, none⟩) n cap xs hold x m news hs (by omega) (by omega) (growslice_fits (by omega) hbytes)
      have hgr := grown cap (Value.ownBlock (.slice (some ⟨g, 0, none⟩) n cap))
      exact ⟨_, _, _, hr, hgr.1, hgr.2, fun k hk => .inr (by simpa [Value.ownBlock] using hk.symm)⟩

variable {ops : Array Oper} {Q : Exit → Act → World → Prop} {rest : List Oper} {a : Act} {d : Option Tmp} {ty : TypeId} {pos : String} {af : Array Edge}
theorem at_append_src {s x : Operand} {t tx e : TypeId} {z : Value} {size bytes : Nat} (hE : Elt P t e z size bytes) (base : Nat) {v : Value} {n : Nat} {xs : List Value} (hs : a.eval s = v) (hown : w.ownsRow base e size v n xs)
    {y : Value} {m : Nat} {news : List Value} (hx : a.eval x = y) (hsrc : Src P size tx y m news w) (hbytes : (n + m) * bytes ≤ 140737488355328) (h63 : n + m ≤ 9223372036854775807) (hbase : base ≤ w.heap.size)
    (k : ∀ A c w', w'.ownsRow base e size (.slice A (n + m) c) (n + m) (xs ++ news) → w.grownBy w' v.ownBlock → (∀ k, (Value.slice A (n + m) c).ownBlock = some k → v.ownBlock = some k ∨ k = w.heap.size) →
      wpList P ops Q rest (a.put d (.slice A (n + m) c)) w') :
    StopAt P ops Q ⟨d, .call { callee := .builtin .append, args := #[s, x], argTypes := #[t, tx] }, ty, pos, af, none⟩ rest a w := by
  obtain ⟨A, c, w', hr, h2, h3, h4⟩ := run_append_own_src (P := P) base t tx ty e z size bytes hE v n xs hown y m news hsrc hbytes h63 hbase
  refine wpList_plain rfl fun K hK => ?_
  unfold Oper.wp execOp
  simp only [resolve, invoke, builtin, Sem.run_bind, Sem.run_pure, Result.andThen_ok, List.map_toArray, List.map_cons, List.map_nil, hs, hx, hr]
  exact hK _ _ (k A c w' h2 h3 h4)
end

theorem rd_new {w : World} {cs : List Value} {e : TypeId} {fr : Nat × Nat} (n size : Nat) (h : cs.length = n * size) (hn : n ≤ 9223372036854775807) : Rd (w.alloc (.cells cs.toArray e fr)) (some ⟨w.heap.size, 0, none⟩) n size cs :=
  ⟨h, hn, fun _ => ⟨w.heap.size, 0, rfl, fun j u hu => by
    have := World.news_of_block (w := w.alloc (.cells cs.toArray e fr)) (B := w.heap.size) (cs := cs.toArray) (t := e) (fr := fr) (World.heap_new w _) j u (by simpa using hu)
    rwa [Addr.add_lit] at this⟩⟩

theorem own_lit {w : World} {base : Nat} {cs : List Value} {e : TypeId} {n size : Nat} (hb : base ≤ w.heap.size) (h : cs.length = n * size) (hn : n ≤ 9223372036854775807) :
    (w.alloc (.cells cs.toArray e)).ownsRow base e size (.slice (some ⟨w.heap.size, 0, none⟩) n n) n cs :=
  ⟨h, .inr ⟨w.heap.size, n, cs.toArray, rfl, hb, World.heap_new w _, Nat.le_refl _, by simp only [maxLen]; omega, by simpa using h, by simp [List.take_of_length_le, h]⟩⟩

/-- The bytes of a string. -/
abbrev sb (s : ByteArray) : List UInt8 := s.data.toList
theorem sb_length (s : ByteArray) : (sb s).length = s.size := by rw [Array.length_toList]; rfl
theorem Src.ofStr {P : Program} {w : World} {tx : TypeId} (hk : P.underlying tx = some .string) (s : ByteArray) : Src P 1 tx (.string s) s.size (bv (sb s)) w := Src.ofString w hk s
theorem Rd.i64 {w : World} {A : Option Addr} {n : Nat} {xs : List Int} (h : Rd w A n 1 (iv xs)) (hn : 0 < n) : ∃ g o, A = some ⟨g, o, none⟩ ∧ ∀ j, j < n → w.cell? ⟨g, o + j, none⟩ = some (.int .i64 (xs.getD j 0)) := by
  obtain ⟨g, o, e, hc⟩ := h.cells hn
  have hl := h.len
  rw [iv_length] at hl
  refine ⟨g, o, e, fun j hj => hc j _ ?_⟩
  simp [iv, List.getElem?_eq_getElem (show j < xs.length by omega), List.getD_eq_getElem?_getD]
theorem Rd.u8 {w : World} {A : Option Addr} {n : Nat} {xs : List UInt8} (h : Rd w A n 1 (bv xs)) (hn : 0 < n) : ∃ g o, A = some ⟨g, o, none⟩ ∧ ∀ j, j < n → w.cell? ⟨g, o + j, none⟩ = some (.int .u8 ((xs.getD j 0).toNat : Int)) := by
  obtain ⟨g, o, e, hc⟩ := h.cells hn
  have hl := h.len
  rw [bv_length] at hl
  refine ⟨g, o, e, fun j hj => hc j _ ?_⟩
  simp [bv, List.getElem?_eq_getElem (show j < xs.length by omega), List.getD_eq_getElem?_getD]

/-- One element of a row of ints, in a later world. -/
theorem Rd.i64_at {w w1 : World} {A : Option Addr} {n : Nat} {xs : List Int} (h : Rd w A n 1 (iv xs)) (hb : Below w.heap.size w w1) {k : Nat} (hk : k < n) :
    ∃ g o x, A = some ⟨g, o, none⟩ ∧ w1.cell? ⟨g, o + k, none⟩ = some (.int .i64 x) ∧ xs[k]? = some x := by
  obtain ⟨g, o, e, hc⟩ := (h.below hb).i64 (by omega)
  have hl := h.len
  rw [iv_length] at hl
  refine ⟨g, o, _, e, hc k hk, ?_⟩
  rw [List.getElem?_eq_getElem (show k < xs.length by omega), List.getD_eq_getElem?_getD, List.getElem?_eq_getElem (show k < xs.length by omega)]; rfl
theorem Rd.u8_at {w w1 : World} {A : Option Addr} {n : Nat} {xs : List UInt8} (h : Rd w A n 1 (bv xs)) (hb : Below w.heap.size w w1) {k : Nat} (hk : k < n) :
    ∃ g o x, A = some ⟨g, o, none⟩ ∧ w1.cell? ⟨g, o + k, none⟩ = some (.int .u8 (x.toNat : Int)) ∧ xs[k]? = some x := by
  obtain ⟨g, o, e, hc⟩ := (h.below hb).u8 (by omega)
  have hl := h.len
  rw [bv_length] at hl
  refine ⟨g, o, _, e, hc k hk, ?_⟩
  rw [List.getElem?_eq_getElem (show k < xs.length by omega), List.getD_eq_getElem?_getD, List.getElem?_eq_getElem (show k < xs.length by omega)]; rfl
theorem take_flat {α β : Type} (f : α → List β) {xs : List α} {k : Nat} {x : α} (h : xs[k]? = some x) : (xs.take (k + 1)).flatMap f = (xs.take k).flatMap f ++ f x := by
  rw [List.take_add_one, h]; simp

theorem tup3 {a b c a' b' c' : Int} (h1 : a = a') (h2 : b = b') (h3 : c = c') : Ending.returned (.tuple #[.int .i64 a, .int .i64 b, .int .i64 c]) = .returned (.tuple #[.int .i64 a', .int .i64 b', .int .i64 c']) := by rw [h1, h2, h3]
theorem tup2v {v : Value} {b c b' c' : Int} (h2 : b = b') (h3 : c = c') : Ending.returned (.tuple #[v, .int .i64 b, .int .i64 c]) = .returned (.tuple #[v, .int .i64 b', .int .i64 c']) := by rw [h2, h3]

/-! ### Numbers -/
theorem bits_xor_nat (k : IntKind) (j : Nat) (hj : j ≤ k.bits) (hk : ∀ n : Int, 0 ≤ n → n < 2 ^ j → k.wrap n = n) (a b : Nat) (ha : a < 2 ^ j) (hb : b < 2 ^ j) :
    bits .xor k a b = ((a ^^^ b : Nat) : Int) := by
  have hp : 2 ^ j ≤ 2 ^ k.bits := Nat.pow_le_pow_right (by decide) hj
  have ha' : a % 2 ^ k.bits = a := Nat.mod_eq_of_lt (Nat.lt_of_lt_of_le ha hp)
  have hb' : b % 2 ^ k.bits = b := Nat.mod_eq_of_lt (Nat.lt_of_lt_of_le hb hp)
  have cast : ∀ n : Nat, n < 2 ^ j → ((n : Nat) : Int) < 2 ^ j := fun n h => by exact_mod_cast h
  simp only [bits, BitVec.ofInt_natCast, BitVec.toNat_xor, BitVec.toNat_ofNat, ha', hb']
  exact hk _ (Int.natCast_nonneg _) (cast _ (Nat.xor_lt_two_pow ha hb))
theorem xor_u8 (a b : Nat) (ha : a < 256) (hb : b < 256) : bits .xor .u8 (a : Int) (b : Int) = ((a ^^^ b : Nat) : Int) :=
  bits_xor_nat .u8 8 (by decide) (fun n h0 h1 => by rw [IntKind.wrap_u8]; omega) a b ha hb
theorem xor_255 (a : Nat) (ha : a < 256) : a ^^^ 255 = 255 - a := by
  have : ∀ a : Fin 256, a.val ^^^ 255 = 255 - a.val := by decide +kernel
  exact this ⟨a, ha⟩
theorem xor0 {x : Int} (h0 : 0 ≤ x) (h1 : x < 256) : bits .xor .u8 x 0 = x := by
  obtain ⟨n, rfl⟩ := Int.eq_ofNat_of_zero_le h0
  have := xor_u8 n 0 (by omega) (by omega)
  simpa using this
theorem xor255 {x : Int} (h0 : 0 ≤ x) (h1 : x < 256) : bits .xor .u8 x 255 = 255 - x := by
  obtain ⟨n, rfl⟩ := Int.eq_ofNat_of_zero_le h0
  have := xor_u8 n 255 (by omega) (by omega)
  rw [xor_255 n (by omega)] at this
  rw [show ((255 : Int)) = ((255 : Nat) : Int) from rfl, this]
  omega
theorem pow_256 (k : Nat) : (2 : Nat) ^ (8 * k) = 256 ^ k := by rw [Nat.pow_mul]
theorem shr_256 (m k : Nat) : (m : Int) / 2 ^ (8 * k) = ((m / 256 ^ k : Nat) : Int) := by
  rw [← pow_256]; simp
theorem not_nat (m : Nat) (h : m < 2 ^ 64) : (2 ^ 64 - 1) ^^^ (2 ^ 64 - 1 - m) = m := by
  have h1 : (BitVec.allOnes 64 ^^^ BitVec.ofNat 64 (2 ^ 64 - 1 - m)).toNat = m := by
    rw [← BitVec.not_def, BitVec.toNat_not]
    simp only [BitVec.toNat_ofNat]
    omega
  rw [BitVec.toNat_xor, BitVec.toNat_allOnes, BitVec.toNat_ofNat, Nat.mod_eq_of_lt (by omega)] at h1
  exact h1
/-- '^uint64(n)' of n = -1 - m. -/
theorem not_u64 (m : Nat) (h : m ≤ 9223372036854775807) : bits .xor .u64 IntKind.u64.max (IntKind.u64.wrap (-1 - (m : Int))) = (m : Int) := by
  have e1 : IntKind.u64.wrap (-1 - (m : Int)) = ((2 ^ 64 - 1 - m : Nat) : Int) := by simp [IntKind.wrap, IntKind.bits, IntKind.signed]; omega
  have e2 : IntKind.u64.max = ((2 ^ 64 - 1 : Nat) : Int) := rfl
  rw [e1, e2, bits_xor_u64_nat _ _ (by omega) (by omega), not_nat m (by omega)]
theorem not_wrap (v : Nat) (h : v < 9223372036854775808) : wrap64 (bits .xor .u64 IntKind.u64.max (v : Int)) = -1 - (v : Int) := by
  have e2 : IntKind.u64.max = ((2 ^ 64 - 1 : Nat) : Int) := rfl
  have e := not_nat (2 ^ 64 - 1 - v) (by omega)
  rw [show 2 ^ 64 - 1 - (2 ^ 64 - 1 - v) = v by omega] at e
  rw [e2, bits_xor_u64_nat _ _ (by omega) (by omega), e]
  unfold wrap64
  omega
theorem byte_of (m k : Nat) : (m : Int) / 2 ^ (8 * k) % 256 = ((UInt8.ofNat (m / 256 ^ k)).toNat : Int) := by
  rw [shr_256]
  simp only [UInt8.toNat_ofNat']
  omega
end Go.Cw
/-! More laws at single operations: slices of slices, strings of bytes, elements. -/
namespace Go.Cw
open Go.RowKit
section
variable {P : Program} {ops : Array Oper} {Q : Exit → Act → World → Prop} {rest : List Oper} {a : Act} {w : World} {d : Option Tmp} {ty : TypeId} {pos : String} {af : Array Edge}

theorem at_slice_run {t : TypeId} {x : Operand} {lo hi mx : Option Operand} {v : Value} {w' : World}
    (h : (Instr.sliceAt t (a.eval x) (lo.map a.eval) (hi.map a.eval) (mx.map a.eval)).run P w = .ok v w') (k : wpList P ops Q rest (a.put d v) w') :
    StopAt P ops Q ⟨d, .slice t x lo hi mx, ty, pos, af, none⟩ rest a w :=
  at_val rfl (by simp only [execOp, Sem.run_bind, h, Result.andThen_ok, Sem.run_pure]) k
theorem at_convert_run {s t : TypeId} {x : Operand} {v : Value} {w' : World} (h : (convert s t (a.eval x)).run P w = .ok v w') (k : wpList P ops Q rest (a.put d v) w') :
    StopAt P ops Q ⟨d, .convert s t x, ty, pos, af, none⟩ rest a w :=
  at_val rfl (by simp only [execOp, Sem.run_bind, h, Result.andThen_ok, Sem.run_pure]) k
theorem at_indexAddr_run {t : TypeId} {x i : Operand} {v : Value} {w' : World} (h : (Instr.indexAt t (a.eval x) (a.eval i)).run P w = .ok v w') (k : wpList P ops Q rest (a.put d v) w') :
    StopAt P ops Q ⟨d, .indexAddr t x i, ty, pos, af, none⟩ rest a w :=
  at_val rfl (by simp only [execOp, Sem.run_bind, h, Result.andThen_ok, Sem.run_pure]) k
theorem at_index_run {t : TypeId} {x i : Operand} {v : Value} {w' : World} (h : (Instr.index t (a.eval x) (a.eval i)).run P w = .ok v w') (k : wpList P ops Q rest (a.put d v) w') :
    StopAt P ops Q ⟨d, .index t x i, ty, pos, af, none⟩ rest a w :=
  at_val rfl (by simp only [execOp, Sem.run_bind, h, Result.andThen_ok, Sem.run_pure]) k
theorem at_load_run {t : TypeId} {x : Operand} {v : Value} {w' : World} (h : (Instr.loadAt t (a.eval x)).run P w = .ok v w') (k : wpList P ops Q rest (a.put d v) w') :
    StopAt P ops Q ⟨d, .load t x, ty, pos, af, none⟩ rest a w :=
  at_val rfl (by simp only [execOp, Sem.run_bind, h, Result.andThen_ok, Sem.run_pure]) k
theorem at_toArray_run {t : TypeId} {x : Operand} {v : Value} {w' : World} (h : (Instr.arrayAt t (a.eval x)).run P w = .ok v w') (k : wpList P ops Q rest (a.put d v) w') :
    StopAt P ops Q ⟨d, .sliceToArrayPointer t x, ty, pos, af, none⟩ rest a w :=
  at_val rfl (by simp only [execOp, Sem.run_bind, h, Result.andThen_ok, Sem.run_pure]) k
theorem at_build_run {t : TypeId} {ps : Array (Nat × Operand)} {v : Value} {w' : World} (h : (Instr.build t (ps.map fun (i, x) => (i, a.eval x))).run P w = .ok v w') (k : wpList P ops Q rest (a.put d v) w') :
    StopAt P ops Q ⟨d, .build t ps, ty, pos, af, none⟩ rest a w :=
  at_val rfl (by simp only [execOp, Sem.run_bind, h, Result.andThen_ok, Sem.run_pure]) k
theorem at_buildSlice_run {t : TypeId} {n : Nat} {ps : Array (Nat × Operand)} {v : Value} {w' : World} (h : (Instr.buildSlice t n (ps.map fun (i, x) => (i, a.eval x))).run P w = .ok v w') (k : wpList P ops Q rest (a.put d v) w') :
    StopAt P ops Q ⟨d, .buildSlice t n ps, ty, pos, af, none⟩ rest a w :=
  at_val rfl (by simp only [execOp, Sem.run_bind, h, Result.andThen_ok, Sem.run_pure]) k
theorem at_box_run {t : TypeId} {x : Operand} {v : Value} {w' : World} (h : (Instr.box t (a.eval x)).run P w = .ok v w') (k : wpList P ops Q rest (a.put d v) w') :
    StopAt P ops Q ⟨d, .box t x, ty, pos, af, none⟩ rest a w :=
  at_val rfl (by simp only [execOp, Sem.run_bind, h, Result.andThen_ok, Sem.run_pure]) k
theorem at_binOp_run {op : BinOp} {t t' : TypeId} {x y : Operand} {v : Value} {w' : World} (h : (do eqGuard op t x y (a.eval x) (a.eval y); binOp op t (a.eval x) (a.eval y)).run P w = .ok v w') (k : wpList P ops Q rest (a.put d v) w') :
    StopAt P ops Q ⟨d, .binOp op t x y t', ty, pos, af, none⟩ rest a w :=
  at_val rfl (by
    have h' := h
    simp only [Sem.run_bind] at h'
    simp only [execOp, Sem.run_bind, h', Result.andThen_ok, Sem.run_pure]) k

/-! ### A slice of a slice -/
theorem run_bound (x : Int) (k : IntKind) (y : Nat) (code : BoundsCode) (h0 : 0 ≤ x) (h1 : x ≤ y) : (Instr.sliceBound (.int k x) y code).run P w = .ok x.toNat w := by
  simp [Instr.sliceBound, asIntOf, h0, h1]
theorem run_slice_lohi {t e : TypeId} {i : TypeInfo} (ht : P.underlying t = some (.slice e)) (hi : P.info? e = some i) (A : Option Addr) (n c : Nat) (l h : Nat) (hlh : l ≤ h) (hc : h ≤ c) :
    (Instr.sliceAt t (.slice A n c) (some (.int .i64 l)) (some (.int .i64 h)) none).run P w = .ok (.slice (if c = l then A else A.map (·.add (l * i.size))) (h - l) (c - l)) w := by
  simp [Instr.sliceAt, Instr.slice, Instr.sliceBounds, run_underlying ht, sizeOf, typeInfo, hi, run_bound (P := P) (w := w) (h : Int) .i64 c .sliceAcap (by omega) (by omega),
    run_bound (P := P) (w := w) (l : Int) .i64 h .sliceB (by omega) (by omega)]
theorem run_slice_hi {t e : TypeId} {i : TypeInfo} (ht : P.underlying t = some (.slice e)) (hi : P.info? e = some i) (A : Option Addr) (n c : Nat) (h : Nat) (hc : h ≤ c) :
    (Instr.sliceAt t (.slice A n c) none (some (.int .i64 h)) none).run P w = .ok (.slice (if c = 0 then A else A.map (·.add (0 * i.size))) h c) w := by
  simp [Instr.sliceAt, Instr.slice, Instr.sliceBounds, run_underlying ht, sizeOf, typeInfo, hi, run_bound (P := P) (w := w) (h : Int) .i64 c .sliceAcap (by omega) (by omega)]
theorem run_slice_lo {t e : TypeId} {i : TypeInfo} (ht : P.underlying t = some (.slice e)) (hi : P.info? e = some i) (A : Option Addr) (n c : Nat) (l : Nat) (hl : l ≤ n) :
    (Instr.sliceAt t (.slice A n c) (some (.int .i64 l)) none none).run P w = .ok (.slice (if c = l then A else A.map (·.add (l * i.size))) (n - l) (c - l)) w := by
  simp [Instr.sliceAt, Instr.slice, Instr.sliceBounds, run_underlying ht, sizeOf, typeInfo, hi, run_bound (P := P) (w := w) (l : Int) .i64 n .sliceB (by omega) (by omega)]
/-- The elements from l to h of a row that is read. -/
theorem Rd.sub {A : Option Addr} {n c size : Nat} {xs : List Value} (h : Rd w A n size xs) (hnc : n ≤ c) (l u : Nat) (hlu : l ≤ u) (hu : u ≤ n) :
    Rd w (if c = l then A else A.map (·.add (l * size))) (u - l) size ((xs.drop (l * size)).take ((u - l) * size)) := by
  have hlen := h.len
  have hmul : u * size ≤ n * size := Nat.mul_le_mul_right _ hu
  have hsub : (u - l) * size = u * size - l * size := Nat.sub_mul _ _ _
  refine ⟨?_, by have := h.max; omega, fun hn => ?_⟩
  · rw [List.length_take, List.length_drop]; omega
  · obtain ⟨g, o, rfl, hc⟩ := h.cells (by omega)
    rw [if_neg (by omega)]
    refine ⟨g, o + l * size, by simp [Addr.add_lit], fun j x hx => ?_⟩
    rw [List.getElem?_take] at hx
    split at hx
    · rw [List.getElem?_drop] at hx
      rw [Nat.add_assoc]
      exact hc _ _ hx
    · cases hx
theorem Rd.take {A : Option Addr} {n size : Nat} {xs : List Value} (h : Rd w A n size xs) {u : Nat} (hu : u ≤ n) : Rd w A u size (xs.take (u * size)) := by
  have hmul : u * size ≤ n * size := Nat.mul_le_mul_right _ hu
  refine ⟨by rw [List.length_take, h.len]; omega, by have := h.max; omega, fun hn => ?_⟩
  obtain ⟨g, o, e, hc⟩ := h.cells (by omega)
  refine ⟨g, o, e, fun j x hx => hc j x ?_⟩
  rw [List.getElem?_take] at hx
  split at hx
  · exact hx
  · cases hx
theorem at_slice_lohi {t e : TypeId} {z : Value} {size bytes : Nat} (hE : Elt P t e z size bytes) {x lo hi : Operand} {A : Option Addr} {n c l u : Nat} (hx : a.eval x = .slice A n c) {li ui : Int} (hlo : a.eval lo = .int .i64 li) (hli : li = (l : Int)) (hhi : a.eval hi = .int .i64 ui) (hui : ui = (u : Int))
    {xs : List Value} (hrd : Rd w A n size xs) (hnc : n ≤ c) (hlu : l ≤ u) (hu : u ≤ n)
    (k : ∀ A', Rd w A' (u - l) size ((xs.drop (l * size)).take ((u - l) * size)) → wpList P ops Q rest (a.put d (.slice A' (u - l) (c - l))) w) :
    StopAt P ops Q ⟨d, .slice t x (some lo) (some hi) none, ty, pos, af, none⟩ rest a w := by
  obtain ⟨i, hi', hz, rfl, rfl⟩ := info_parts hE.hi
  exact at_slice_run (by simp only [Option.map_some, Option.map_none, hx, hlo, hhi, hli, hui]; exact run_slice_lohi hE.ht hi' A n c l u hlu (by omega)) (k _ (hrd.sub hnc l u hlu hu))
theorem at_slice_hi {t e : TypeId} {z : Value} {size bytes : Nat} (hE : Elt P t e z size bytes) {x hi : Operand} {A : Option Addr} {n c u : Nat} (hx : a.eval x = .slice A n c) {ui : Int} (hhi : a.eval hi = .int .i64 ui) (hui : ui = (u : Int))
    {xs : List Value} (hrd : Rd w A n size xs) (hnc : n ≤ c) (hu : u ≤ n)
    (k : ∀ A', Rd w A' u size (xs.take (u * size)) → wpList P ops Q rest (a.put d (.slice A' u c)) w) :
    StopAt P ops Q ⟨d, .slice t x none (some hi) none, ty, pos, af, none⟩ rest a w := by
  obtain ⟨i, hi', hz, rfl, rfl⟩ := info_parts hE.hi
  have := hrd.sub hnc 0 u (by omega) hu
  simp only [Nat.zero_mul, List.drop_zero, Nat.sub_zero] at this
  exact at_slice_run (by simp only [Option.map_some, Option.map_none, hx, hhi, hui]; exact run_slice_hi hE.ht hi' A n c u (by omega)) (k _ (by simpa using this))
theorem at_slice_lo {t e : TypeId} {z : Value} {size bytes : Nat} (hE : Elt P t e z size bytes) {x lo : Operand} {A : Option Addr} {n c l : Nat} (hx : a.eval x = .slice A n c) {li : Int} (hlo : a.eval lo = .int .i64 li) (hli : li = (l : Int))
    {xs : List Value} (hrd : Rd w A n size xs) (hnc : n ≤ c) (hl : l ≤ n)
    (k : ∀ A', Rd w A' (n - l) size (xs.drop (l * size)) → wpList P ops Q rest (a.put d (.slice A' (n - l) (c - l))) w) :
    StopAt P ops Q ⟨d, .slice t x (some lo) none none, ty, pos, af, none⟩ rest a w := by
  obtain ⟨i, hi', hz, rfl, rfl⟩ := info_parts hE.hi
  have := hrd.sub hnc l n (by omega) (by omega)
  rw [List.take_of_length_le (by rw [List.length_drop, hrd.len, Nat.sub_mul]; omega)] at this
  exact at_slice_run (by simp only [Option.map_some, Option.map_none, hx, hlo, hli]; exact run_slice_lo hE.ht hi' A n c l hl) (k _ this)

/-- The same, the reading carried to whatever world. -/
theorem at_slice_lohi_f {t e : TypeId} {z : Value} {size bytes : Nat} (hE : Elt P t e z size bytes) {x lo hi : Operand} {A : Option Addr} {n c l u : Nat} (hx : a.eval x = .slice A n c) {li ui : Int} (hlo : a.eval lo = .int .i64 li) (hli : li = (l : Int)) (hhi : a.eval hi = .int .i64 ui) (hui : ui = (u : Int))
    (hnc : n ≤ c) (hlu : l ≤ u) (hu : u ≤ n)
    (k : ∀ A', (∀ w1 ys, Rd w1 A n size ys → Rd w1 A' (u - l) size ((ys.drop (l * size)).take ((u - l) * size))) → wpList P ops Q rest (a.put d (.slice A' (u - l) (c - l))) w) :
    StopAt P ops Q ⟨d, .slice t x (some lo) (some hi) none, ty, pos, af, none⟩ rest a w := by
  obtain ⟨i, hi', hz, rfl, rfl⟩ := info_parts hE.hi
  exact at_slice_run (by simp only [Option.map_some, Option.map_none, hx, hlo, hhi, hli, hui]; exact run_slice_lohi hE.ht hi' A n c l u hlu (by omega)) (k _ fun w1 ys h => h.sub hnc l u hlu hu)
theorem at_slice_hi_f {t e : TypeId} {z : Value} {size bytes : Nat} (hE : Elt P t e z size bytes) {x hi : Operand} {A : Option Addr} {n c u : Nat} (hx : a.eval x = .slice A n c) {ui : Int} (hhi : a.eval hi = .int .i64 ui) (hui : ui = (u : Int))
    (hnc : n ≤ c) (hu : u ≤ n)
    (k : ∀ A', (∀ w1 ys, Rd w1 A n size ys → Rd w1 A' u size (ys.take (u * size))) → wpList P ops Q rest (a.put d (.slice A' u c)) w) :
    StopAt P ops Q ⟨d, .slice t x none (some hi) none, ty, pos, af, none⟩ rest a w := by
  obtain ⟨i, hi', hz, rfl, rfl⟩ := info_parts hE.hi
  refine at_slice_run (by simp only [Option.map_some, Option.map_none, hx, hhi, hui]; exact run_slice_hi hE.ht hi' A n c u (by omega)) (k _ fun w1 ys h => ?_)
  have := h.sub hnc 0 u (by omega) hu
  simp only [Nat.zero_mul, List.drop_zero, Nat.sub_zero] at this
  simpa using this
theorem at_slice_lo_f {t e : TypeId} {z : Value} {size bytes : Nat} (hE : Elt P t e z size bytes) {x lo : Operand} {A : Option Addr} {n c l : Nat} (hx : a.eval x = .slice A n c) {li : Int} (hlo : a.eval lo = .int .i64 li) (hli : li = (l : Int))
    (hnc : n ≤ c) (hl : l ≤ n)
    (k : ∀ A', (∀ w1 ys, Rd w1 A n size ys → Rd w1 A' (n - l) size (ys.drop (l * size))) → wpList P ops Q rest (a.put d (.slice A' (n - l) (c - l))) w) :
    StopAt P ops Q ⟨d, .slice t x (some lo) none none, ty, pos, af, none⟩ rest a w := by
  obtain ⟨i, hi', hz, rfl, rfl⟩ := info_parts hE.hi
  refine at_slice_run (by simp only [Option.map_some, Option.map_none, hx, hlo, hli]; exact run_slice_lo hE.ht hi' A n c l hl) (k _ fun w1 ys h => ?_)
  have := h.sub hnc l n (by omega) (by omega)
  rwa [List.take_of_length_le (by rw [List.length_drop, h.len, Nat.sub_mul]; omega)] at this

/-! ### string(b) -/
theorem run_str {src e dst : TypeId} (hs : P.underlying src = some (.slice e)) (he : P.underlying e = some (.int .u8)) (hd : P.underlying dst = some .string) {A : Option Addr} {n : Nat} (c : Nat) {bs : List UInt8} (hrd : Rd w A n 1 (bv bs)) :
    (convert src dst (.slice A n c)).run P w = .ok (.string ⟨bs.toArray⟩) w := by
  have hl := hrd.len
  rw [bv_length, Nat.mul_one] at hl
  rcases Nat.eq_zero_or_pos n with hn | hn
  · subst hn
    obtain rfl : bs = [] := List.eq_nil_of_length_eq_zero hl
    rw [run_convert_bytes_string w src dst e _ 0 c hs he hd]
    cases A <;> rfl
  · obtain ⟨g, o, rfl, hc⟩ := hrd.u8 hn
    rw [run_convert_bytes_arg w src e hs he g o n c (bs.map fun b => (b.toNat : Int)) (by simpa using hl) ?_ dst hd]
    · congr 3
      unfold strOfNums
      congr 2
      rw [List.map_map]
      conv => rhs; rw [← List.map_id bs]
      apply List.map_congr_left
      intro b _
      simp
    · intro i hi
      rw [hc i hi]
      simp [List.getD_eq_getElem?_getD, List.getElem?_map, List.getElem?_eq_getElem (show i < bs.length by omega)]
theorem at_str {src e dst : TypeId} (hs : P.underlying src = some (.slice e)) (he : P.underlying e = some (.int .u8)) (hd : P.underlying dst = some .string) {x : Operand} {A : Option Addr} {n c : Nat} (hx : a.eval x = .slice A n c) {bs : List UInt8} (hrd : Rd w A n 1 (bv bs))
    (k : wpList P ops Q rest (a.put d (.string ⟨bs.toArray⟩)) w) : StopAt P ops Q ⟨d, .convert src dst x, ty, pos, af, none⟩ rest a w :=
  at_convert_run (by rw [hx]; exact run_str hs he hd c hrd) k

/-! ### []byte(s) -/
theorem bytesRow_take (s : ByteArray) (c : Nat) (h : s.size ≤ c) : ∀ (j : Nat) (u : Value), (bv (sb s))[j]? = some u → (bytesRow s c).toList[j]? = some u := by
  intro j u hu
  have hj : j < (sb s).length := by
    have := (List.getElem?_eq_some_iff.1 hu).1
    rwa [bv_length] at this
  have hj' : j < s.data.size := by rwa [Array.length_toList] at hj
  simp only [bv, List.getElem?_map, List.getElem?_eq_getElem hj, Option.map_some, Option.some.injEq] at hu
  rw [← hu]
  simp only [bytesRow, Array.toList_append, Array.toList_map, Array.toList_replicate]
  rw [List.getElem?_append_left (by simpa using hj'), List.getElem?_map, List.getElem?_eq_getElem (by simpa using hj')]
  rfl
theorem at_bytes {src dst e : TypeId} (hs : P.underlying src = some .string) (hd : P.underlying dst = some (.slice e)) (he : P.underlying e = some (.int .u8)) {x : Operand} {s : ByteArray} (hx : a.eval x = .string s) (hm : s.size ≤ 9223372036854775807)
    (k : ∀ A c w', Rd w' A s.size 1 (bv (sb s)) → s.size ≤ c → Below w.heap.size w w' → wpList P ops Q rest (a.put d (.slice A s.size c)) w') :
    StopAt P ops Q ⟨d, .convert src dst x, ty, pos, af, none⟩ rest a w := by
  have hge := grownCap_ge w s.size 0 e
  refine at_convert_run (by rw [hx]; exact run_bytes_of_string (P := P) w src dst e s hs hd he) (k _ _ _ ⟨?_, hm, fun _ => ⟨w.heap.size, 0, rfl, fun j u hu => ?_⟩⟩ hge ?_)
  · rw [bv_length, sb_length, Nat.mul_one]
  · rw [Nat.zero_add]
    have h1 := World.news_of_block (w := w.drew.alloc (.cells (bytesRow s (grownCap w s.size 0 e)) e ((bytesRow s (grownCap w s.size 0 e)).size, (bytesRow s (grownCap w s.size 0 e)).size + 1))) (World.heap_new w.drew _) j u (bytesRow_take s _ hge j u hu)
    rwa [Addr.add_lit, Nat.zero_add] at h1
  · exact (Below.drew (Below.refl _ _)).alloc (Nat.le_refl _) _
end

/-! ### A block that is known whole -/
def Blk (w : World) (g : Nat) (T : TypeId) (cs : List Value) : Prop := w.heap[g]? = some (.cells cs.toArray T (0, 0))
section
variable {w w1 : World} {g g' j : Nat} {T : TypeId} {cs : List Value} {v : Value}
theorem Blk.cell (h : Blk w g T cs) (hj : cs[j]? = some v) : w.cell? ⟨g, j, none⟩ = some v := by
  unfold Blk at h
  simp [World.cell?, h, hj]
theorem Blk.free (h : Blk w g T cs) (j : Nat) : w.frozen? ⟨g, j, none⟩ = false := by
  unfold Blk at h
  simp [World.frozen?, h]
theorem Blk.lt (h : Blk w g T cs) : g < w.heap.size := lt_of_block h
theorem Blk.set (h : Blk w g T cs) (j : Nat) (v : Value) : Blk (w.setCell ⟨g, j, none⟩ v) g T (cs.set j v) := by
  have hlt := h.lt
  unfold Blk at *
  have h' : w.heap[g] = .cells cs.toArray T (0, 0) := by simpa [Array.getElem?_eq_getElem hlt] using h
  show (w.heap.modify g _)[g]? = _
  rw [Array.getElem?_eq_getElem (by simpa using hlt), Array.getElem_modify_self, h']
  simp
theorem Blk.other (h : Blk w g T cs) (hne : g ≠ g') (j : Nat) (v : Value) : Blk (w.setCell ⟨g', j, none⟩ v) g T cs := by
  unfold Blk at *
  rw [Below.heap_setCell _ _ _ _ (by simpa using hne)]
  exact h
theorem Blk.below (h : Blk w g T cs) (hb : Below w.heap.size w w1) : Blk w1 g T cs := by
  have hlt := h.lt
  unfold Blk at *
  rw [hb.block g hlt, h]
theorem Blk.below_at {B : Nat} (h : Blk w g T cs) (hb : Below B w w1) (hlt : g < B) : Blk w1 g T cs := by
  unfold Blk at *
  rw [hb.block g hlt, h]
theorem Blk.alloc (h : Blk w g T cs) (o : Obj) : Blk (w.alloc o) g T cs := h.below ((Below.refl _ _).alloc (Nat.le_refl _) o)
theorem Blk.drw (h : Blk w g T cs) (hd : Drw w w1) : Blk w1 g T cs := h.below hd.below
theorem Blk.new (w : World) (T : TypeId) (cs : List Value) : Blk (w.alloc (.cells cs.toArray T)) w.heap.size T cs := World.heap_new w _
end
def uv (xs : List Nat) : List Value := xs.map fun x : Nat => .int .u32 (x : Int)
theorem bv_take (bs : List UInt8) (n : Nat) : (bv bs).take n = bv (bs.take n) := by simp [bv, List.map_take]
theorem bv_drop (bs : List UInt8) (n : Nat) : (bv bs).drop n = bv (bs.drop n) := by simp [bv, List.map_drop]
theorem iv_take (bs : List Int) (n : Nat) : (iv bs).take n = iv (bs.take n) := by simp [iv, List.map_take]
theorem iv_drop (bs : List Int) (n : Nat) : (iv bs).drop n = iv (bs.drop n) := by simp [iv, List.map_drop]
theorem sb_mk (bs : List UInt8) : sb ⟨bs.toArray⟩ = bs := rfl
end Go.Cw
/-! Laws on whole arrays and structs in memory. -/
namespace Go.Cw
open Go.RowKit
/-- A type whose values are aggregates of n cells. -/
def isAggD : TypeDesc → Bool
  | .struct _ => true
  | .array _ _ => true
  | _ => false
structure AggT (P : Program) (T : TypeId) (n : Nat) : Prop where
  agg : (P.underlying T).map isAggD = some true
  size : (P.info? T).map (·.size) = some n
section
variable {P : Program} {w : World} {T : TypeId} {n : Nat}
theorem AggT.run_isAgg (h : AggT P T n) (w : World) : (isAgg T).run P w = .ok true w := by
  have ha := h.agg
  cases hd : P.underlying T with
  | none => rw [hd] at ha; cases ha
  | some d =>
    rw [hd] at ha
    simp only [Option.map_some, Option.some.injEq] at ha
    cases d <;> simp [isAggD] at ha <;> simp [isAgg, run_underlying hd]
theorem AggT.run_size (h : AggT P T n) (w : World) : (sizeOf T).run P w = .ok n w := by
  have hs := h.size
  cases hd : P.info? T with
  | none => rw [hd] at hs; cases hs
  | some i =>
    rw [hd] at hs
    simp only [Option.map_some, Option.some.injEq] at hs
    simp [sizeOf, typeInfo, hd, hs]
theorem run_loadVar_agg (h : AggT P T n) {g o : Nat} {cs : List Value} (hl : cs.length = n) (hc : ∀ j v, cs[j]? = some v → w.cell? ⟨g, o + j, none⟩ = some v) :
    (loadVar T ⟨g, o, none⟩).run P w = .ok (.agg cs.toArray) w := by
  have h1 := run_loadCells_list (P := P) w ⟨g, o, none⟩ cs (fun j v hj => by rw [Addr.add_lit]; exact hc j v hj)
  rw [hl] at h1
  simp [loadVar, h.run_isAgg, h.run_size, h1]
theorem run_loadVar_blk (h : AggT P T n) {g : Nat} {T' : TypeId} {cs : List Value} (hl : cs.length = n) (hb : Blk w g T' cs) : (loadVar T ⟨g, 0, none⟩).run P w = .ok (.agg cs.toArray) w :=
  run_loadVar_agg h hl fun j v hj => by rw [Nat.zero_add]; exact hb.cell hj
theorem run_storeVar_blk (h : AggT P T n) {g o : Nat} {T' : TypeId} {cs vs : List Value} (hl : vs.length = n) (hb : Blk w g T' cs) (hfit : o + n ≤ cs.length) (h1 : ∀ v ∈ vs, v.oneCell' = true) :
    (storeVar T ⟨g, o, none⟩ (.agg vs.toArray)).run P w = .ok () (w.setRow g (cs.take o ++ vs ++ cs.drop (o + n)).toArray) := by
  have h2 := run_storeCells_at P g o T' vs 0 cs.toArray w hb (by simp; omega) h1
  simp only [Nat.add_zero] at h2
  have hv : (Value.agg vs.toArray).cells = vs.toArray := rfl
  subst hl
  simp [storeVar, h.run_size, hv, h2]
theorem Blk.setRow {g : Nat} {T' : TypeId} {cs vs : List Value} (hb : Blk w g T' cs) : Blk (w.setRow g vs.toArray) g T' vs := setRow_heap w g cs.toArray vs.toArray T' _ hb
theorem Blk.setRow_other {g g' : Nat} {T' : TypeId} {cs : List Value} (hb : Blk w g T' cs) (hne : g ≠ g') (vs : Array Value) : Blk (w.setRow g' vs) g T' cs := by
  unfold Blk at *
  rw [Go.setRow_other _ _ _ _ hne]; exact hb
theorem below_setRow {B g : Nat} {w0 : World} (hb : Below B w0 w) (hB : B ≤ g) (cs : Array Value) : Below B w0 (w.setRow g cs) :=
  hb.trans ⟨rfl, rfl, rfl, by simp [World.setRow], fun k hk => Go.setRow_other w g k cs (by omega)⟩
theorem size_setRow (w : World) (g : Nat) (cs : Array Value) : (w.setRow g cs).heap.size = w.heap.size := by simp [World.setRow]
theorem results_cell {fn : Func} {t : Tmp} (hr : fn.results = #[.cell t T]) (h : AggT P T n) {tmps : Array Value} {g o : Nat} (ht : tmps.getD t undef = .pointer (some ⟨g, o, none⟩)) {cs : List Value} (hl : cs.length = n)
    (hc : ∀ j v, cs[j]? = some v → w.cell? ⟨g, o + j, none⟩ = some v) : (results fn tmps).run P w = .ok (.agg cs.toArray) w := by
  have h1 := run_loadVar_agg h hl hc
  have ht' : tmps[t]?.getD undef = .pointer (some ⟨g, o, none⟩) := by simpa using ht
  simp [results, hr, ht', asAddr, h1]
/-- The end of a body whose result lies in memory. -/
theorem ret_blk {fn : Func} {R : Ending → World → Prop} {a : Act} {t : Tmp} (hr : fn.results = #[.cell t T]) (h : AggT P T n) {g : Nat} {T' : TypeId} {cs : List Value} (ht : a.tmps.getD t undef = .pointer (some ⟨g, 0, none⟩)) (hl : cs.length = n) (hb : Blk w g T' cs)
    (hd : a.defers = []) (hR : R (.returned (.agg cs.toArray)) w) : bodyPost P fn R .ret a w :=
  bodyPost_ret (results_cell hr h ht hl fun j v hj => by rw [Nat.zero_add]; exact hb.cell hj) hd hR

variable {ops : Array Oper} {Q : Exit → Act → World → Prop} {rest : List Oper} {a : Act} {d : Option Tmp} {ty : TypeId} {pos : String} {af : Array Edge}
theorem at_load_blk (h : AggT P T n) {x : Operand} {g : Nat} {T' : TypeId} {cs : List Value} (hx : a.eval x = .pointer (some ⟨g, 0, none⟩)) (hl : cs.length = n) (hb : Blk w g T' cs)
    (k : wpList P ops Q rest (a.put d (.agg cs.toArray)) w) : StopAt P ops Q ⟨d, .load T x, ty, pos, af, none⟩ rest a w :=
  at_load_run (by rw [hx]; simp [Instr.loadAt, Instr.sureAddr, run_loadVar_blk h hl hb]) k
theorem at_load_agg (h : AggT P T n) {x : Operand} {g o : Nat} {cs : List Value} (hx : a.eval x = .pointer (some ⟨g, o, none⟩)) (hl : cs.length = n) (hc : ∀ j v, cs[j]? = some v → w.cell? ⟨g, o + j, none⟩ = some v)
    (k : wpList P ops Q rest (a.put d (.agg cs.toArray)) w) : StopAt P ops Q ⟨d, .load T x, ty, pos, af, none⟩ rest a w :=
  at_load_run (by rw [hx]; simp [Instr.loadAt, Instr.sureAddr, run_loadVar_agg h hl hc]) k
theorem at_store_part (h : AggT P T n) {x y : Operand} {g o : Nat} {T' : TypeId} {cs vs : List Value} (hx : a.eval x = .pointer (some ⟨g, o, none⟩)) (hy : a.eval y = .agg vs.toArray) (hl : vs.length = n) (hb : Blk w g T' cs) (hfit : o + n ≤ cs.length) (h1 : ∀ v ∈ vs, v.oneCell' = true)
    (k : wpList P ops Q rest a (w.setRow g (cs.take o ++ vs ++ cs.drop (o + n)).toArray)) : StopAt P ops Q ⟨none, .store T x y, ty, pos, af, none⟩ rest a w := by
  refine wpList_plain rfl fun K hK => ?_
  unfold Oper.wp
  have h2 : (execOp a.eval ⟨none, .store T x y, ty, pos, af, none⟩).run P w = .ok .skip (w.setRow g (cs.take o ++ vs ++ cs.drop (o + n)).toArray) := by
    simp [execOp, hx, hy, Instr.storeAt, Instr.sureAddr, run_storeVar_blk h hl hb hfit h1]
  rw [h2]
  exact hK _ _ k
theorem at_store_blk (h : AggT P T n) {x y : Operand} {g : Nat} {T' : TypeId} {cs vs : List Value} (hx : a.eval x = .pointer (some ⟨g, 0, none⟩)) (hy : a.eval y = .agg vs.toArray) (hl : vs.length = n) (hl2 : cs.length = n) (hb : Blk w g T' cs) (h1 : ∀ v ∈ vs, v.oneCell' = true)
    (k : Blk (w.setRow g vs.toArray) g T' vs → wpList P ops Q rest a (w.setRow g vs.toArray)) : StopAt P ops Q ⟨none, .store T x y, ty, pos, af, none⟩ rest a w := by
  refine at_store_part h hx hy hl hb (by omega) h1 ?_
  have e : cs.take 0 ++ vs ++ cs.drop (0 + n) = vs := by rw [List.drop_of_length_le (by omega)]; simp
  rw [e]
  exact k hb.setRow
end
theorem uv_length (xs : List Nat) : (uv xs).length = xs.length := by simp [uv]
theorem uv_one (xs : List Nat) : ∀ u ∈ uv xs, u.oneCell' = true := by
  intro u hu
  obtain ⟨_, _, rfl⟩ := List.mem_map.1 hu
  rfl
end Go.Cw
/-! Regions that draw their order and whose first n operations read, call, or make memory: one specification an operation, in whatever order they come; then the rest, in its one order. -/
namespace Go.Cw
open Go.RowKit
/-- One operation, in one state: it yields a value, and what is said of it holds. -/
def StepAt (P : Program) (ops : Array Oper) (o : Oper) (a : Act) (w : World) (R : Value → World → Prop) : Prop :=
  if Region.wanted o (yielded ops a.tmps) = true then ∀ (K : Act → World → Prop) (Q : Exit → Act → World → Prop), (∀ v w', R v w' → K (a.put o.dst v) w') → o.wp P a w K Q else R undef w
def putL : List Oper → (Nat → Value) → Nat → Act → Act
  | [], _, _, a => a
  | o :: r, vs, i, a => putL r vs (i + 1) (a.put o.dst (vs i))
/-- Slot t is written by none of the first n operations. -/
def keeps (ops : Array Oper) (n t : Nat) : Bool := (List.range n).all fun j => !(((ops[j]?).bind (·.dst)) == some t)
/-- Operation o waits for operation j. -/
def waits (o : Oper) (j : Nat) : Bool := o.after.any fun e => Region.binds .any e && e.on == j
structure Pre (ops : Array Oper) (n : Nat) (Φ : Nat → Value → World → Prop) (a0 : Act) (w0 : World) (o : Oper) (a : Act) (w : World) : Prop where
  below : Below w0.heap.size w0 w
  got : ∀ j, waits o j = true → ∀ d, (ops[j]?).bind (·.dst) = some d → Φ j (a.eval (.tmp d)) w
  same : ∀ t, keeps ops n t = true → a.eval (.tmp t) = a0.eval (.tmp t)
def Steps (P : Program) (ops : Array Oper) (n : Nat) (Φ : Nat → Value → World → Prop) (a0 : Act) (w0 : World) : Nat → List Oper → Prop
  | _, [] => True
  | i, o :: rest => (∀ a w, Pre ops n Φ a0 w0 o a w → StepAt P ops o a w fun v w' => Φ i v w' ∧ Below w.heap.size w w') ∧ Steps P ops n Φ a0 w0 (i + 1) rest
def distinctD : List (Option Tmp) → Bool
  | [] => true
  | some d :: r => !r.contains (some d) && distinctD r
  | none :: _ => false
def backB (ops : Array Oper) (n : Nat) : Bool := (List.range n).all fun i => match ops[i]? with
  | some o => o.after.all fun e => !Region.binds .any e || decide (e.on < i)
  | none => false
def fullAt (n m : Nat) : Array Bool := (List.replicate n true ++ List.replicate (m - n) false).toArray
def monoB (ops : Array Oper) (n sz : Nat) : Bool :=
  decide (n < ops.size) && Region.sinkB .any ops n && Region.chainB .any ops n && backB ops n && distinctD ((ops.toList.take n).map (·.dst)) &&
    ((ops.toList.take n).all fun o => match o.dst with | some d => decide (d < sz) | none => false) && Region.seqB .any ops (ops.size - n) n (fullAt n ops.size)

theorem Steps.get {P : Program} {ops : Array Oper} {n : Nat} {Φ : Nat → Value → World → Prop} {a0 : Act} {w0 : World} : ∀ {l : List Oper} {k : Nat}, Steps P ops n Φ a0 w0 k l →
    ∀ (j : Nat) (o : Oper), l[j]? = some o → ∀ a w, Pre ops n Φ a0 w0 o a w → StepAt P ops o a w fun v w' => Φ (k + j) v w' ∧ Below w.heap.size w w'
  | [], _, _, j, o, h => by simp at h
  | x :: l, k, hS, 0, o, h => by
    obtain rfl : x = o := by simpa using h
    exact hS.1
  | x :: l, k, hS, j + 1, o, h => by
    have := hS.2.get j o (by simpa using h)
    rw [show k + (j + 1) = k + 1 + j by omega]
    exact this

theorem put_size (a : Act) (d : Option Tmp) (v : Value) : (a.put d v).tmps.size = a.tmps.size := by
  cases d <;> simp [Act.put]
theorem put_get (a : Act) (d : Tmp) (v : Value) (t : Nat) (hd : d < a.tmps.size) : (a.put (some d) v).tmps[t]? = if d = t then some v else a.tmps[t]? := by
  simp only [Act.put, Array.getElem?_setIfInBounds]
  by_cases h : d = t
  · subst h; simp [hd]
  · simp [h]
theorem putL_defers : ∀ (l : List Oper) (vs : Nat → Value) (i : Nat) (a : Act), (putL l vs i a).defers = a.defers
  | [], _, _, _ => rfl
  | o :: r, vs, i, a => by
    simp only [putL]
    rw [putL_defers r]
    cases o.dst <;> rfl
theorem putL_size : ∀ (l : List Oper) (vs : Nat → Value) (i : Nat) (a : Act), (putL l vs i a).tmps.size = a.tmps.size
  | [], _, _, _ => rfl
  | o :: r, vs, i, a => by simp only [putL]; rw [putL_size r, put_size]
theorem putL_other : ∀ (l : List Oper) (vs : Nat → Value) (i : Nat) (a : Act) (t : Nat), (∀ o ∈ l, o.dst ≠ some t) → (putL l vs i a).tmps[t]? = a.tmps[t]?
  | [], _, _, _, _, _ => rfl
  | o :: r, vs, i, a, t, h => by
    simp only [putL]
    rw [putL_other r vs (i + 1) _ t (fun o' ho => h o' (by simp [ho]))]
    have h0 := h o (by simp)
    cases hd : o.dst with
    | none => rfl
    | some d =>
      rw [hd] at h0
      have : d ≠ t := fun e => h0 (by rw [e])
      simp [Act.put, Array.getElem?_setIfInBounds, this]
theorem putL_at : ∀ (l : List Oper) (vs : Nat → Value) (i : Nat) (a : Act), distinctD (l.map (·.dst)) = true → (∀ o ∈ l, ∀ d, o.dst = some d → d < a.tmps.size) →
    ∀ (j : Nat) (o : Oper) (d : Nat), l[j]? = some o → o.dst = some d → (putL l vs i a).tmps[d]? = some (vs (i + j))
  | [], _, _, _, _, _, j, o, d, h, _ => by simp at h
  | x :: r, vs, i, a, hD, hs, 0, o, d, h, hd => by
    obtain rfl : x = o := by simpa using h
    simp only [putL]
    simp only [List.map_cons, hd, distinctD, Bool.and_eq_true, Bool.not_eq_true', List.contains_eq_mem, decide_eq_false_iff_not] at hD
    rw [putL_other r vs (i + 1) _ d (fun o' ho e => hD.1 (List.mem_map.2 ⟨o', ho, e⟩)), hd, put_get _ _ _ _ (hs x (by simp) d hd), if_pos rfl]
    rfl
  | x :: r, vs, i, a, hD, hs, j + 1, o, d, h, hd => by
    simp only [putL]
    have hx : ∃ dx, x.dst = some dx := by
      cases hx : x.dst with
      | none => simp [hx, distinctD] at hD
      | some dx => exact ⟨dx, rfl⟩
    obtain ⟨dx, hx⟩ := hx
    simp only [List.map_cons, hx, distinctD, Bool.and_eq_true] at hD
    rw [putL_at r vs (i + 1) _ hD.2 (fun o' ho d' hd' => by rw [put_size]; exact hs o' (by simp [ho]) d' hd') j o d (by simpa using h) hd, show i + 1 + j = i + (j + 1) by omega]

theorem act_ext {a b : Act} (h1 : a.defers = b.defers) (h2 : a.tmps.size = b.tmps.size) (h3 : ∀ t : Nat, a.tmps[t]? = b.tmps[t]?) : a = b := by
  obtain ⟨x, d⟩ := a
  obtain ⟨y, e⟩ := b
  simp only at h1 h3
  have : x = y := Array.ext_getElem? (by simpa using h3)
  rw [this, h1]

/-- How many of the first n are still to come. -/
def cnt (listed : Array Bool) : Nat → Nat
  | 0 => 0
  | n + 1 => cnt listed n + if listed.getD n false = true then 0 else 1
theorem cnt_set_ge (listed : Array Bool) (i : Nat) : ∀ n, n ≤ i → cnt (listed.setIfInBounds i true) n = cnt listed n
  | 0, _ => rfl
  | n + 1, h => by
    simp only [cnt]
    rw [cnt_set_ge listed i n (by omega), getD_set_ne false (by omega)]
theorem cnt_set (listed : Array Bool) (i : Nat) (hi : i < listed.size) (hl : listed.getD i false = false) : ∀ n, i < n → cnt (listed.setIfInBounds i true) n + 1 = cnt listed n
  | 0, h => by omega
  | n + 1, h => by
    simp only [cnt]
    by_cases hin : i = n
    · subst hin
      rw [cnt_set_ge listed i i (Nat.le_refl _), hl]
      have : (listed.setIfInBounds i true).getD i false = true := by simp [hi]
      rw [this]; simp
    · have := cnt_set listed i hi hl n (by omega)
      rw [getD_set_ne false hin]
      omega
theorem cnt_zero (listed : Array Bool) : ∀ n, cnt listed n = 0 → ∀ j, j < n → listed.getD j false = true
  | 0, _, j, hj => by omega
  | n + 1, h, j, hj => by
    simp only [cnt] at h
    by_cases hjn : j = n
    · subst hjn
      by_cases hl : listed.getD j false = true
      · exact hl
      · rw [if_neg hl] at h; omega
    · exact cnt_zero listed n (by omega) j (by omega)
theorem cnt_pos (listed : Array Bool) : ∀ n, 0 < cnt listed n → ∃ m, m < n ∧ listed.getD m false = false ∧ ∀ j, j < m → listed.getD j false = true
  | 0, h => by simp [cnt] at h
  | n + 1, h => by
    by_cases h0 : cnt listed n = 0
    · refine ⟨n, by omega, ?_, cnt_zero listed n h0⟩
      simp only [cnt, h0] at h
      by_cases hl : listed.getD n false = true
      · rw [if_pos hl] at h; omega
      · simpa using hl
    · obtain ⟨m, h1, h2, h3⟩ := cnt_pos listed n (by omega)
      exact ⟨m, by omega, h2, h3⟩
theorem cnt_replicate (m : Nat) : ∀ n, cnt (Array.replicate m false) n = n
  | 0 => rfl
  | n + 1 => by simp only [cnt]; rw [cnt_replicate m n, getD_replicate_false]; simp

structure MInv (ops : Array Oper) (n : Nat) (Φ : Nat → Value → World → Prop) (a0 : Act) (w0 : World) (listed : Array Bool) (a : Act) (w : World) : Prop where
  head : HeadInv .any ops n listed
  below : Below w0.heap.size w0 w
  defers : a.defers = a0.defers
  size : a.tmps.size = a0.tmps.size
  same : ∀ t, (∀ j, j < n → listed.getD j false = true → (ops[j]?).bind (·.dst) ≠ some t) → a.tmps[t]? = a0.tmps[t]?
  got : ∀ j, j < n → listed.getD j false = true → ∀ d, (ops[j]?).bind (·.dst) = some d → Φ j (a.eval (.tmp d)) w

theorem waits_iff {o : Oper} {j : Nat} (h : waits o j = true) : ∃ e ∈ o.after, Region.binds .any e = true ∧ e.on = j := by
  obtain ⟨e, he, hb⟩ := Array.any_eq_true'.1 h
  simp only [Bool.and_eq_true, beq_iff_eq] at hb
  exact ⟨e, he, hb.1, hb.2⟩
theorem distinct_ne : ∀ (l : List (Option Tmp)), distinctD l = true → ∀ (i j : Nat) (d : Tmp), i < j → l[i]? = some (some d) → l[j]? = some (some d) → False
  | [], _, i, j, d, _, h, _ => by simp at h
  | x :: r, hD, 0, j + 1, d, _, h1, h2 => by
    obtain rfl : x = some d := by simpa using h1
    simp only [distinctD, Bool.and_eq_true, Bool.not_eq_true', List.contains_eq_mem, decide_eq_false_iff_not] at hD
    exact hD.1 (List.mem_of_getElem? (by simpa using h2))
  | x :: r, hD, i + 1, j + 1, d, hij, h1, h2 => by
    have hr : distinctD r = true := by
      cases x with
      | none => simp [distinctD] at hD
      | some y => simp only [distinctD, Bool.and_eq_true] at hD; exact hD.2
    exact distinct_ne r hr i j d (by omega) (by simpa using h1) (by simpa using h2)

theorem eval_of_get {a : Act} {d : Nat} {v : Value} (h : a.tmps[d]? = some v) : a.eval (.tmp d) = v := by
  show a.tmps.getD d undef = v
  rw [Array.getD_eq_getD_getElem?, h]; rfl

section
variable {P : Program} {Q : Exit → Act → World → Prop} {l : List Oper} {n : Nat} {Φ : Nat → Value → World → Prop} {a0 : Act} {w0 : World}
theorem mono_main (hn : n < l.length) (hsink : Region.sinkB .any l.toArray n = true) (hchain : Region.chainB .any l.toArray n = true) (hback : backB l.toArray n = true)
    (hdist : distinctD ((l.take n).map (·.dst)) = true) (hdst : ∀ j : Nat, j < n → ∃ d : Nat, (l[j]?).bind (·.dst) = some d ∧ d < a0.tmps.size)
    (hst : ∀ (i : Nat) (v : Value) (w w' : World), i < n → Φ i v w → Below w.heap.size w w' → Φ i v w')
    (hstep : Steps P l.toArray n Φ a0 w0 0 (l.take n))
    (hend : ∀ listed a w, MInv l.toArray n Φ a0 w0 listed a w → cnt listed n = 0 → wpAny P .any l.toArray Q (l.length - n) listed a w) :
    ∀ (f : Nat) (listed : Array Bool) (a : Act) (w : World), MInv l.toArray n Φ a0 w0 listed a w → cnt listed n = f → wpAny P .any l.toArray Q (f + (l.length - n)) listed a w
  | 0, listed, a, w, hI, hc => by rw [Nat.zero_add]; exact hend listed a w hI hc
  | f + 1, listed, a, w, hI, hc => by
    obtain ⟨m, hm, hmu, hml⟩ := cnt_pos listed n (by omega)
    have hls : listed.size = l.length := by rw [hI.head.size]; simp
    have hmr : m ∈ Region.ready .any l.toArray listed := by
      refine mem_ready.2 ⟨getD_in (by omega) hmu, l[m]'(by omega), by simp [hm, show m < l.length by omega], fun e he hb => ?_⟩
      have hbk := List.all_eq_true.1 hback m (List.mem_range.2 hm)
      have hom : l.toArray[m]? = some (l[m]'(by omega)) := by simp [show m < l.length by omega]
      rw [hom] at hbk
      have h2 := Array.all_eq_true'.1 hbk e he
      simp only [Bool.or_eq_true, Bool.not_eq_true', decide_eq_true_eq] at h2
      rcases h2 with h2 | h2
      · rw [hb] at h2; cases h2
      · exact hml _ h2
    rw [show f + 1 + (l.length - n) = (f + (l.length - n)) + 1 by omega]
    refine ⟨(fun h0 => by rw [h0] at hmr; cases hmr), fun i hi => ?_⟩
    have hin : i < n := by
      rcases Nat.lt_or_ge i n with h | h
      · exact h
      · exact absurd hi (tail_waits hsink hchain (by simpa using hn) hI.head _ m rfl hm (getD_in (by omega) hmu) i h)
    obtain ⟨hiu, oi, hoi, hall⟩ := mem_ready.1 hi
    have hoi' : l[i]? = some oi := by simpa using hoi
    obtain ⟨d, hd, hds⟩ := hdst i hin
    rw [hoi'] at hd
    have hd' : oi.dst = some d := by simpa using hd
    have hpre : Pre l.toArray n Φ a0 w0 oi a w := by
      refine ⟨hI.below, fun j hj dj hdj => ?_, fun t ht => ?_⟩
      · obtain ⟨e, he, hb, rfl⟩ := waits_iff hj
        have hl := hall e he hb
        refine hI.got _ ?_ hl dj hdj
        rcases Nat.lt_or_ge e.on n with h | h
        · exact h
        · rcases Nat.lt_or_ge e.on l.length with h2 | h2
          · have := hI.head.tail e.on h (by simpa using h2)
            rw [getD_both this] at hl; cases hl
          · rw [Array.getD_eq_getD_getElem?, Array.getElem?_eq_none (by omega)] at hl; cases hl
      · have : a.tmps[t]? = a0.tmps[t]? := hI.same t fun j hj _ e => by
          have h3 := List.all_eq_true.1 ht j (List.mem_range.2 hj)
          rw [e] at h3
          simp at h3
        show a.tmps.getD t undef = a0.tmps.getD t undef
        rw [Array.getD_eq_getD_getElem?, Array.getD_eq_getD_getElem?, this]
    have hs := hstep.get i oi (by rw [List.getElem?_take, if_pos hin]; exact hoi') a w hpre
    rw [Nat.zero_add] at hs
    have key : ∀ v w', Φ i v w' ∧ Below w.heap.size w w' → wpAny P .any l.toArray Q (f + (l.length - n)) (listed.setIfInBounds i true) (a.put oi.dst v) w' := by
      rintro v w' ⟨hv, hb⟩
      have hlt : listed.getD i false = false := getD_both hiu
      refine mono_main hn hsink hchain hback hdist hdst hst hstep hend f _ _ _ ⟨hI.head.set hi hin, hI.below.trans (hb.mono hI.below.size), ?_, ?_, fun t ht => ?_, fun j hj hlj dj hdj => ?_⟩ (by have := cnt_set listed i (by omega) hlt n hin; omega)
      · rw [hd', ← hI.defers]; rfl
      · rw [put_size, hI.size]
      · have hsi : i < listed.size := by omega
        have hti : d ≠ t := fun e => ht i hin (by simp [hsi]) (by rw [hoi]; simpa [hd'] using e)
        rw [hd', put_get _ _ _ _ (by rw [hI.size]; exact hds), if_neg hti]
        refine hI.same t fun j hj hlj => ht j hj ?_
        exact getD_set_true hlj
      · by_cases hij : i = j
        · subst hij
          rw [hoi] at hdj
          obtain rfl : d = dj := by simpa [hd'] using hdj
          rw [eval_of_get (v := v) (by rw [hd', put_get _ _ _ _ (by rw [hI.size]; exact hds), if_pos rfl])]
          exact hv
        · rw [getD_set_ne false hij] at hlj
          have hg := hI.got j hj hlj dj hdj
          have hne : d ≠ dj := by
            rintro rfl
            have e1 : ((l.take n).map (·.dst))[i]? = some (some d) := by
              rw [List.getElem?_map, List.getElem?_take, if_pos hin, hoi']; simp [hd']
            have e2 : ((l.take n).map (·.dst))[j]? = some (some d) := by
              rw [List.getElem?_map, List.getElem?_take, if_pos hj]
              have : l.toArray[j]? = l[j]? := by simp
              rw [this] at hdj
              cases hlj2 : l[j]? with
              | none => rw [hlj2] at hdj; cases hdj
              | some oj => rw [hlj2] at hdj; simpa using hdj
            rcases Nat.lt_or_ge i j with h | h
            · exact distinct_ne _ hdist i j d h e1 e2
            · exact distinct_ne _ hdist j i d (by omega) e2 e1
          have he : (a.put oi.dst v).eval (.tmp dj) = a.eval (.tmp dj) := by
            show (a.put oi.dst v).tmps.getD dj undef = a.tmps.getD dj undef
            rw [Array.getD_eq_getD_getElem?, Array.getD_eq_getD_getElem?, hd', put_get _ _ _ _ (by rw [hI.size]; exact hds), if_neg hne]
          rw [he]
          exact hst j _ _ _ hj hg hb
    unfold wpOp
    simp only [hoi]
    unfold StepAt at hs
    split
    · rename_i hw
      rw [if_pos hw] at hs
      exact .inl (hs _ _ key)
    · rename_i hw
      rw [if_neg (by simpa using hw)] at hs
      exact key undef w hs

theorem wp_region_mono {id : Nat} (n : Nat) (Φ : Nat → Value → World → Prop) (hm : P.follows .mixedOrders = true) (hB : monoB l.toArray n a0.tmps.size = true)
    (hst : ∀ (i : Nat) (v : Value) (w w' : World), i < n → Φ i v w → Below w.heap.size w w' → Φ i v w')
    (hstep : Steps P l.toArray n Φ a0 w0 0 (l.take n))
    (hend : ∀ w (vs : Nat → Value), Below w0.heap.size w0 w → (∀ i, i < n → Φ i (vs i) w) → wpList P l.toArray Q (l.drop n) (putL (l.take n) vs 0 a0) w) : (Code.region id l.toArray true).wp P Q a0 w0 := by
  unfold monoB at hB
  simp only [Bool.and_eq_true, decide_eq_true_eq] at hB
  obtain ⟨⟨⟨⟨⟨⟨hn, hsink⟩, hchain⟩, hback⟩, hdist⟩, hrange⟩, hseq⟩ := hB
  have hn' : n < l.length := by simpa using hn
  have hdst : ∀ j, j < n → ∃ d, (l[j]?).bind (·.dst) = some d ∧ d < a0.tmps.size := by
    intro j hj
    have hlj : l[j]? = some (l[j]'(by omega)) := List.getElem?_eq_getElem (by omega)
    have hmem : l[j]'(by omega) ∈ l.toArray.toList.take n := by
      refine List.mem_of_getElem? (i := j) ?_
      rw [List.getElem?_take, if_pos hj]
      simpa using hlj
    have := List.all_eq_true.1 hrange _ hmem
    rw [hlj]
    cases hd : (l[j]'(by omega)).dst with
    | none => rw [hd] at this; cases this
    | some d => rw [hd] at this; exact ⟨d, by simpa using hd, by simpa using this⟩
  refine wp_region_any hm ?_
  have hsz : l.toArray.size = n + (l.length - n) := by simp; omega
  have inv0 : MInv l.toArray n Φ a0 w0 (Array.replicate l.toArray.size false) a0 { w0 with drawn := w0.drawn + 1 } := by
    refine ⟨⟨by simp, fun j oj _ hl => ?_, fun t _ ht => getD_in (by simpa using ht) (getD_replicate_false _ _)⟩, ⟨rfl, rfl, rfl, Nat.le_refl _, fun _ _ => rfl⟩, rfl, rfl, fun _ _ => rfl, fun j _ hl => ?_⟩
    · rw [getD_replicate_false] at hl; cases hl
    · rw [getD_replicate_false] at hl; cases hl
  have H := mono_main (P := P) (Q := Q) hn' hsink hchain hback (by simpa using hdist) hdst hst hstep (fun listed a w hI hc => by
    have hls : listed.size = l.length := by rw [hI.head.size]; simp
    have hfull : listed = fullAt n l.toArray.size := by
      refine Array.ext_getElem? fun t => ?_
      unfold fullAt
      simp only [List.getElem?_toArray]
      rcases Nat.lt_or_ge t n with h | h
      · rw [List.getElem?_append_left (by simpa using h), List.getElem?_replicate, if_pos h]
        have := cnt_zero listed n hc t h
        rw [Array.getD_eq_getD_getElem?] at this
        cases hq : listed[t]? with
        | none => rw [hq] at this; cases this
        | some b => rw [hq] at this; simpa using this
      · rcases Nat.lt_or_ge t l.length with h2 | h2
        · rw [List.getElem?_append_right (by simpa using h), List.getElem?_replicate, if_pos (by simp; omega)]
          have := hI.head.tail t h (by simpa using h2)
          rw [Array.getD_eq_getD_getElem?] at this
          cases hq : listed[t]? with
          | none => rw [Array.getElem?_eq_none_iff] at hq; omega
          | some b => rw [hq] at this; simpa using this
        · rw [Array.getElem?_eq_none (by omega), List.getElem?_eq_none (by simp; omega)]
    have ha : a = putL (l.take n) (fun i => match (l[i]?).bind (·.dst) with | some d => a.eval (.tmp d) | none => undef) 0 a0 := by
      refine act_ext (by rw [putL_defers, hI.defers]) (by rw [putL_size, hI.size]) fun t => ?_
      by_cases hex : ∃ j, j < n ∧ (l[j]?).bind (·.dst) = some t
      · obtain ⟨j, hj, hjt⟩ := hex
        obtain ⟨oj, hoj⟩ : ∃ oj, l[j]? = some oj := ⟨_, List.getElem?_eq_getElem (by omega)⟩
        have hjd : oj.dst = some t := by rw [hoj] at hjt; simpa using hjt
        obtain ⟨d, hd, hds⟩ := hdst j hj
        obtain rfl : t = d := by rw [hjt] at hd; exact Option.some.inj hd
        rw [putL_at (l.take n) _ 0 a0 (by simpa using hdist) (fun o ho d hd => by
          obtain ⟨i, hi⟩ := List.getElem?_of_mem ho
          rw [List.getElem?_take] at hi
          split at hi
          · rename_i hin
            obtain ⟨d', hd', hds'⟩ := hdst i hin
            rw [hi] at hd'
            obtain rfl : d = d' := by
              have : o.dst = some d' := by simpa using hd'
              rw [hd] at this; exact Option.some.inj this
            exact hds'
          · cases hi) j oj t (by rw [List.getElem?_take, if_pos hj]; exact hoj) hjd]
        simp only [Nat.zero_add]
        rw [hjt]
        show a.tmps[t]? = some (a.tmps.getD t undef)
        rw [Array.getD_eq_getD_getElem?, Array.getElem?_eq_getElem (by rw [hI.size]; exact hds)]
        rfl
      · rw [putL_other _ _ _ _ _ (fun o ho e => by
          obtain ⟨i, hi⟩ := List.getElem?_of_mem ho
          rw [List.getElem?_take] at hi
          split at hi
          · rename_i hin
            exact hex ⟨i, hin, by rw [hi]; simpa using e⟩
          · cases hi)]
        exact hI.same t fun j hj _ e => hex ⟨j, hj, by simpa using e⟩
    have hL := hend w (fun i => match (l[i]?).bind (·.dst) with | some d => a.eval (.tmp d) | none => undef) hI.below (fun i hi => by
      obtain ⟨d, hd, _⟩ := hdst i hi
      have := hI.got i hi (cnt_zero listed n hc i hi) d (by simpa using hd)
      simp only [hd]
      exact this)
    rw [← ha] at hL
    have hdl : (l.drop n).length = l.length - n := by simp
    have := wpAny_of_seq (P := P) (md := .any) (ops := l.toArray) (Q' := Q) (l.drop n) n listed a w (fun j => by simp [List.getElem?_drop]) (by rw [hdl, hfull]; simpa using hseq) hL
    rwa [hdl] at this) n _ a0 _ inv0 (cnt_replicate _ n)
  rw [hsz]
  rw [hsz] at H
  exact H
end

/-! ### Single steps -/
section
variable {P : Program} {ops : Array Oper} {a : Act} {w : World} {R : Value → World → Prop} {d : Option Tmp} {ty : TypeId} {pos : String} {af : Array Edge} {op : Op}
theorem step_run {v : Value} {w' : World} (h : (execOp a.eval ⟨d, op, ty, pos, af, none⟩).run P w = .ok (.value v) w') (hR : R v w') : StepAt P ops ⟨d, op, ty, pos, af, none⟩ a w R := by
  unfold StepAt
  rw [if_pos (show Region.wanted _ _ = true from rfl)]
  intro K Q hK
  unfold Oper.wp
  rw [h]
  exact hK _ _ hR
theorem step_call {f : FuncId} {xs : Array Operand} {ts : Array TypeId} {args : Array Value} (hcall : ∀ (args : Array Value) (w : World), (callFunc f args).run P w = .ok (.enter f args) w) (hx : xs.map a.eval = args)
    (hc : Calls P f args w fun e w' => ∃ v, e = .returned v ∧ R v w') : StepAt P ops ⟨d, .call { callee := .value (.func f), args := xs, argTypes := ts }, ty, pos, af, none⟩ a w R := by
  unfold StepAt
  rw [if_pos (show Region.wanted _ _ = true from rfl)]
  intro K Q hK
  unfold Oper.wp
  have h : (execOp a.eval ⟨d, .call { callee := .value (.func f), args := xs, argTypes := ts }, ty, pos, af, none⟩).run P w = .ok (.enter f args) w := by
    simp only [execOp, resolve, hx, Act.eval, Deferred.ofValue, invoke, Sem.run_bind, Sem.run_pure, Result.andThen_ok]
    simpa using hcall args w
  rw [h]
  refine Calls.mono hc fun e w'' ⟨v, he, hv⟩ => ?_
  subst he
  exact hK _ _ hv
/-- An operation of a guard that may not be wanted. -/
theorem step_guard {o : Oper} {g : Nat} {b : Bool} (hg : o.guard = some (g, b)) {t : Tmp} (ht : (ops[g]?).bind (·.dst) = some t) {c : Bool} (hc : a.eval (.tmp t) = .bool c)
    (h1 : c = b → StepAt P ops { o with guard := none } a w R) (h2 : c ≠ b → R undef w) : StepAt P ops o a w R := by
  have hy : yielded ops a.tmps g = some c := by
    unfold yielded
    rw [ht]
    have hc' : a.tmps.getD t undef = .bool c := hc
    rw [Array.getD_eq_getD_getElem?] at hc'
    cases hq : a.tmps[t]? with
    | none => rw [hq] at hc'; cases hc'
    | some v => rw [hq] at hc'; simp only [Option.getD_some] at hc'; subst hc'; simp [hq]
  unfold StepAt
  have hwant : Region.wanted o (yielded ops a.tmps) = (some c == some b) := by unfold Region.wanted; rw [hg]; simp [hy]
  rw [hwant]
  by_cases hcb : c = b
  · subst hcb
    rw [if_pos (by simp)]
    have := h1 rfl
    unfold StepAt at this
    rw [if_pos (show Region.wanted _ _ = true from rfl)] at this
    exact this
  · rw [if_neg (by simpa using hcb)]
    exact h2 hcb
end
end Go.Cw
/-! Laws at single operations of a region that draws its order. -/
namespace Go.Cw
open Go.RowKit
section
variable {P : Program} {ops : Array Oper} {a : Act} {w : World} {R : Value → World → Prop} {d : Option Tmp} {ty : TypeId} {pos : String} {af : Array Edge}
theorem Steps.cons {n : Nat} {Φ : Nat → Value → World → Prop} {a0 : Act} {w0 : World} {i : Nat} {o : Oper} {rest : List Oper}
    (h1 : ∀ a w, Pre ops n Φ a0 w0 o a w → StepAt P ops o a w fun v w' => Φ i v w' ∧ Below w.heap.size w w') (h2 : Steps P ops n Φ a0 w0 (i + 1) rest) : Steps P ops n Φ a0 w0 i (o :: rest) := ⟨h1, h2⟩
theorem Steps.nil {n : Nat} {Φ : Nat → Value → World → Prop} {a0 : Act} {w0 : World} {i : Nat} : Steps P ops n Φ a0 w0 i [] := trivial
theorem step_move {x : Operand} {v : Value} (hx : a.eval x = v) (hR : R v w) : StepAt P ops ⟨d, .move x, ty, pos, af, none⟩ a w R := step_run (v := a.eval x) rfl (by rw [hx]; exact hR)
theorem step_assign {x : Operand} {v : Value} (hx : a.eval x = v) (hR : R v w) : StepAt P ops ⟨d, .assign x, ty, pos, af, none⟩ a w R := step_run (v := a.eval x) rfl (by rw [hx]; exact hR)
theorem step_conv {s t : TypeId} {x : Operand} {v u : Value} {w' : World} (hx : a.eval x = u) (h : (convert s t u).run P w = .ok v w') (hR : R v w') : StepAt P ops ⟨d, .convert s t x, ty, pos, af, none⟩ a w R :=
  step_run (by simp only [execOp, hx, Sem.run_bind, h, Result.andThen_ok, Sem.run_pure]) hR
theorem step_load {t : TypeId} {x : Operand} {v u : Value} {w' : World} (hx : a.eval x = u) (h : (Instr.loadAt t u).run P w = .ok v w') (hR : R v w') : StepAt P ops ⟨d, .load t x, ty, pos, af, none⟩ a w R :=
  step_run (by simp only [execOp, hx, Sem.run_bind, h, Result.andThen_ok, Sem.run_pure]) hR
theorem step_pick {c x y : Operand} {b : Bool} {v : Value} (hc : a.eval c = .bool b) (hv : (if b then a.eval x else a.eval y) = v) (hR : R v w) : StepAt P ops ⟨d, .pick c x y, ty, pos, af, none⟩ a w R :=
  step_run (v := v) (by simp [execOp, hc, asBool, ← hv]) hR
theorem run_newVar {T : TypeId} {z : Value} (w : World) : (newVar T z).run P w = .ok ⟨w.heap.size, 0, none⟩ (w.alloc (.cells z.cells T)) := by simp [newVar, newRow]
theorem step_alloc {T : TypeId} {z : Value} {cs : List Value} (hz : ∀ w, (zeroValue T).run P w = .ok z w) (hcs : z.cells = cs.toArray) (hR : R (.pointer (some ⟨w.heap.size, 0, none⟩)) (w.alloc (.cells cs.toArray T))) : StepAt P ops ⟨d, .alloc T, ty, pos, af, none⟩ a w R :=
  step_run (w' := w.alloc (.cells cs.toArray T)) (v := .pointer (some ⟨w.heap.size, 0, none⟩)) (by simp [execOp, Instr.alloc, hz, newVar, newRow, hcs]) hR
theorem step_box {T : TypeId} {x : Operand} {v : Value} {cs : List Value} (hx : a.eval x = v) (hcs : v.cells = cs.toArray) (hR : R (.pointer (some ⟨w.heap.size, 0, none⟩)) (w.alloc (.cells cs.toArray T))) : StepAt P ops ⟨d, .box T x, ty, pos, af, none⟩ a w R :=
  step_run (w' := w.alloc (.cells cs.toArray T)) (v := .pointer (some ⟨w.heap.size, 0, none⟩)) (by simp [execOp, Instr.box, hx, newVar, newRow, hcs]) hR
theorem step_load_blk {T : TypeId} {n : Nat} (h : AggT P T n) {x : Operand} {g : Nat} {T' : TypeId} {cs : List Value} (hx : a.eval x = .pointer (some ⟨g, 0, none⟩)) (hl : cs.length = n) (hb : Blk w g T' cs) (hR : R (.agg cs.toArray) w) :
    StepAt P ops ⟨d, .load T x, ty, pos, af, none⟩ a w R :=
  step_load hx (by simp [Instr.loadAt, Instr.sureAddr, run_loadVar_blk h hl hb]) hR
theorem step_load_agg {T : TypeId} {n : Nat} (h : AggT P T n) {x : Operand} {g o : Nat} {cs : List Value} (hx : a.eval x = .pointer (some ⟨g, o, none⟩)) (hl : cs.length = n) (hc : ∀ j v, cs[j]? = some v → w.cell? ⟨g, o + j, none⟩ = some v) (hR : R (.agg cs.toArray) w) :
    StepAt P ops ⟨d, .load T x, ty, pos, af, none⟩ a w R :=
  step_load hx (by simp [Instr.loadAt, Instr.sureAddr, run_loadVar_agg h hl hc]) hR
/-- A slice literal of one element of one cell. -/
theorem step_slice1 {t e : TypeId} {z : Value} {bytes : Nat} (hE : Elt P t e z 1 bytes) {x : Operand} {v : Value} (hx : a.eval x = v) (hv : v.oneCell' = true) (hz1 : z.oneCell' = true)
    (hR : R (.slice (some ⟨w.heap.size, 0, none⟩) 1 1) (w.alloc (.cells [v].toArray e))) : StepAt P ops ⟨d, .buildSlice t 1 #[(0, x)], ty, pos, af, none⟩ a w R := by
  obtain ⟨i, hi, hz, hs, hb⟩ := info_parts hE.hi
  have hvc : v.cells = #[v] := by cases v <;> simp [Value.oneCell'] at hv <;> rfl
  have hzc : z.cells = #[z] := by cases z <;> simp [Value.oneCell'] at hz1 <;> rfl
  have hf : Instr.fill (fun j => some (j * i.size, i.size)) ((Array.range (1 * i.size)).map (z.cells[· % z.cells.size]!)) [((0 : Nat), v)] = some #[v] := by
    rw [hs, hzc]
    simp only [Instr.fill, hvc]
    simp
    refine Array.ext (by simp) fun j h1 h2 => ?_
    obtain rfl : j = 0 := by simp at h2; omega
    simp
  exact step_run (by
    simp only [execOp, Sem.run_bind, List.map_toArray, List.map_cons, List.map_nil, hx]
    rw [run_buildSlice w t e 1 _ #[v] i z hE.ht hi hz (by rw [hs]; decide) (by rw [hs]; decide) hf]
    rfl) hR
/-- A variable of an aggregate type that is made and written at once. -/
theorem at_store_new {Q : Exit → Act → World → Prop} {rest : List Oper} {T : TypeId} {n : Nat} (h : AggT P T n) {x y : Operand} {zs : Array Value} {vs : List Value} (hx : a.eval x = .pointer (some ⟨w.heap.size, 0, none⟩)) (hy : a.eval y = .agg vs.toArray) (hl : vs.length = n) (hz : zs.toList.length = n) (h1 : ∀ v ∈ vs, v.oneCell' = true)
    (k : ∀ w', Blk w' w.heap.size T vs → Below w.heap.size w w' → w'.heap.size = w.heap.size + 1 → wpList P ops Q rest a w') : StopAt P ops Q ⟨none, .store T x y, ty, pos, af, none⟩ rest a (w.alloc (.cells zs T)) := by
  have hb : Blk (w.alloc (.cells zs T)) w.heap.size T zs.toList := by
    have := Blk.new w T zs.toList
    simpa using this
  refine at_store_blk h hx hy hl hz hb h1 fun hB => k _ hB ?_ ?_
  · exact ((Below.refl w.heap.size w).alloc (Nat.le_refl _) (.cells zs T)).trans (below_setRow (Below.refl w.heap.size _) (Nat.le_refl _) vs.toArray)
  · rw [size_setRow]; simp
end
end Go.Cw
/-! The last region of a law: it draws its order, and its last operation assigns the result. Steps for comparisons. -/
namespace Go.Cw
open Go.RowKit
section
variable {P : Program} {Q : Exit → Act → World → Prop} {l : List Oper} {n : Nat} {Φ : Nat → Value → World → Prop} {a0 : Act} {w0 : World}
theorem got_inj {vals : List Value} {j : Nat} {v u : Value} (h : vals[j]? = some v) (hu : vals[j]? = some u) : v = u := Option.some.inj (h.symm.trans hu)
theorem wpList_assign {ops : Array Oper} {A : Act} {w : World} {r d : Tmp} {ty : TypeId} {pos : String} {af : Array Edge} (k : Q .normal (A.put (some r) (A.eval (.tmp d))) w) :
    wpList P ops Q [⟨some r, .assign (.tmp d), ty, pos, af, none⟩] A w := by
  refine wpList_plain rfl fun K hK => ?_
  unfold Oper.wp
  exact hK _ _ k
/-- The last operation assigns what operation j yielded. -/
theorem wp_region_last {id : Nat} (n : Nat) (Φ : Nat → Value → World → Prop) (hm : P.follows .mixedOrders = true) (hB : monoB l.toArray n a0.tmps.size = true)
    (hst : ∀ (i : Nat) (v : Value) (w w' : World), i < n → Φ i v w → Below w.heap.size w w' → Φ i v w')
    (hstep : Steps P l.toArray n Φ a0 w0 0 (l.take n)) {r d : Tmp} {ty : TypeId} {pos : String} {af : Array Edge} (hl : l.drop n = [⟨some r, .assign (.tmp d), ty, pos, af, none⟩])
    {j : Nat} (hj : j < n) (hd : (l[j]?).bind (·.dst) = some d)
    (hend : ∀ (w : World) (v : Value) (A : Act), Below w0.heap.size w0 w → Φ j v w → A.defers = a0.defers → A.tmps.size = a0.tmps.size → Q .normal (A.put (some r) v) w) : (Code.region id l.toArray true).wp P Q a0 w0 := by
  have hB0 := hB
  unfold monoB at hB
  simp only [Bool.and_eq_true, decide_eq_true_eq] at hB
  obtain ⟨⟨⟨⟨⟨⟨hn, _⟩, _⟩, _⟩, hdist⟩, hrange⟩, _⟩ := hB
  have hn' : n < l.length := by simpa using hn
  refine wp_region_mono n Φ hm hB0 hst hstep fun w vs hb hΦ => ?_
  rw [hl]
  refine wpList_assign ?_
  have hat : (putL (l.take n) vs 0 a0).tmps[d]? = some (vs j) := by
    obtain ⟨o, ho⟩ : ∃ o, l[j]? = some o := ⟨_, List.getElem?_eq_getElem (by omega)⟩
    have hod : o.dst = some d := by rw [ho] at hd; simpa using hd
    have := putL_at (l.take n) vs 0 a0 (by simpa using hdist) (fun o ho d hd => by
      have := List.all_eq_true.1 hrange o (by simpa using ho)
      rw [hd] at this
      simpa using this) j o d (by rw [List.getElem?_take, if_pos hj]; exact ho) hod
    rwa [Nat.zero_add] at this
  have hev : (putL (l.take n) vs 0 a0).eval (.tmp d) = vs j := by
    show (putL (l.take n) vs 0 a0).tmps.getD d undef = _
    rw [Array.getD_eq_getD_getElem?, hat]; rfl
  rw [hev]
  exact hend w (vs j) _ hb (hΦ j hj) (putL_defers _ _ _ _) (putL_size _ _ _ _)
end
/-- The end of a body whose one result was just put. -/
theorem ret_put {P : Program} {w : World} {fn : Func} {R : Ending → World → Prop} {A : Act} {r : Tmp} {v : Value} (hr : fn.results = #[.tmp r]) (hs : r < A.tmps.size) (hd : A.defers = []) (hR : R (.returned v) w) :
    bodyPost P fn R .ret (A.put (some r) v) w := by
  refine bodyPost_ret (v := v) ?_ hd hR
  have : (A.put (some r) v).tmps.getD r undef = v := by
    rw [Array.getD_eq_getD_getElem?, put_get _ _ _ _ hs, if_pos rfl]; rfl
  simp only [results, hr]
  simp at this
  simp [this]
theorem ret_set {P : Program} {w : World} {fn : Func} {R : Ending → World → Prop} {T : Array Value} {r : Tmp} {v : Value} (hr : fn.results = #[.tmp r]) (hs : r < T.size) (hR : R (.returned v) w) :
    bodyPost P fn R .ret ⟨T.setIfInBounds r v, []⟩ w := by
  refine bodyPost_ret (v := v) ?_ rfl hR
  simp [results, hr, hs]
section
variable {P : Program} {ops : Array Oper} {a : Act} {w : World} {R : Value → World → Prop} {d : Option Tmp} {ty : TypeId} {pos : String} {af : Array Edge}
theorem step_eq_int {t t' : TypeId} {x y : Operand} {k : IntKind} {m m' : Int} {b : Bool} (hx : a.eval x = .int k m) (hy : a.eval y = .int k m') (hu : (P.underlying t) = some (.int k)) (hb : (m == m') = b) (hR : R (.bool b) w) : StepAt P ops ⟨d, .binOp .eql t x y t', ty, pos, af, none⟩ a w R :=
  step_run (by subst hb; simp [execOp, hx, hy, eqGuard, binOp, Op.intCmp, Op.equal, Op.equalIn, Op.maxDepth, run_underlying hu]) hR
theorem step_neq_int {t t' : TypeId} {x y : Operand} {k : IntKind} {m m' : Int} {b : Bool} (hx : a.eval x = .int k m) (hy : a.eval y = .int k m') (hu : (P.underlying t) = some (.int k)) (hb : (m != m') = b) (hR : R (.bool b) w) : StepAt P ops ⟨d, .binOp .neq t x y t', ty, pos, af, none⟩ a w R :=
  step_run (by subst hb; simp [execOp, hx, hy, eqGuard, binOp, Op.intCmp, Op.equal, Op.equalIn, Op.maxDepth, run_underlying hu]) hR
theorem step_eq_str {t t' : TypeId} {x y : Operand} {s s' : List UInt8} {b : Bool} (hx : a.eval x = .string ⟨s.toArray⟩) (hy : a.eval y = .string ⟨s'.toArray⟩) (hb : (s == s') = b) (hR : R (.bool b) w) : StepAt P ops ⟨d, .binOp .eql t x y t', ty, pos, af, none⟩ a w R :=
  step_run (by subst hb; simp [execOp, hx, hy, eqGuard, binOp, Op.stringOp, ByteArray.toList_eq]) hR
theorem step_neq_str {t t' : TypeId} {x y : Operand} {s s' : List UInt8} {b : Bool} (hx : a.eval x = .string ⟨s.toArray⟩) (hy : a.eval y = .string ⟨s'.toArray⟩) (hb : (s != s') = b) (hR : R (.bool b) w) : StepAt P ops ⟨d, .binOp .neq t x y t', ty, pos, af, none⟩ a w R :=
  step_run (by subst hb; simp [execOp, hx, hy, eqGuard, binOp, Op.stringOp, ByteArray.toList_eq, bne]) hR
theorem step_eq_agg {t t' : TypeId} {x y : Operand} {xs ys : Array Value} {b : Bool} (hg : P.eqGuardType P.depth t = false) (hx : a.eval x = .agg xs) (hy : a.eval y = .agg ys) (hb : (Op.equal t (.agg xs) (.agg ys)).run P w = .ok b w) (hR : R (.bool b) w) : StepAt P ops ⟨d, .binOp .eql t x y t', ty, pos, af, none⟩ a w R :=
  step_run (by simp [execOp, hx, hy, eqGuard, binOp, hg, hb]) hR
theorem step_neq_agg {t t' : TypeId} {x y : Operand} {xs ys : Array Value} {b : Bool} (hg : P.eqGuardType P.depth t = false) (hx : a.eval x = .agg xs) (hy : a.eval y = .agg ys) (hb : (Op.equal t (.agg xs) (.agg ys)).run P w = .ok b w) (hR : R (.bool (!b)) w) : StepAt P ops ⟨d, .binOp .neq t x y t', ty, pos, af, none⟩ a w R :=
  step_run (by simp [execOp, hx, hy, eqGuard, binOp, hg, hb]) hR
theorem step_not {t : TypeId} {x : Operand} {b : Bool} (hx : a.eval x = .bool b) (hR : R (.bool (!b)) w) : StepAt P ops ⟨d, .unOp .not t x, ty, pos, af, none⟩ a w R :=
  step_run (by simp [execOp, hx, Op.unary]) hR
/-- A slice that is written out. -/
theorem step_sliceN {t e : TypeId} {z : Value} {bytes : Nat} (hE : Elt P t e z 1 bytes) {len : Nat} {parts : Array (Nat × Operand)} {vs cs : List Value} (hpos : 0 < len) (hsm : len ≤ 2 ^ 24) (hz1 : z.cells.size = 1) (hl : vs.length = len)
    (hp : (parts.map fun (i, x) => (i, a.eval x)).toList = (vs.zipIdx 0).map fun x => (x.2, x.1)) (h1 : ∀ v ∈ vs, v.cells.size = 1) (hc : (vs.flatMap fun v => v.cells.toList) = cs)
    (hR : R (.slice (some ⟨w.heap.size, 0, none⟩) len len) (w.alloc (.cells cs.toArray e))) : StepAt P ops ⟨d, .buildSlice t len parts, ty, pos, af, none⟩ a w R := by
  obtain ⟨i, hi, hz, hs, hb⟩ := info_parts hE.hi
  refine step_run (v := .slice (some ⟨w.heap.size, 0, none⟩) len len) (w' := w.alloc (.cells cs.toArray e)) ?_ hR
  have hr := run_buildSlice w t e len (parts.map fun (i, x) => (i, a.eval x)) cs.toArray i z hE.ht hi hz (by rw [hs]; omega) (by rw [hs]; omega) (by
    rw [hp, hs]
    subst hc
    exact Go.Great.fill_whole (by omega) vs _ h1 (by simp [hl]))
  simp only [execOp, Sem.run_bind, hr, Result.andThen_ok, Sem.run_pure]
end
theorem to_val {P : Program} {f : FuncId} {args : Array Value} {w : World} {v v' : Value} (h : Calls P f args w fun e w' => e = .returned v ∧ Below w.heap.size w w') (hv : v = v') : Calls P f args w fun e w' => e = .returned v' ∧ Below w.heap.size w w' := by
  subst hv; exact h
end Go.Cw
/-! More laws at single operations. -/
namespace Go.Cw
open Go.RowKit
section
variable {P : Program} {ops : Array Oper} {a : Act} {w : World} {R : Value → World → Prop} {d : Option Tmp} {ty : TypeId} {pos : String} {af : Array Edge} {Q : Exit → Act → World → Prop} {rest : List Oper}
theorem step_eq_bool {t t' : TypeId} {x y : Operand} {p q b : Bool} (hx : a.eval x = .bool p) (hy : a.eval y = .bool q) (hu : P.underlying t = some .bool) (hb : (p == q) = b) (hR : R (.bool b) w) : StepAt P ops ⟨d, .binOp .eql t x y t', ty, pos, af, none⟩ a w R :=
  step_run (by
    subst hb
    have h1 := run_eql_bool (P := P) (w := w) t p q hu
    simp only [execOp, hx, hy, eqGuard, Sem.run_bind, Sem.run_pure, Result.andThen_ok, h1, Bool.not_true, Bool.false_eq_true, if_false]) hR
/-- An operation of a guard, which is wanted. -/
theorem stop_want {op : Op} {g : Nat} {b : Bool} (hw : yielded ops a.tmps g = some b) (h : StopAt P ops Q ⟨d, op, ty, pos, af, none⟩ rest a w) : StopAt P ops Q ⟨d, op, ty, pos, af, some (g, b)⟩ rest a w := by
  unfold StopAt wpList at *
  have h1 : Region.wanted ⟨d, op, ty, pos, af, none⟩ (yielded ops a.tmps) = true := rfl
  have h2 : Region.wanted ⟨d, op, ty, pos, af, some (g, b)⟩ (yielded ops a.tmps) = true := by simp [Region.wanted, hw]
  rw [if_pos h1] at h
  rw [if_pos h2]
  exact h
/-- An operation of a guard that was not asked. -/
theorem step_guard_un {o : Oper} {g : Nat} {b : Bool} (hg : o.guard = some (g, b)) {t : Tmp} (ht : (ops[g]?).bind (·.dst) = some t) (hc : a.eval (.tmp t) = undef) (h : R undef w) : StepAt P ops o a w R := by
  have hy : yielded ops a.tmps g = none := by
    unfold yielded
    rw [ht]
    have hc' : a.tmps.getD t undef = undef := hc
    rw [Array.getD_eq_getD_getElem?] at hc'
    cases hq : a.tmps[t]? with
    | none => simp [hq]
    | some v => rw [hq] at hc'; simp only [Option.getD_some] at hc'; subst hc'; simp [hq, undef]
  unfold StepAt
  rw [if_neg (by unfold Region.wanted; rw [hg]; simp [hy])]
  exact h
end
end Go.Cw

/- Parts of the proof: PlA, PlB, PlS, PlT, PlC, PlD. -/

set_option linter.all false
set_option linter.unusedVariables false
set_option linter.unusedSimpArgs false
set_option linter.unnecessarySimpa false
set_option linter.deprecated false
namespace Cu
/-! bytes and numbers -/
def be : Nat → Nat → List UInt8
  | 0, _ => []
  | k + 1, m => UInt8.ofNat (m / 256 ^ k) :: be k m
def val (l : List UInt8) : Nat := l.foldl (fun m b => m * 256 + b.toNat) 0
def nbF : Nat → Nat → Nat
  | 0, _ => 0
  | k + 1, m => if m / 256 ^ k > 0 then k + 1 else nbF k m
def nb (m : Nat) : Nat := nbF 8 m
def cpl (b : UInt8) : UInt8 := UInt8.ofNat (255 - b.toNat)
def encInt (n : Int) : List UInt8 :=
  if 0 ≤ n then UInt8.ofNat (128 + nb n.toNat) :: be (nb n.toNat) n.toNat
  else UInt8.ofNat (127 - nb (-1 - n).toNat) :: (be (nb (-1 - n).toNat) (-1 - n).toNat).map cpl

theorem be_length (k m : Nat) : (be k m).length = k := by
  induction k with
  | zero => rfl
  | succ k ih => simp [be, ih]
theorem val_append (a b : List UInt8) : val (a ++ b) = val a * 256 ^ b.length + val b := by
  unfold val
  rw [List.foldl_append]
  generalize List.foldl (fun m b => m * 256 + b.toNat) 0 a = x
  induction b generalizing x with
  | nil => simp
  | cons c t ih =>
    simp only [List.foldl_cons, List.length_cons]
    rw [ih, ih (0 * 256 + c.toNat)]
    rw [Nat.pow_succ]
    have : (x * 256 + c.toNat) * 256 ^ t.length = x * (256 ^ t.length * 256) + c.toNat * 256 ^ t.length := by
      rw [Nat.add_mul, Nat.mul_assoc, Nat.mul_comm 256]
    rw [this]; simp [Nat.zero_mul, Nat.add_assoc]
theorem val_cons (c : UInt8) (t : List UInt8) : val (c :: t) = c.toNat * 256 ^ t.length + val t := by
  have := val_append [c] t
  simpa [val] using this
theorem val_lt (l : List UInt8) : val l < 256 ^ l.length := by
  induction l with
  | nil => simp [val]
  | cons c t ih =>
    rw [val_cons, List.length_cons, Nat.pow_succ]
    have := c.toNat_lt
    have h2 : c.toNat * 256 ^ t.length ≤ 255 * 256 ^ t.length := Nat.mul_le_mul_right _ (by omega)
    omega
theorem val_be (k m : Nat) : val (be k m) = m % 256 ^ k := by
  induction k with
  | zero => simp [be, val, Nat.mod_one]
  | succ k ih =>
    rw [be, val_cons, be_length, ih, Nat.pow_succ, Nat.mod_mul]
    simp only [UInt8.toNat_ofNat']
    rw [Nat.mul_comm (256 ^ k), Nat.add_comm]
theorem be_mod (k m j : Nat) (h : k ≤ j) : be k (m % 256 ^ j) = be k m := by
  induction k with
  | zero => rfl
  | succ k ih =>
    rw [be, be, ih (by omega)]
    congr 1
    apply UInt8.toNat_inj.1
    simp only [UInt8.toNat_ofNat']
    obtain ⟨d, rfl⟩ : ∃ d, j = k + 1 + d := ⟨j - (k + 1), by omega⟩
    rw [Nat.pow_add, Nat.pow_succ, Nat.mul_assoc, Nat.mod_mul_right_div_self]
    exact Nat.mod_mul_right_mod _ _ _
theorem be_val (l : List UInt8) : be l.length (val l) = l := by
  induction l with
  | nil => rfl
  | cons c t ih =>
    rw [List.length_cons, be]
    have hlt := val_lt t
    have hp : 0 < 256 ^ t.length := Nat.pow_pos (by omega)
    have h1 : val (c :: t) / 256 ^ t.length = c.toNat := by
      rw [val_cons, Nat.mul_comm, Nat.mul_add_div hp, Nat.div_eq_of_lt hlt]; rfl
    have h2 : val (c :: t) % 256 ^ t.length = val t := by
      rw [val_cons, Nat.mul_comm, Nat.mul_add_mod, Nat.mod_eq_of_lt hlt]
    rw [h1, ← be_mod t.length (val (c :: t)) t.length (Nat.le_refl _), h2, ih]
    simp
theorem nbF_le (k m : Nat) : nbF k m ≤ k := by
  induction k with
  | zero => simp [nbF]
  | succ k ih => simp only [nbF]; split <;> omega
theorem nbF_lt (k m : Nat) (h : m < 256 ^ k) : m < 256 ^ nbF k m := by
  induction k with
  | zero => simpa [nbF] using h
  | succ k ih =>
    simp only [nbF]; split
    · exact h
    · rename_i h2
      have : m / 256 ^ k = 0 := Nat.eq_zero_of_not_pos h2
      exact ih (by
        rcases Nat.div_eq_zero_iff.1 this with h | h
        · have : 0 < 256 ^ k := Nat.pow_pos (by omega)
          omega
        · exact h)
theorem nbF_ge (k m : Nat) (h : 0 < nbF k m) : 256 ^ (nbF k m - 1) ≤ m := by
  induction k with
  | zero => simp [nbF] at h
  | succ k ih =>
    simp only [nbF] at h ⊢; split
    · rename_i h2
      simp only [Nat.add_sub_cancel]
      have hp : 0 < 256 ^ k := Nat.pow_pos (by omega)
      exact (Nat.div_pos_iff.1 h2).2
    · rename_i h2
      rw [if_neg h2] at h
      exact ih h
theorem nbF_eq (k m j : Nat) (h1 : m < 256 ^ j) (h2 : j = 0 ∨ 256 ^ (j - 1) ≤ m) (hj : j ≤ k) : nbF k m = j := by
  have hm : m < 256 ^ k := Nat.lt_of_lt_of_le h1 (Nat.pow_le_pow_right (by omega) hj)
  have a := nbF_lt k m hm
  rcases Nat.lt_trichotomy (nbF k m) j with h | h | h
  · rcases h2 with h2 | h2
    · omega
    · have : 256 ^ nbF k m ≤ 256 ^ (j - 1) := Nat.pow_le_pow_right (by omega) (by omega)
      omega
  · exact h
  · have b := nbF_ge k m (by omega)
    have : 256 ^ j ≤ 256 ^ (nbF k m - 1) := Nat.pow_le_pow_right (by omega) (by omega)
    omega
theorem cpl_cpl (b : UInt8) : cpl (cpl b) = b := by
  apply UInt8.toNat_inj.1
  have := b.toNat_lt
  simp only [cpl, UInt8.toNat_ofNat']
  omega
theorem map_cpl_cpl (l : List UInt8) : (l.map cpl).map cpl = l := by
  rw [List.map_map]
  conv => rhs; rw [← List.map_id l]
  apply List.map_congr_left
  intro b _
  exact cpl_cpl b

/-! decoding: an error, or the value and the number of bytes that it takes -/
abbrev Res (α : Type) := Except Nat (α × Nat)
def headK (h : UInt8) : Nat := if h.toNat < 128 then 127 - h.toNat else h.toNat - 128
def digs (h : UInt8) (ds : List UInt8) : List UInt8 := if h.toNat < 128 then ds.map cpl else ds
def decInt : List UInt8 → Res Int
  | [] => .error 5
  | h :: t =>
    if headK h > 8 then .error 6
    else if t.length < headK h then .error 5
    else if 0 < headK h ∧ (digs h (t.take (headK h))).headD 0 = 0 then .error 6
    else if val (digs h (t.take (headK h))) ≥ 2 ^ 63 then .error 6
    else .ok (if h.toNat < 128 then -1 - (val (digs h (t.take (headK h))) : Int) else (val (digs h (t.take (headK h))) : Int), headK h + 1)
def inI64 (n : Int) : Prop := -9223372036854775808 ≤ n ∧ n ≤ 9223372036854775807

theorem encInt_length_pos (n : Int) : 0 < (encInt n).length := by unfold encInt; split <;> simp
theorem nb_le (m : Nat) : nb m ≤ 8 := nbF_le 8 m
theorem encInt_length_le (n : Int) : (encInt n).length ≤ 9 := by
  have h1 := nb_le n.toNat
  have h2 := nb_le (-1 - n).toNat
  unfold encInt; split <;> simp [be_length] <;> omega

theorem be_head (k m : Nat) (hk : 0 < k) (h : 256 ^ (k - 1) ≤ m) (h2 : m < 256 ^ k) : (be k m).headD 0 ≠ 0 := by
  obtain ⟨j, rfl⟩ : ∃ j, k = j + 1 := ⟨k - 1, by omega⟩
  simp only [be, List.headD_cons]
  intro e
  have e' := congrArg UInt8.toNat e
  simp only [UInt8.toNat_ofNat'] at e'
  have hp : 0 < 256 ^ j := Nat.pow_pos (by omega)
  have h3 : 1 ≤ m / 256 ^ j := (Nat.le_div_iff_mul_le hp).2 (by simpa using h)
  have h4 : m / 256 ^ j < 256 := (Nat.div_lt_iff_lt_mul hp).2 (by rw [Nat.pow_succ] at h2; omega)
  simp at e'
  omega
theorem nb_lt {m : Nat} (h : m < 2 ^ 64) : m < 256 ^ nb m := nbF_lt 8 m (by simpa using h)
theorem nb_ge {m : Nat} (h : 0 < nb m) : 256 ^ (nb m - 1) ≤ m := nbF_ge 8 m h
theorem dec_enc (n : Int) (h : inI64 n) (r : List UInt8) : decInt (encInt n ++ r) = .ok (n, (encInt n).length) := by
  obtain ⟨ha, hb⟩ := h
  unfold encInt
  by_cases h0 : 0 ≤ n
  · rw [if_pos h0]
    have hm : n.toNat < 2 ^ 63 := by omega
    have hk := nb_le n.toNat
    have hl := nb_lt (m := n.toNat) (by omega)
    have hhd : (UInt8.ofNat (128 + nb n.toNat)).toNat = 128 + nb n.toNat := by simp only [UInt8.toNat_ofNat']; omega
    have hK : headK (UInt8.ofNat (128 + nb n.toNat)) = nb n.toNat := by unfold headK; rw [hhd, if_neg (by omega)]; omega
    have hD : ∀ ds, digs (UInt8.ofNat (128 + nb n.toNat)) ds = ds := by intro ds; unfold digs; rw [hhd, if_neg (by omega)]
    simp only [List.cons_append, decInt, hK, hD]
    have ht : (be (nb n.toNat) n.toNat ++ r).take (nb n.toNat) = be (nb n.toNat) n.toNat := by
      rw [List.take_append_of_le_length (by rw [be_length]; omega), List.take_of_length_le (by rw [be_length]; omega)]
    rw [ht, if_neg (by omega), if_neg (by simp [be_length]), if_neg, if_neg, hhd, if_neg (by omega)]
    · rw [val_be, Nat.mod_eq_of_lt hl]; simp [be_length]; omega
    · rw [val_be, Nat.mod_eq_of_lt hl]; omega
    · rintro ⟨hp, e⟩; exact be_head _ _ hp (nb_ge hp) hl e
  · rw [if_neg h0]
    have hm : (-1 - n).toNat < 2 ^ 63 := by omega
    generalize hmm : (-1 - n).toNat = m at *
    have hk := nb_le m
    have hl := nb_lt (m := m) (by omega)
    have hhd : (UInt8.ofNat (127 - nb m)).toNat = 127 - nb m := by simp only [UInt8.toNat_ofNat']; omega
    have hK : headK (UInt8.ofNat (127 - nb m)) = nb m := by unfold headK; rw [hhd, if_pos (by omega)]; omega
    have hD : ∀ ds, digs (UInt8.ofNat (127 - nb m)) ds = ds.map cpl := by intro ds; unfold digs; rw [hhd, if_pos (by omega)]
    simp only [List.cons_append, decInt, hK, hD]
    have ht : ((be (nb m) m).map cpl ++ r).take (nb m) = (be (nb m) m).map cpl := by
      rw [List.take_append_of_le_length (by simp [be_length]), List.take_of_length_le (by simp [be_length])]
    rw [ht, map_cpl_cpl, if_neg (by omega), if_neg (by simp [be_length]), if_neg, if_neg, hhd, if_pos (by omega)]
    · rw [val_be, Nat.mod_eq_of_lt hl]; simp [be_length]; omega
    · rw [val_be, Nat.mod_eq_of_lt hl]; omega
    · rintro ⟨hp, e⟩; exact be_head _ _ hp (nb_ge hp) hl e
theorem headD_val (l : List UInt8) (h0 : 0 < l.length) (h : l.headD 0 ≠ 0) : 256 ^ (l.length - 1) ≤ val l := by
  cases l with
  | nil => simp at h0
  | cons c t =>
    simp only [List.headD_cons] at h
    rw [val_cons]
    have : 1 ≤ c.toNat := by
      rcases Nat.eq_zero_or_pos c.toNat with e | e
      · exact absurd (UInt8.toNat_inj.1 (by simpa using e)) h
      · exact e
    have h2 : 1 * 256 ^ t.length ≤ c.toNat * 256 ^ t.length := Nat.mul_le_mul_right _ this
    simp only [List.length_cons, Nat.add_sub_cancel]
    omega
theorem enc_of_dec {b : List UInt8} {n : Int} {k : Nat} (h : decInt b = .ok (n, k)) :
    k ≤ b.length ∧ 0 < k ∧ b.take k = encInt n ∧ inI64 n := by
  cases b with
  | nil => simp [decInt] at h
  | cons c t =>
    simp only [decInt] at h
    split at h; · cases h
    split at h; · cases h
    split at h; · cases h
    split at h; · cases h
    rename_i h1 h2 h3 h4
    simp only [Except.ok.injEq, Prod.mk.injEq] at h
    obtain ⟨hn, hk⟩ := h
    have hc := c.toNat_lt
    have hlen : (t.take (headK c)).length = headK c := by rw [List.length_take]; omega
    refine ⟨by simp only [List.length_cons]; omega, by omega, ?_, ?_⟩
    · rw [← hk, List.take_succ_cons]
      unfold encInt
      by_cases hneg : c.toNat < 128
      · rw [if_pos hneg] at hn
        have hds : digs c (t.take (headK c)) = (t.take (headK c)).map cpl := by unfold digs; rw [if_pos hneg]
        rw [hds] at hn h3 h4
        generalize hd : (t.take (headK c)).map cpl = ds at *
        have hdl : ds.length = headK c := by rw [← hd, List.length_map]; exact hlen
        have hv : (-1 - n).toNat = val ds := by omega
        rw [if_neg (by omega), hv]
        have hnb : nb (val ds) = headK c := by
          refine nbF_eq 8 _ _ (by rw [← hdl]; exact val_lt ds) ?_ (by omega)
          by_cases hz : headK c = 0
          · exact .inl hz
          · exact .inr (by rw [← hdl]; exact headD_val ds (by omega) (fun e => h3 ⟨by omega, e⟩))
        rw [hnb]
        congr 1
        · apply UInt8.toNat_inj.1
          have : headK c = 127 - c.toNat := by unfold headK; rw [if_pos hneg]
          simp only [UInt8.toNat_ofNat']; omega
        · have e := be_val ds; rw [hdl] at e; rw [e, ← hd, map_cpl_cpl]
      · rw [if_neg hneg] at hn
        have hds : digs c (t.take (headK c)) = t.take (headK c) := by unfold digs; rw [if_neg hneg]
        rw [hds] at hn h3 h4
        generalize hd : t.take (headK c) = ds at *
        have hdl : ds.length = headK c := hlen
        have hv : n.toNat = val ds := by omega
        rw [if_pos (by omega), hv]
        have hnb : nb (val ds) = headK c := by
          refine nbF_eq 8 _ _ (by rw [← hdl]; exact val_lt ds) ?_ (by omega)
          by_cases hz : headK c = 0
          · exact .inl hz
          · exact .inr (by rw [← hdl]; exact headD_val ds (by omega) (fun e => h3 ⟨by omega, e⟩))
        rw [hnb]
        congr 1
        · apply UInt8.toNat_inj.1
          have : headK c = c.toNat - 128 := by unfold headK; rw [if_neg hneg]
          simp only [UInt8.toNat_ofNat']; omega
        · rw [← hdl, be_val]
    · unfold inI64
      split at hn <;> omega
theorem encInt_inj {a b : Int} (ha : inI64 a) (hb : inI64 b) {r s : List UInt8} (h : encInt a ++ r = encInt b ++ s) : a = b ∧ r = s := by
  have h1 := dec_enc a ha r
  have h2 := dec_enc b hb s
  rw [h, h2] at h1
  simp only [Except.ok.injEq, Prod.mk.injEq] at h1
  obtain ⟨e, _⟩ := h1
  subst e
  exact ⟨rfl, List.append_cancel_left h⟩
end Cu
namespace Cu
/-! lists of encodings -/
def getLoop {α : Type} (dec : List UInt8 → Res α) (b : List UInt8) : Nat → List α → Nat → Res (List α)
  | 0, out, pos => .ok (out, pos)
  | n + 1, out, pos => match dec (b.drop pos) with
    | .error e => .error e
    | .ok (x, k) => getLoop dec b n (out ++ [x]) (pos + k)
/-- The length of a list whose elements have at least the given size. -/
def decCount (b : List UInt8) (size : Nat) : Res Nat := match decInt b with
  | .error e => .error e
  | .ok (n, pos) => if n < 0 then .error 6 else if n.toNat > (b.length - pos) / size then .error 5 else .ok (n.toNat, pos)
def decList {α : Type} (size : Nat) (dec : List UInt8 → Res α) (b : List UInt8) : Res (List α) := match decCount b size with
  | .error e => .error e
  | .ok (n, pos) => getLoop dec b n [] pos
def encList {α : Type} (enc : α → List UInt8) (l : List α) : List UInt8 := encInt l.length ++ l.flatMap enc
def decBytes (b : List UInt8) : Res (List UInt8) := match decCount b 1 with
  | .error e => .error e
  | .ok (n, pos) => .ok ((b.drop pos).take n, pos + n)
def encBytes (s : List UInt8) : List UInt8 := encInt s.length ++ s

theorem decCount_enc (n : Nat) (size : Nat) (hs : 0 < size) (r : List UInt8) (hn : n < 2 ^ 63) (hr : n * size ≤ r.length) :
    decCount (encInt n ++ r) size = .ok (n, (encInt n).length) := by
  unfold decCount
  rw [dec_enc _ ⟨by omega, by omega⟩]
  simp only
  rw [if_neg (by omega), if_neg, Int.toNat_natCast]
  rw [Int.toNat_natCast, List.length_append, Nat.add_sub_cancel_left]
  have := (Nat.le_div_iff_mul_le hs).2 hr
  omega
theorem getLoop_enc {α : Type} (enc : α → List UInt8) (dec : List UInt8 → Res α) (b r : List UInt8) (l : List α)
    (h : ∀ x ∈ l, ∀ r, dec (enc x ++ r) = .ok (x, (enc x).length)) :
    ∀ (out : List α) (pos : Nat), b.drop pos = l.flatMap enc ++ r → getLoop dec b l.length out pos = .ok (out ++ l, pos + (l.flatMap enc).length) := by
  induction l with
  | nil => intro out pos _; simp [getLoop]
  | cons x t ih =>
    intro out pos hb
    simp only [List.length_cons, getLoop]
    have e : b.drop pos = enc x ++ (t.flatMap enc ++ r) := by rw [hb]; simp
    rw [e, h x (by simp)]
    simp only
    rw [ih (fun y hy => h y (by simp [hy])) (out ++ [x]) (pos + (enc x).length)]
    · simp [Nat.add_assoc]
    · rw [← List.drop_drop, e, List.drop_left]
theorem flatMap_length_ge {α : Type} (enc : α → List UInt8) (size : Nat) (l : List α) (h : ∀ x ∈ l, size ≤ (enc x).length) : l.length * size ≤ (l.flatMap enc).length := by
  induction l with
  | nil => simp
  | cons x t ih =>
    have h1 := h x (by simp)
    have h2 := ih (fun y hy => h y (by simp [hy]))
    simp only [List.length_cons, List.flatMap_cons, List.length_append, Nat.add_mul, Nat.one_mul]
    omega
theorem decList_enc {α : Type} (size : Nat) (hs : 0 < size) (enc : α → List UInt8) (dec : List UInt8 → Res α) (l : List α) (r : List UInt8)
    (h : ∀ x ∈ l, ∀ r, dec (enc x ++ r) = .ok (x, (enc x).length)) (h1 : ∀ x ∈ l, size ≤ (enc x).length) (hl : l.length < 2 ^ 63) :
    decList size dec (encList enc l ++ r) = .ok (l, (encList enc l).length) := by
  unfold decList encList
  have hg := flatMap_length_ge enc size l h1
  rw [List.append_assoc, decCount_enc _ _ hs _ hl (by rw [List.length_append]; omega)]
  simp only
  rw [getLoop_enc enc dec _ r l h]
  · simp
  · rw [List.drop_left]
theorem decBytes_enc (s r : List UInt8) (h : s.length < 2 ^ 63) : decBytes (encBytes s ++ r) = .ok (s, (encBytes s).length) := by
  unfold decBytes encBytes
  rw [List.append_assoc, decCount_enc _ _ (by omega) _ h (by simp)]
  simp
theorem enc_of_decCount {b : List UInt8} {size n k : Nat} (hs : 0 < size) (h : decCount b size = .ok (n, k)) :
    k ≤ b.length ∧ 0 < k ∧ b.take k = encInt n ∧ n < 2 ^ 63 ∧ n * size ≤ b.length - k := by
  unfold decCount at h
  split at h
  · cases h
  · rename_i m pos hd
    split at h; · cases h
    split at h; · cases h
    rename_i h1 h2
    simp only [Except.ok.injEq, Prod.mk.injEq] at h
    obtain ⟨rfl, rfl⟩ := h
    obtain ⟨a, b', c, d⟩ := enc_of_dec hd
    unfold inI64 at d
    refine ⟨a, b', ?_, by omega, ?_⟩
    · rw [c]; congr 1; omega
    · exact (Nat.le_div_iff_mul_le hs).1 (by omega)
theorem getLoop_sound {α : Type} (enc : α → List UInt8) (dec : List UInt8 → Res α) (b : List UInt8)
    (hd : ∀ b x k, dec b = .ok (x, k) → k ≤ b.length ∧ b.take k = enc x) (n : Nat) :
    ∀ (out : List α) (pos : Nat) (l : List α) (k : Nat), pos ≤ b.length → getLoop dec b n out pos = .ok (l, k) →
      ∃ m, l = out ++ m ∧ m.length = n ∧ k ≤ b.length ∧ pos ≤ k ∧ (b.drop pos).take (k - pos) = m.flatMap enc := by
  induction n with
  | zero =>
    intro out pos l k hp h
    simp only [getLoop, Except.ok.injEq, Prod.mk.injEq] at h
    obtain ⟨rfl, rfl⟩ := h
    exact ⟨[], by simp, rfl, hp, Nat.le_refl _, by simp⟩
  | succ n ih =>
    intro out pos l k hp h
    simp only [getLoop] at h
    split at h
    · cases h
    · rename_i x j hx
      obtain ⟨h1, h2⟩ := hd _ _ _ hx
      rw [List.length_drop] at h1
      obtain ⟨m, rfl, hm, hk, hle, e⟩ := ih _ _ _ _ (by omega) h
      refine ⟨x :: m, by simp, by simp [hm], hk, by omega, ?_⟩
      rw [List.flatMap_cons, ← h2, ← e, ← List.drop_drop]
      generalize b.drop pos = c
      rw [show k - pos = j + (k - (pos + j)) by omega, List.take_add]
theorem enc_of_decList {α : Type} {size : Nat} (hs : 0 < size) (enc : α → List UInt8) (dec : List UInt8 → Res α)
    (hd : ∀ b x k, dec b = .ok (x, k) → k ≤ b.length ∧ b.take k = enc x) {b : List UInt8} {l : List α} {k : Nat} (h : decList size dec b = .ok (l, k)) :
    k ≤ b.length ∧ b.take k = encList enc l ∧ l.length < 2 ^ 63 ∧ l.length * size ≤ b.length := by
  unfold decList at h
  split at h
  · cases h
  · rename_i n pos hc
    obtain ⟨a, _, c, d, e'⟩ := enc_of_decCount hs hc
    obtain ⟨m, rfl, hm, hk, hle, e⟩ := getLoop_sound enc dec b hd n _ _ _ _ a h
    refine ⟨hk, ?_, by simp [hm]; omega, by simp [hm]; omega⟩
    unfold encList
    simp only [List.nil_append, hm]
    rw [← c, ← e]
    rw [show k = pos + (k - pos) by omega, List.take_add]
    simp
theorem enc_of_decBytes {b s : List UInt8} {k : Nat} (h : decBytes b = .ok (s, k)) : k ≤ b.length ∧ b.take k = encBytes s ∧ s.length < 2 ^ 63 := by
  unfold decBytes at h
  split at h
  · cases h
  · rename_i n pos hc
    obtain ⟨a, _, c, d, e⟩ := enc_of_decCount (by omega) hc
    simp only [Except.ok.injEq, Prod.mk.injEq] at h
    obtain ⟨rfl, rfl⟩ := h
    have hl : ((b.drop pos).take n).length = n := by rw [List.length_take, List.length_drop]; omega
    refine ⟨by omega, ?_, by omega⟩
    unfold encBytes
    rw [hl, ← c, List.take_add]
end Cu
/-! SHA-256, on numbers. -/
namespace Cu
def rotr (x n : Nat) : Nat := (x >>> n) ||| ((x <<< (32 - n)) % 4294967296)
def ks : List Nat := [
  0x428a2f98, 0x71374491, 0xb5c0fbcf, 0xe9b5dba5, 0x3956c25b, 0x59f111f1, 0x923f82a4, 0xab1c5ed5,
  0xd807aa98, 0x12835b01, 0x243185be, 0x550c7dc3, 0x72be5d74, 0x80deb1fe, 0x9bdc06a7, 0xc19bf174,
  0xe49b69c1, 0xefbe4786, 0x0fc19dc6, 0x240ca1cc, 0x2de92c6f, 0x4a7484aa, 0x5cb0a9dc, 0x76f988da,
  0x983e5152, 0xa831c66d, 0xb00327c8, 0xbf597fc7, 0xc6e00bf3, 0xd5a79147, 0x06ca6351, 0x14292967,
  0x27b70a85, 0x2e1b2138, 0x4d2c6dfc, 0x53380d13, 0x650a7354, 0x766a0abb, 0x81c2c92e, 0x92722c85,
  0xa2bfe8a1, 0xa81a664b, 0xc24b8b70, 0xc76c51a3, 0xd192e819, 0xd6990624, 0xf40e3585, 0x106aa070,
  0x19a4c116, 0x1e376c08, 0x2748774c, 0x34b0bcb5, 0x391c0cb3, 0x4ed8aa4a, 0x5b9cca4f, 0x682e6ff3,
  0x748f82ee, 0x78a5636f, 0x84c87814, 0x8cc70208, 0x90befffa, 0xa4506ceb, 0xbef9a3f7, 0xc67178f2]
def sig0 (p : Nat) : Nat := rotr p 7 ^^^ rotr p 18 ^^^ (p >>> 3)
def sig1 (q : Nat) : Nat := rotr q 17 ^^^ rotr q 19 ^^^ (q >>> 10)
def mix3 (x i j k : Nat) : Nat := rotr x i ^^^ rotr x j ^^^ rotr x k
def nextW (l : List Nat) (t : Nat) : Nat :=
  (l.getD (t - 16) 0 + sig0 (l.getD (t - 15) 0) + l.getD (t - 7) 0 + sig1 (l.getD (t - 2) 0)) % 4294967296
def extend : Nat → List Nat → List Nat
  | 0, l => l
  | n + 1, l => extend n (l ++ [nextW l l.length])
/-- The words of a block's bytes. -/
def words : List UInt8 → List Nat
  | a :: b :: c :: d :: r => (((a.toNat * 256 + b.toNat) * 256 + c.toNat) * 256 + d.toNat) :: words r
  | _ => []
def sched (b : List UInt8) : List Nat := extend 48 (words b)
structure St where
  a : Nat
  b : Nat
  c : Nat
  d : Nat
  e : Nat
  f : Nat
  g : Nat
  h : Nat
def St.list (s : St) : List Nat := [s.a, s.b, s.c, s.d, s.e, s.f, s.g, s.h]
def add32 (a b : Nat) : Nat := (a + b) % 4294967296
def round (s : St) (k w : Nat) : St :=
  let x := (s.h + mix3 s.e 6 11 25 + ((s.e &&& s.f) ^^^ ((s.e ^^^ 4294967295) &&& s.g)) + k + w) % 4294967296
  let y := (mix3 s.a 2 13 22 + ((s.a &&& s.b) ^^^ (s.a &&& s.c) ^^^ (s.b &&& s.c))) % 4294967296
  ⟨add32 x y, s.a, s.b, s.c, add32 s.d x, s.e, s.f, s.g⟩
def rounds : List Nat → List Nat → St → St
  | k :: ks, w :: ws, s => rounds ks ws (round s k w)
  | _, _, s => s
def St.add (s v : St) : St := ⟨add32 s.a v.a, add32 s.b v.b, add32 s.c v.c, add32 s.d v.d, add32 s.e v.e, add32 s.f v.f, add32 s.g v.g, add32 s.h v.h⟩
def compress (s : St) (b : List UInt8) : St := s.add (rounds ks (sched b) s)
def init : St := ⟨0x6a09e667, 0xbb67ae85, 0x3c6ef372, 0xa54ff53a, 0x510e527f, 0x9b05688c, 0x1f83d9ab, 0x5be0cd19⟩
/-- All whole blocks are taken in; what is left. -/
def absorbF : Nat → St → List UInt8 → St × List UInt8
  | 0, s, m => (s, m)
  | k + 1, s, m => if 64 ≤ m.length then absorbF k (compress s (m.take 64)) (m.drop 64) else (s, m)
def absorb (s : St) (m : List UInt8) : St × List UInt8 := absorbF (m.length / 64) s m
def pad (n : Nat) : List UInt8 := 128 :: (List.replicate ((119 - n % 64) % 64) 0 ++ [56, 48, 40, 32, 24, 16, 8, 0].map fun k => UInt8.ofNat ((8 * n) / 2 ^ k))
def outWord (x : Nat) : List UInt8 := [UInt8.ofNat (x / 16777216), UInt8.ofNat (x / 65536), UInt8.ofNat (x / 256), UInt8.ofNat x]
def sha (m : List UInt8) : List UInt8 := (absorb init (m ++ pad m.length)).1.list.flatMap outWord
theorem sha_abc : sha [97, 98, 99] = [0xba, 0x78, 0x16, 0xbf, 0x8f, 0x01, 0xcf, 0xea, 0x41, 0x41, 0x40, 0xde, 0x5d, 0xae, 0x22, 0x23, 0xb0, 0x03, 0x61, 0xa3, 0x96, 0x17, 0x7a, 0x9c, 0xb4, 0x10, 0xff, 0x61, 0xf2, 0x00, 0x15, 0xad] := by decide +kernel

theorem absorbF_more (k : Nat) : ∀ (s : St) (m : List UInt8), m.length / 64 ≤ k → absorbF k s m = absorbF (m.length / 64) s m := by
  induction k with
  | zero => intro s m h; rw [show m.length / 64 = 0 by omega]
  | succ k ih =>
    intro s m h
    rcases Nat.lt_or_ge m.length 64 with h2 | h2
    · rw [Nat.div_eq_of_lt h2]; simp only [absorbF]; rw [if_neg (by omega)]
    · obtain ⟨j, hj⟩ : ∃ j, m.length / 64 = j + 1 := ⟨m.length / 64 - 1, by omega⟩
      rw [hj]
      simp only [absorbF]
      rw [if_pos h2]
      have hd : (m.drop 64).length / 64 = j := by rw [List.length_drop]; omega
      rw [ih _ _ (by omega), hd, if_pos h2]
theorem absorb_small (s : St) (m : List UInt8) (h : m.length < 64) : absorb s m = (s, m) := by
  unfold absorb
  rw [Nat.div_eq_of_lt h]; rfl
theorem absorb_big (s : St) (m : List UInt8) (h : 64 ≤ m.length) : absorb s m = absorb (compress s (m.take 64)) (m.drop 64) := by
  unfold absorb
  obtain ⟨j, hj⟩ : ∃ j, m.length / 64 = j + 1 := ⟨m.length / 64 - 1, by omega⟩
  have hd : (m.drop 64).length / 64 = j := by rw [List.length_drop]; omega
  rw [hj, hd]
  simp only [absorbF]
  rw [if_pos h]
theorem absorb_append (n : Nat) : ∀ (s : St) (a b : List UInt8), a.length ≤ n → absorb s (a ++ b) = absorb (absorb s a).1 ((absorb s a).2 ++ b) := by
  induction n with
  | zero =>
    intro s a b h
    obtain rfl : a = [] := List.eq_nil_of_length_eq_zero (by omega)
    rw [absorb_small s [] (by simp)]
  | succ n ih =>
    intro s a b h
    rcases Nat.lt_or_ge a.length 64 with h2 | h2
    · rw [absorb_small s a h2]
    · rw [absorb_big s (a ++ b) (by simp; omega), absorb_big s a h2]
      rw [List.take_append_of_le_length h2, List.drop_append_of_le_length h2]
      exact ih _ _ _ (by rw [List.length_drop]; omega)
theorem absorb_rest (n : Nat) : ∀ (s : St) (m : List UInt8), m.length ≤ n → (absorb s m).2.length = m.length % 64 := by
  induction n with
  | zero =>
    intro s m h
    obtain rfl : m = [] := List.eq_nil_of_length_eq_zero (by omega)
    rfl
  | succ n ih =>
    intro s m h
    rcases Nat.lt_or_ge m.length 64 with h2 | h2
    · rw [absorb_small s m h2]; simp only; omega
    · rw [absorb_big s m h2, ih _ _ (by rw [List.length_drop]; omega), List.length_drop]; omega

theorem extend_length (n : Nat) : ∀ l, (extend n l).length = l.length + n := by
  induction n with
  | zero => intro l; rfl
  | succ n ih => intro l; simp only [extend]; rw [ih, List.length_append]; simp; omega
theorem extend_take (n : Nat) : ∀ l, (extend n l).take l.length = l := by
  induction n with
  | zero => intro l; simp [extend]
  | succ n ih =>
    intro l
    simp only [extend]
    have h := ih (l ++ [nextW l l.length])
    have h2 := congrArg (List.take l.length) h
    rw [List.take_take, List.take_left, Nat.min_eq_left (by simp)] at h2
    exact h2
theorem extend_get (n : Nat) : ∀ l t, l.length ≤ t → t < l.length + n → (extend n l)[t]? = some (nextW ((extend n l).take t) t) := by
  induction n with
  | zero => intro l t h1 h2; omega
  | succ n ih =>
    intro l t h1 h2
    simp only [extend]
    rcases Nat.lt_or_ge l.length t with h | h
    · exact ih _ _ (by simp; omega) (by simp; omega)
    · obtain rfl : t = l.length := by omega
      have ht := extend_take n (l ++ [nextW l l.length])
      have e1 : (extend n (l ++ [nextW l l.length])).take l.length = l := by
        have h2 := congrArg (List.take l.length) ht
        rwa [List.take_take, List.take_left, Nat.min_eq_left (by simp)] at h2
      rw [e1]
      have e2 : ((extend n (l ++ [nextW l l.length])).take (l ++ [nextW l l.length]).length)[l.length]? = some (nextW l l.length) := by
        rw [ht, List.getElem?_append_right (Nat.le_refl _)]; simp
      rw [List.getElem?_take] at e2
      rw [if_pos (by simp)] at e2
      exact e2
theorem words_length : ∀ (b : List UInt8) (n : Nat), b.length = 4 * n → (words b).length = n
  | [], n, h => by obtain rfl : n = 0 := by simp at h; omega
                   rfl
  | [_], n, h => by simp at h; omega
  | [_, _], n, h => by simp at h; omega
  | [_, _, _], n, h => by simp at h; omega
  | a :: b :: c :: d :: r, n, h => by
    obtain ⟨m, rfl⟩ : ∃ m, n = m + 1 := ⟨n - 1, by simp at h; omega⟩
    simp only [words, List.length_cons]
    rw [words_length r m (by simp at h; omega)]
theorem words_get : ∀ (b : List UInt8) (n t : Nat), b.length = 4 * n → t < n → (words b)[t]? = some (((b.drop (4 * t)).take 4).foldl (fun m x => m * 256 + x.toNat) 0)
  | [], n, t, h, ht => by simp at h; omega
  | [_], n, t, h, ht => by simp at h; omega
  | [_, _], n, t, h, ht => by simp at h; omega
  | [_, _, _], n, t, h, ht => by simp at h; omega
  | a :: b :: c :: d :: r, n, t, h, ht => by
    cases t with
    | zero => simp [words]
    | succ t =>
      simp only [words, List.getElem?_cons_succ]
      rw [words_get r (n - 1) t (by simp at h; omega) (by omega)]
      rw [show 4 * (t + 1) = 4 * t + 1 + 1 + 1 + 1 by omega]
      simp only [List.drop_succ_cons]
theorem words_lt : ∀ (b : List UInt8), ∀ x ∈ words b, x < 4294967296
  | [] => by simp [words]
  | [_] => by simp [words]
  | [_, _] => by simp [words]
  | [_, _, _] => by simp [words]
  | a :: b :: c :: d :: r => by
    intro x hx
    simp only [words, List.mem_cons] at hx
    rcases hx with rfl | hx
    · have h1 := a.toNat_lt
      have h2 := b.toNat_lt
      have h3 := c.toNat_lt
      have h4 := d.toNat_lt
      omega
    · exact words_lt r x hx
theorem extend_lt (n : Nat) : ∀ l, (∀ x ∈ l, x < 4294967296) → ∀ x ∈ extend n l, x < 4294967296 := by
  induction n with
  | zero => intro l h; exact h
  | succ n ih =>
    intro l h
    simp only [extend]
    refine ih _ fun x hx => ?_
    rcases List.mem_append.1 hx with hx | hx
    · exact h x hx
    · rw [List.mem_singleton.1 hx]; exact Nat.mod_lt _ (by omega)
theorem sched_length (b : List UInt8) (h : b.length = 64) : (sched b).length = 64 := by
  unfold sched
  rw [extend_length, words_length b 16 (by omega)]
theorem sched_lt (b : List UInt8) : ∀ x ∈ sched b, x < 4294967296 := extend_lt _ _ (words_lt b)
theorem sched_word (b : List UInt8) (h : b.length = 64) (t : Nat) (ht : t < 16) : (sched b)[t]? = some (((b.drop (4 * t)).take 4).foldl (fun m x => m * 256 + x.toNat) 0) := by
  have hl := words_length b 16 (by omega)
  have h1 := extend_take 48 (words b)
  rw [hl] at h1
  have h2 := words_get b 16 t (by omega) ht
  rw [← h1, List.getElem?_take, if_pos ht] at h2
  exact h2
theorem sched_next (b : List UInt8) (h : b.length = 64) (t : Nat) (ht : 16 ≤ t) (ht2 : t < 64) : (sched b)[t]? = some (nextW ((sched b).take t) t) := by
  have hl := words_length b 16 (by omega)
  exact extend_get 48 (words b) t (by omega) (by omega)
end Cu
/-! Plain laws: a message hashed piece by piece. -/
namespace Cu
theorem take_app {α : Type} (n : Nat) (a b : List α) (h : a.length = n) : (a ++ b).take n = a := by subst h; simp
theorem drop_app {α : Type} (n : Nat) (a b : List α) (h : a.length = n) : (a ++ b).drop n = b := by subst h; simp
/-- State and block after the message M. -/
structure Rp (h : St) (blk M : List UInt8) : Prop where
  len : blk.length = 64
  st : h = (absorb init M).1
  rest : blk.take (M.length % 64) = (absorb init M).2
def put (blk : List UInt8) (i : Nat) (xs : List UInt8) : List UInt8 := blk.take i ++ xs ++ blk.drop (i + xs.length)
theorem put_length (blk : List UInt8) (i : Nat) (xs : List UInt8) (h : i + xs.length ≤ blk.length) : (put blk i xs).length = blk.length := by
  simp [put]; omega
theorem put_take (blk : List UInt8) (i : Nat) (xs : List UInt8) (h : i + xs.length ≤ blk.length) : (put blk i xs).take (i + xs.length) = blk.take i ++ xs := by
  unfold put
  exact take_app _ _ _ (by simp; omega)
theorem rp_small (h : St) (blk M xs : List UInt8) (hR : Rp h blk M) (hl : M.length % 64 + xs.length < 64) : Rp h (put blk (M.length % 64) xs) (M ++ xs) := by
  have hlen := hR.len
  have e1 : absorb init (M ++ xs) = (h, blk.take (M.length % 64) ++ xs) := by
    rw [absorb_append M.length init M xs (Nat.le_refl _), ← hR.rest, ← hR.st, absorb_small _ _ (by simp; omega)]
  have e2 : (M ++ xs).length % 64 = M.length % 64 + xs.length := by rw [List.length_append]; omega
  refine ⟨by rw [put_length _ _ _ (by omega), hlen], by rw [e1], ?_⟩
  rw [e1, e2]
  exact put_take _ _ _ (by omega)
theorem rp_full (h : St) (blk M xs : List UInt8) (hR : Rp h blk M) (hl : M.length % 64 + xs.length = 64) : Rp (compress h (put blk (M.length % 64) xs)) (put blk (M.length % 64) xs) (M ++ xs) := by
  have hlen := hR.len
  have hp : put blk (M.length % 64) xs = blk.take (M.length % 64) ++ xs := by
    have h1 := put_take blk (M.length % 64) xs (by omega)
    rwa [hl, List.take_of_length_le (by rw [put_length _ _ _ (by omega)]; omega)] at h1
  have hlp : (put blk (M.length % 64) xs).length = 64 := by rw [put_length _ _ _ (by omega), hlen]
  have e1 : absorb init (M ++ xs) = (compress h (put blk (M.length % 64) xs), []) := by
    rw [absorb_append M.length init M xs (Nat.le_refl _), ← hR.rest, ← hR.st, ← hp, absorb_big _ _ (by omega), List.take_of_length_le (by omega), List.drop_of_length_le (by omega), absorb_small _ _ (by simp)]
  have e2 : (M ++ xs).length % 64 = 0 := by rw [List.length_append]; omega
  exact ⟨hlp, by rw [e1], by rw [e1, e2]; rfl⟩
theorem rp_init (blk : List UInt8) (h : blk.length = 64) : Rp init blk [] := ⟨h, rfl, rfl⟩
end Cu
/-! Plain: commands. -/
namespace Cu
structure Cmd where
  kind : Int
  key : Int
  other : Int
  type : Int
  uses : Int
  life : Int
  data : List UInt8
  list : List Int
deriving DecidableEq
structure Row where
  name : List UInt8
  uses : Nat
  least : Nat
  most : Nat
def rws : List Row := [
  ⟨[103, 101, 110, 101, 114, 97, 116, 101], 4, 0, 0⟩,
  ⟨[105, 109, 112, 111, 114, 116], 20, 32, 32⟩,
  ⟨[101, 120, 112, 111, 114, 116], 1, 0, 0⟩,
  ⟨[101, 110, 99, 114, 121, 112, 116], 17, 0, 1000⟩,
  ⟨[100, 101, 99, 114, 121, 112, 116], 17, 28, 1028⟩,
  ⟨[109, 97, 99], 17, 0, 1000⟩,
  ⟨[119, 114, 97, 112], 3, 0, 0⟩,
  ⟨[117, 110, 119, 114, 97, 112], 17, 1, 200⟩,
  ⟨[114, 97, 119, 45, 119, 114, 97, 112], 3, 0, 0⟩,
  ⟨[114, 97, 119, 45, 117, 110, 119, 114, 97, 112], 21, 60, 60⟩,
  ⟨[100, 101, 114, 105, 118, 101], 5, 0, 0⟩,
  ⟨[100, 101, 115, 116, 114, 111, 121], 1, 0, 0⟩,
  ⟨[114, 111, 116, 97, 116, 101], 1, 0, 0⟩,
  ⟨[98, 97, 99, 107, 117, 112], 0, 0, 0⟩,
  ⟨[114, 101, 115, 116, 111, 114, 101], 16, 1, 1048576⟩,
  ⟨[114, 101, 110, 101, 119], 0, 0, 0⟩,
  ⟨[114, 101, 112, 108, 97, 99, 101], 16, 1, 2000⟩,
  ⟨[115, 112, 108, 105, 116], 8, 0, 0⟩,
  ⟨[109, 101, 114, 103, 101], 16, 1, 1048576⟩,
  ⟨[117, 110, 108, 111, 99, 107], 0, 0, 0⟩,
  ⟨[114, 101, 107, 101, 121], 0, 0, 0⟩,
  ⟨[100, 101, 99, 111, 109, 109, 105, 115, 115, 105, 111, 110], 0, 0, 0⟩,
  ⟨[112, 114, 111, 112, 111, 115, 101], 18, 16, 16⟩,
  ⟨[97, 112, 112, 114, 111, 118, 101], 19, 1, 2000⟩,
  ⟨[119, 105, 116, 104, 100, 114, 97, 119], 19, 1, 2000⟩,
  ⟨[104, 101, 97, 100], 0, 0, 0⟩,
  ⟨[112, 105, 101, 99, 101], 3, 0, 0⟩]
def isKind (n : Int) : Bool := decide (1 ≤ n) && decide (n ≤ 27)
def rowOf (n : Int) : Row := rws.getD (n - 1).toNat ⟨[], 0, 0, 0⟩
def nameOf (n : Int) : List UInt8 := if isKind n then (rowOf n).name else []
def kindAt (s : List UInt8) : Option Nat := rws.findIdx? fun r => r.name == s
/-- A number that a field may hold. -/
def numB (u f : Nat) (n most : Int) : Bool := decide (0 ≤ n) && decide (n ≤ if u &&& f = 0 then 0 else most)
def incB (last : Int) : List Int → Bool
  | [] => true
  | x :: r => decide (last < x) && decide (x ≤ 4096) && incB x r
def keysB (u : Nat) (l : List Int) : Bool := if u &&& 8 = 0 then l.isEmpty else incB 0 l && !l.isEmpty
/-- No bit is set but those of 956. -/
def usesB (n : Int) : Bool := decide (0 ≤ n) && (n.toNat &&& 956 == n.toNat)
def numsB (u : Nat) (c : Cmd) : Bool := numB u 1 c.key 4294967296 && numB u 2 c.other 4294967296 && numB u 4 c.type 31 && numB u 4 c.uses 956 && numB u 4 c.life 1099511627776
def check (c : Cmd) : Nat :=
  bif isKind c.kind then
    bif numsB (rowOf c.kind).uses c && usesB c.uses && keysB (rowOf c.kind).uses c.list && ((rowOf c.kind).uses &&& 16 != 0 || c.data.isEmpty) && decide ((rowOf c.kind).least ≤ c.data.length) then
      bif decide ((rowOf c.kind).most < c.data.length) then 2 else 0
    else 1
  else 1
def encCmd (c : Cmd) : List UInt8 := encInt c.kind ++ encInt c.key ++ encInt c.other ++ encInt c.type ++ encInt c.uses ++ encInt c.life ++ encBytes c.data ++ encList encInt c.list
/-- Six numbers, one behind the other. -/
def dec6 (b : List UInt8) : Nat → Nat → Res (List Int)
  | 0, pos => .ok ([], pos)
  | k + 1, pos => match decInt (b.drop pos) with
    | .error e => .error e
    | .ok (x, u) => match dec6 b k (pos + u) with
      | .error e => .error e
      | .ok (l, q) => .ok (x :: l, q)
def zeroCmd : Cmd := ⟨0, 0, 0, 0, 0, 0, [], []⟩
def cmdOf (l : List Int) (s : List UInt8) (ks : List Int) : Cmd := ⟨l.getD 0 0, l.getD 1 0, l.getD 2 0, l.getD 3 0, l.getD 4 0, l.getD 5 0, s, ks⟩
/-- A command, or an error. -/
def decCmd (b : List UInt8) : Except Nat Cmd := match dec6 b 6 0 with
  | .error e => .error e
  | .ok (l, p) => match decBytes (b.drop p) with
    | .error e => .error e
    | .ok (s, i) => match decList 1 decInt (b.drop (p + i)) with
      | .error e => .error e
      | .ok (ks, j) => if p + i + j < b.length then .error 6 else
        if check (cmdOf l s ks) = 0 then .ok (cmdOf l s ks) else .error (check (cmdOf l s ks))
/-- Cells that lie in rows of one width. -/
theorem flat_get {α β : Type} (f : α → List β) (s : Nat) (hf : ∀ x, (f x).length = s) : ∀ (l : List α) (k j : Nat), j < s → (l.flatMap f)[s * k + j]? = (l[k]?).bind fun x => (f x)[j]?
  | [], k, j, _ => by simp
  | x :: r, 0, j, hj => by
    simp only [List.flatMap_cons, Nat.mul_zero, Nat.zero_add]
    rw [List.getElem?_append_left (by rw [hf]; exact hj)]; rfl
  | x :: r, k + 1, j, hj => by
    simp only [List.flatMap_cons]
    rw [List.getElem?_append_right (by rw [hf, Nat.mul_succ]; omega), hf, show s * (k + 1) + j - s = s * k + j by rw [Nat.mul_succ]; omega, flat_get f s hf r k j hj]
    rfl
theorem rws_length : rws.length = 27 := rfl
theorem rowOf_get (n : Int) (h : isKind n = true) : rws[(n - 1).toNat]? = some (rowOf n) := by
  unfold isKind at h
  simp only [Bool.and_eq_true, decide_eq_true_eq] at h
  unfold rowOf
  rw [List.getD_eq_getElem?_getD, List.getElem?_eq_getElem (by rw [rws_length]; omega)]
  rfl
end Cu
/-! Plain: what is encoded is decoded; fields of well-formed commands. -/
namespace Cu
theorem dec6_enc (b r : List UInt8) : ∀ (l : List Int) (pos : Nat), (∀ x ∈ l, inI64 x) → b.drop pos = l.flatMap encInt ++ r → dec6 b l.length pos = .ok (l, pos + (l.flatMap encInt).length)
  | [], pos, _, _ => by simp [dec6]
  | x :: l, pos, h, hb => by
    have hx := h x (by simp)
    have hd : decInt (b.drop pos) = .ok (x, (encInt x).length) := by
      rw [hb, List.flatMap_cons, List.append_assoc]; exact dec_enc x hx _
    have h2 : b.drop (pos + (encInt x).length) = l.flatMap encInt ++ r := by
      rw [← List.drop_drop, hb, List.flatMap_cons, List.append_assoc, List.drop_left]
    have ih := dec6_enc b r l (pos + (encInt x).length) (fun y hy => h y (by simp [hy])) h2
    simp only [List.length_cons, dec6, hd, ih, List.flatMap_cons, List.length_append, Nat.add_assoc]
theorem enc_pos (n : Int) : 1 ≤ (encInt n).length := encInt_length_pos n
/-- All that is read of an encoding, well-formed or not. -/
theorem read_enc (c : Cmd) (h6 : ∀ x ∈ [c.kind, c.key, c.other, c.type, c.uses, c.life], inI64 x) (hl : ∀ x ∈ c.list, inI64 x) (hd : c.data.length < 2 ^ 63) (hn : c.list.length < 2 ^ 63) (r : List UInt8) :
    ∃ p i j, dec6 (encCmd c ++ r) 6 0 = .ok ([c.kind, c.key, c.other, c.type, c.uses, c.life], p) ∧ decBytes ((encCmd c ++ r).drop p) = .ok (c.data, i) ∧ decList 1 decInt ((encCmd c ++ r).drop (p + i)) = .ok (c.list, j) ∧ p + i + j = (encCmd c).length := by
  have e : encCmd c = [c.kind, c.key, c.other, c.type, c.uses, c.life].flatMap encInt ++ (encBytes c.data ++ encList encInt c.list) := by
    simp [encCmd, List.append_assoc]
  generalize hn6 : [c.kind, c.key, c.other, c.type, c.uses, c.life] = l6 at *
  have hl6 : l6.length = 6 := by rw [← hn6]; rfl
  have h1 := dec6_enc (encCmd c ++ r) (encBytes c.data ++ encList encInt c.list ++ r) l6 0 h6 (by rw [e]; simp [List.append_assoc])
  rw [hl6, Nat.zero_add] at h1
  have d1 : (encCmd c ++ r).drop (l6.flatMap encInt).length = encBytes c.data ++ (encList encInt c.list ++ r) := by
    rw [e]; simp only [List.append_assoc]; exact List.drop_left
  have d2 : (encCmd c ++ r).drop ((l6.flatMap encInt).length + (encBytes c.data).length) = encList encInt c.list ++ r := by
    rw [← List.drop_drop, d1, List.drop_left]
  refine ⟨_, _, _, h1, by rw [d1]; exact decBytes_enc _ _ hd, by rw [d2]; exact decList_enc 1 (by omega) encInt decInt c.list r (fun x hx r => dec_enc x (hl x hx) r) (fun x _ => enc_pos x) hn, ?_⟩
  rw [e]; simp only [List.length_append]; omega
theorem decCmd_enc (c : Cmd) (h6 : ∀ x ∈ [c.kind, c.key, c.other, c.type, c.uses, c.life], inI64 x) (hl : ∀ x ∈ c.list, inI64 x) (hd : c.data.length < 2 ^ 63) (hn : c.list.length < 2 ^ 63) :
    decCmd (encCmd c) = if check c = 0 then .ok c else .error (check c) := by
  obtain ⟨p, i, j, e1, e2, e3, e4⟩ := read_enc c h6 hl hd hn []
  rw [List.append_nil] at e1 e2 e3
  have ec : cmdOf [c.kind, c.key, c.other, c.type, c.uses, c.life] c.data c.list = c := rfl
  unfold decCmd
  simp only [e1, e2, e3, ec, e4, Nat.lt_irrefl, if_false]
theorem encCmd_inj (c d : Cmd) (h6 : ∀ x ∈ [c.kind, c.key, c.other, c.type, c.uses, c.life], inI64 x) (hl : ∀ x ∈ c.list, inI64 x) (hd : c.data.length < 2 ^ 63) (hn : c.list.length < 2 ^ 63)
    (k6 : ∀ x ∈ [d.kind, d.key, d.other, d.type, d.uses, d.life], inI64 x) (kl : ∀ x ∈ d.list, inI64 x) (kd : d.data.length < 2 ^ 63) (kn : d.list.length < 2 ^ 63) {r s : List UInt8} (h : encCmd c ++ r = encCmd d ++ s) : c = d ∧ r = s := by
  obtain ⟨p, i, j, e1, e2, e3, e4⟩ := read_enc c h6 hl hd hn r
  obtain ⟨p', i', j', f1, f2, f3, f4⟩ := read_enc d k6 kl kd kn s
  rw [h] at e1 e2 e3
  rw [e1] at f1
  injection f1 with f1
  injection f1 with f1 f1'
  subst f1'
  rw [e2] at f2
  injection f2 with f2
  injection f2 with f2 f2'
  subst f2'
  rw [e3] at f3
  injection f3 with f3
  injection f3 with f3 f3'
  subst f3'
  have hlen : (encCmd c).length = (encCmd d).length := e4.symm.trans f4
  refine ⟨?_, ?_⟩
  · obtain ⟨a0, a1, a2, a3, a4, a5, a6, a7⟩ := c
    obtain ⟨b0, b1, b2, b3, b4, b5, b6, b7⟩ := d
    simp only [List.cons.injEq, and_true] at f1
    simp only at f2 f3
    obtain ⟨rfl, rfl, rfl, rfl, rfl, rfl⟩ := f1
    subst f2 f3
    rfl
  · have := congrArg (List.drop (encCmd c).length) h
    rw [List.drop_left, hlen, List.drop_left] at this
    exact this
/-! Fields -/
theorem numB_zero {n most : Int} {f u : Nat} (hu : u &&& f = 0) (h : numB u f n most = true) : n = 0 := by
  unfold numB at h
  rw [if_pos hu] at h
  simp at h
  omega
structure Fit (c : Cmd) : Prop where
  kind : isKind c.kind = true
  nums : numsB (rowOf c.kind).uses c = true
  keys : keysB (rowOf c.kind).uses c.list = true
  data : ((rowOf c.kind).uses &&& 16 != 0 || c.data.isEmpty) = true
theorem fit_of {c : Cmd} (h : check c = 0) : Fit c := by
  unfold check at h
  cases h1 : isKind c.kind with
  | false => rw [h1] at h; simp at h
  | true =>
    rw [h1] at h
    simp only [cond_true] at h
    cases h2 : (numsB (rowOf c.kind).uses c && usesB c.uses && keysB (rowOf c.kind).uses c.list && ((rowOf c.kind).uses &&& 16 != 0 || c.data.isEmpty) && decide ((rowOf c.kind).least ≤ c.data.length)) with
    | false => rw [h2] at h; simp at h
    | true =>
      simp only [Bool.and_eq_true] at h2
      exact ⟨h1, h2.1.1.1.1, h2.1.1.2, h2.1.2⟩
theorem fit_nums {c : Cmd} (h : Fit c) : numB (rowOf c.kind).uses 1 c.key 4294967296 = true ∧ numB (rowOf c.kind).uses 2 c.other 4294967296 = true ∧ numB (rowOf c.kind).uses 4 c.type 31 = true ∧ numB (rowOf c.kind).uses 4 c.uses 956 = true ∧ numB (rowOf c.kind).uses 4 c.life 1099511627776 = true := by
  have := h.nums
  unfold numsB at this
  simp only [Bool.and_eq_true] at this
  exact ⟨this.1.1.1.1, this.1.1.1.2, this.1.1.2, this.1.2, this.2⟩
theorem fit_list {c : Cmd} (h : Fit c) (hu : (rowOf c.kind).uses &&& 8 = 0) : c.list = [] := by
  have := h.keys
  unfold keysB at this
  rw [if_pos hu] at this
  simpa using this
theorem fit_data {c : Cmd} (h : Fit c) (hu : (rowOf c.kind).uses &&& 16 = 0) : c.data = [] := by
  have := h.data
  simpa [hu] using this
theorem fit_split {c : Cmd} (h : Fit c) : (c.list = []) ↔ c.kind ≠ 18 := by
  have hk := h.kind
  unfold isKind at hk
  simp only [Bool.and_eq_true, decide_eq_true_eq] at hk
  have key := h.keys
  have tab : ∀ j : Fin 27, ((rowOf ((j.val : Int) + 1)).uses &&& 8 = 0) ↔ ((j.val : Int) + 1 ≠ 18) := by decide +kernel
  have t := tab ⟨(c.kind - 1).toNat, by omega⟩
  have e : (((c.kind - 1).toNat : Nat) : Int) + 1 = c.kind := by omega
  rw [e] at t
  unfold keysB at key
  by_cases hu : (rowOf c.kind).uses &&& 8 = 0
  · rw [if_pos hu] at key
    exact ⟨fun _ => t.1 hu, fun _ => by simpa using key⟩
  · rw [if_neg hu] at key
    simp only [Bool.and_eq_true, Bool.not_eq_true', List.isEmpty_eq_false_iff] at key
    exact ⟨fun e => absurd e key.2, fun e => absurd (t.2 e) hu⟩
theorem fit_none {c : Cmd} (h : Fit c) (hu : (rowOf c.kind).uses = 0) : c = ⟨c.kind, 0, 0, 0, 0, 0, [], []⟩ := by
  obtain ⟨n1, n2, n3, n4, n5⟩ := fit_nums h
  rw [hu] at n1 n2 n3 n4 n5
  have hl := fit_list h (by rw [hu]; rfl)
  have hd := fit_data h (by rw [hu]; rfl)
  have a1 := numB_zero (by rfl) n1
  have a2 := numB_zero (by rfl) n2
  have a3 := numB_zero (by rfl) n3
  have a4 := numB_zero (by rfl) n4
  have a5 := numB_zero (by rfl) n5
  obtain ⟨k, k1, k2, k3, k4, k5, d, l⟩ := c
  simp only at hl hd a1 a2 a3 a4 a5
  subst hl hd a1 a2 a3 a4 a5
  rfl
theorem fit_key {c : Cmd} (h : Fit c) (hu : (rowOf c.kind).uses = 1) : c = ⟨c.kind, c.key, 0, 0, 0, 0, [], []⟩ := by
  obtain ⟨n1, n2, n3, n4, n5⟩ := fit_nums h
  rw [hu] at n1 n2 n3 n4 n5
  have hl := fit_list h (by rw [hu]; rfl)
  have hd := fit_data h (by rw [hu]; rfl)
  have a2 := numB_zero (by rfl) n2
  have a3 := numB_zero (by rfl) n3
  have a4 := numB_zero (by rfl) n4
  have a5 := numB_zero (by rfl) n5
  obtain ⟨k, k1, k2, k3, k4, k5, d, l⟩ := c
  simp only at hl hd a2 a3 a4 a5
  subst hl hd a2 a3 a4 a5
  rfl
theorem fit_grant {c : Cmd} (h : Fit c) (hu : (rowOf c.kind).uses = 4) : c = ⟨c.kind, 0, 0, c.type, c.uses, c.life, [], []⟩ := by
  obtain ⟨n1, n2, n3, n4, n5⟩ := fit_nums h
  rw [hu] at n1 n2 n3 n4 n5
  have hl := fit_list h (by rw [hu]; rfl)
  have hd := fit_data h (by rw [hu]; rfl)
  have a1 := numB_zero (by rfl) n1
  have a2 := numB_zero (by rfl) n2
  obtain ⟨k, k1, k2, k3, k4, k5, d, l⟩ := c
  simp only at hl hd a1 a2
  subst hl hd a1 a2
  rfl
theorem uses_none : ∀ k : Int, k = 14 ∨ k = 16 ∨ k = 20 ∨ k = 21 ∨ k = 22 ∨ k = 26 → (rowOf k).uses = 0 := by
  rintro k (rfl | rfl | rfl | rfl | rfl | rfl) <;> decide +kernel
theorem uses_key : ∀ k : Int, k = 3 ∨ k = 12 ∨ k = 13 → (rowOf k).uses = 1 := by
  rintro k (rfl | rfl | rfl) <;> decide +kernel
theorem uses_grant : (rowOf 1).uses = 4 := by decide +kernel
end Cu

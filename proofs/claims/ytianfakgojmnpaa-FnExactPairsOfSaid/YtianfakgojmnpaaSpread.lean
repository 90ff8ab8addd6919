/- Spreads of positions: plain mathematics. -/
import Derived.Test.YtianfakgojmnpaaLinesOf
import Derived.Test.YtianfakgojmnpaaBoard
namespace Go.Proofs.Ytianfakgojmnpaa

/-! ### lists without doubles -/
theorem nodup_len : ∀ {n : Nat} {l : List Nat}, l.Nodup → (∀ x ∈ l, x < n) → l.length ≤ n := by
  intro n
  induction n with
  | zero =>
    intro l _ h
    cases l with
    | nil => exact Nat.le_refl _
    | cons a l => exact absurd (h a (by simp)) (by omega)
  | succ n ih =>
    intro l hn h
    by_cases hm : n ∈ l
    · have h1 := List.length_erase_of_mem hm
      have h2 := ih (hn.erase n) (fun x hx => by
        have h3 := h x (List.mem_of_mem_erase hx)
        have h4 : x ≠ n := fun e => by subst e; exact (List.Nodup.not_mem_erase hn) hx
        omega)
      have h5 := List.length_pos_of_mem hm
      omega
    · have := ih hn (fun x hx => by
        have h3 := h x hx
        have h4 : x ≠ n := fun e => by subst e; exact hm hx
        omega)
      omega

/-! ### jumps on bits -/
def lineBits (l : Int × Int × Int) : Nat := 2 ^ l.1.toNat ||| 2 ^ l.2.1.toNat ||| 2 ^ l.2.2.toNat
def lineWant (back : Bool) (l : Int × Int × Int) : Nat := if back = true then 2 ^ l.2.2.toNat else 2 ^ l.1.toNat ||| 2 ^ l.2.1.toNat
def canGo (back : Bool) (p : Nat) (l : Int × Int × Int) : Bool := decide (p &&& lineBits l = lineWant back l)
def goTo (p : Nat) (l : Int × Int × Int) : Nat := p ^^^ lineBits l

theorem goTo_goTo (p : Nat) (l : Int × Int × Int) : goTo (goTo p l) l = p := by
  simp [goTo, Nat.xor_assoc]
theorem goTo_sub {p x : Nat} {l : Int × Int × Int} (hp : p &&& x = p) (hl : lineBits l &&& x = lineBits l) : goTo p l &&& x = goTo p l := by
  unfold goTo
  apply Nat.eq_of_testBit_eq; intro i
  have h1 := congrArg (·.testBit i) hp
  have h2 := congrArg (·.testBit i) hl
  simp only [Nat.testBit_and, Nat.testBit_xor] at h1 h2 ⊢
  revert h1 h2; cases x.testBit i <;> cases p.testBit i <;> cases (lineBits l).testBit i <;> simp
theorem xor_and_self (p b : Nat) : (p ^^^ b) &&& b = b ^^^ (p &&& b) := by
  apply Nat.eq_of_testBit_eq; intro i
  simp only [Nat.testBit_and, Nat.testBit_xor]
  cases p.testBit i <;> cases b.testBit i <;> rfl
/-- the three holes of a line differ -/
def apart3 (l : Int × Int × Int) : Prop := l.1.toNat ≠ l.2.1.toNat ∧ l.1.toNat ≠ l.2.2.toNat ∧ l.2.1.toNat ≠ l.2.2.toNat
theorem want_flip (back : Bool) {l : Int × Int × Int} (h : apart3 l) : lineBits l ^^^ lineWant back l = lineWant (!back) l := by
  obtain ⟨h1, h2, h3⟩ := h
  apply Nat.eq_of_testBit_eq; intro i
  cases back <;> simp only [lineBits, lineWant, Nat.testBit_xor, Nat.testBit_or, Nat.testBit_two_pow, Bool.not_false, Bool.not_true, if_true, Bool.false_eq_true, if_false]
  all_goals
    by_cases e1 : l.1.toNat = i <;> by_cases e2 : l.2.1.toNat = i <;> by_cases e3 : l.2.2.toNat = i <;> simp [e1, e2, e3] <;> omega
theorem canGo_flip {back : Bool} {p : Nat} {l : Int × Int × Int} (h : apart3 l) (hg : canGo back p l = true) : canGo (!back) (goTo p l) l = true := by
  simp only [canGo, decide_eq_true_eq] at hg ⊢
  rw [goTo, xor_and_self, hg, want_flip back h]

/-! ### searches -/
def visit (t : List Nat) (q : Nat) : List Nat := if q ∈ t then t else t ++ [q]
def stepL (back : Bool) (p : Nat) (t : List Nat) (l : Int × Int × Int) : List Nat := if canGo back p l = true then visit t (goTo p l) else t
def stepLs (back : Bool) (p : Nat) (t : List Nat) (ls : List (Int × Int × Int)) : List Nat := ls.foldl (stepL back p) t
def spreadTo (back : Bool) (ls : List (Int × Int × Int)) (s : Nat) : Nat → List Nat
  | 0 => [s]
  | k + 1 => match (spreadTo back ls s k)[k]? with
    | some p => stepLs back p (spreadTo back ls s k) ls
    | none => spreadTo back ls s k

theorem visit_prefix (t : List Nat) (q : Nat) : t <+: visit t q := by
  unfold visit; split
  · exact List.prefix_refl _
  · exact List.prefix_append _ _
theorem visit_mem (t : List Nat) (q : Nat) : q ∈ visit t q := by
  unfold visit; split
  · assumption
  · simp
theorem visit_or {t : List Nat} {q x : Nat} (h : x ∈ visit t q) : x ∈ t ∨ x = q := by
  unfold visit at h; split at h
  · exact .inl h
  · simpa using h
theorem visit_nodup {t : List Nat} {q : Nat} (h : t.Nodup) : (visit t q).Nodup := by
  unfold visit; split
  · exact h
  · rename_i hq
    rw [List.nodup_append]
    refine ⟨h, by simp, ?_⟩
    intro a ha b hb
    simp only [List.mem_singleton] at hb
    subst hb
    intro e; subst e; exact hq ha
theorem stepL_prefix (back : Bool) (p : Nat) (t : List Nat) (l : Int × Int × Int) : t <+: stepL back p t l := by
  unfold stepL; split
  · exact visit_prefix _ _
  · exact List.prefix_refl _
theorem stepL_nodup {back : Bool} {p : Nat} {t : List Nat} {l : Int × Int × Int} (h : t.Nodup) : (stepL back p t l).Nodup := by
  unfold stepL; split
  · exact visit_nodup h
  · exact h
theorem stepL_or {back : Bool} {p x : Nat} {t : List Nat} {l : Int × Int × Int} (h : x ∈ stepL back p t l) : x ∈ t ∨ (canGo back p l = true ∧ x = goTo p l) := by
  unfold stepL at h; split at h
  · rename_i hc
    exact (visit_or h).imp id fun e => ⟨hc, e⟩
  · exact .inl h
theorem stepLs_snoc (back : Bool) (p : Nat) (t : List Nat) (ls : List (Int × Int × Int)) (l : Int × Int × Int) : stepLs back p t (ls ++ [l]) = stepL back p (stepLs back p t ls) l := by simp [stepLs]
theorem stepLs_prefix (back : Bool) (p : Nat) : ∀ (ls : List (Int × Int × Int)) (t : List Nat), t <+: stepLs back p t ls := by
  intro ls
  induction ls with
  | nil => exact fun t => List.prefix_refl _
  | cons l ls ih => exact fun t => (stepL_prefix back p t l).trans (ih _)
theorem stepLs_nodup {back : Bool} {p : Nat} : ∀ {ls : List (Int × Int × Int)} {t : List Nat}, t.Nodup → (stepLs back p t ls).Nodup := by
  intro ls
  induction ls with
  | nil => exact fun h => h
  | cons l ls ih => exact fun h => ih (stepL_nodup h)
theorem stepLs_or {back : Bool} {p x : Nat} : ∀ {ls : List (Int × Int × Int)} {t : List Nat}, x ∈ stepLs back p t ls → x ∈ t ∨ ∃ l ∈ ls, canGo back p l = true ∧ x = goTo p l := by
  intro ls
  induction ls with
  | nil => exact fun h => .inl h
  | cons l ls ih =>
    intro t h
    rcases ih (t := stepL back p t l) h with h1 | ⟨m, hm, h2⟩
    · rcases stepL_or h1 with h3 | h3
      · exact .inl h3
      · exact .inr ⟨l, by simp, h3⟩
    · exact .inr ⟨m, by simp [hm], h2⟩
theorem stepLs_mem {back : Bool} {p : Nat} {l : Int × Int × Int} (hc : canGo back p l = true) : ∀ {ls : List (Int × Int × Int)} {t : List Nat}, l ∈ ls → goTo p l ∈ stepLs back p t ls := by
  intro ls
  induction ls with
  | nil => intro t h; simp at h
  | cons m ls ih =>
    intro t h
    rcases List.mem_cons.1 h with rfl | h
    · refine (stepLs_prefix back p ls (stepL back p t l)).subset ?_
      unfold stepL; rw [if_pos hc]; exact visit_mem _ _
    · exact ih h

section
variable {back : Bool} {ls : List (Int × Int × Int)} {s : Nat}
theorem spreadTo_next {k p : Nat} (h : (spreadTo back ls s k)[k]? = some p) : spreadTo back ls s (k + 1) = stepLs back p (spreadTo back ls s k) ls := by
  rw [spreadTo, h]
theorem spreadTo_stop {k : Nat} (h : (spreadTo back ls s k).length ≤ k) : spreadTo back ls s (k + 1) = spreadTo back ls s k := by
  rw [spreadTo, List.getElem?_eq_none h]
theorem spreadTo_stays {k : Nat} (h : (spreadTo back ls s k).length ≤ k) : ∀ j, spreadTo back ls s (k + j) = spreadTo back ls s k := by
  intro j
  induction j with
  | zero => rfl
  | succ j ih => rw [← Nat.add_assoc, spreadTo_stop (by rw [ih]; omega), ih]
theorem spreadTo_prefix (k : Nat) : spreadTo back ls s k <+: spreadTo back ls s (k + 1) := by
  rcases Nat.lt_or_ge k (spreadTo back ls s k).length with h | h
  · rw [spreadTo_next (List.getElem?_eq_getElem h)]; exact stepLs_prefix _ _ _ _
  · rw [spreadTo_stop h]; exact List.prefix_refl _
theorem spreadTo_prefix' (k j : Nat) : spreadTo back ls s k <+: spreadTo back ls s (k + j) := by
  induction j with
  | zero => exact List.prefix_refl _
  | succ j ih => exact ih.trans (spreadTo_prefix (k + j))
theorem spreadTo_nodup (k : Nat) : (spreadTo back ls s k).Nodup := by
  induction k with
  | zero => simp [spreadTo]
  | succ k ih =>
    rcases Nat.lt_or_ge k (spreadTo back ls s k).length with h | h
    · rw [spreadTo_next (List.getElem?_eq_getElem h)]; exact stepLs_nodup ih
    · rw [spreadTo_stop h]; exact ih
theorem spreadTo_start (k : Nat) : s ∈ spreadTo back ls s k := by
  have := (spreadTo_prefix' (back := back) (ls := ls) (s := s) 0 k).subset (show s ∈ spreadTo back ls s 0 by simp [spreadTo])
  rwa [Nat.zero_add] at this
/-- what holds of the start and is kept by jumps holds of all that is found -/
theorem spreadTo_all {P : Nat → Prop} (h0 : P s) (h1 : ∀ p l, P p → l ∈ ls → canGo back p l = true → P (goTo p l)) (k : Nat) : ∀ x ∈ spreadTo back ls s k, P x := by
  induction k with
  | zero => intro x hx; simp [spreadTo] at hx; subst hx; exact h0
  | succ k ih =>
    rcases Nat.lt_or_ge k (spreadTo back ls s k).length with h | h
    · rw [spreadTo_next (List.getElem?_eq_getElem h)]
      intro x hx
      rcases stepLs_or hx with h2 | ⟨l, hl, hc, rfl⟩
      · exact ih x h2
      · exact h1 _ _ (ih _ (List.getElem_mem h)) hl hc
    · rw [spreadTo_stop h]; exact ih
/-- the search ends: with all that is found below N, behind N rounds nothing is left -/
theorem spreadTo_len {N : Nat} (hN : ∀ k, ∀ x ∈ spreadTo back ls s k, x < N) (k : Nat) : (spreadTo back ls s k).length ≤ N := nodup_len (spreadTo_nodup k) (hN k)
theorem spreadTo_final {N k : Nat} (hN : ∀ k, ∀ x ∈ spreadTo back ls s k, x < N) (hk : (spreadTo back ls s k).length ≤ k) : spreadTo back ls s N = spreadTo back ls s k := by
  rcases Nat.le_total k N with h | h
  · obtain ⟨j, rfl⟩ := Nat.exists_eq_add_of_le h
    exact spreadTo_stays hk j
  · obtain ⟨j, rfl⟩ := Nat.exists_eq_add_of_le h
    exact (spreadTo_stays (spreadTo_len hN N) j).symm
/-- what is found is closed under jumps -/
theorem spreadTo_closed {N p : Nat} {l : Int × Int × Int} (hN : ∀ k, ∀ x ∈ spreadTo back ls s k, x < N) (hp : p ∈ spreadTo back ls s N) (hl : l ∈ ls) (hc : canGo back p l = true) : goTo p l ∈ spreadTo back ls s N := by
  obtain ⟨j, hj⟩ := List.getElem?_of_mem hp
  have hjl : j < (spreadTo back ls s N).length := (List.getElem?_eq_some_iff.1 hj).1
  have hjk : j < (spreadTo back ls s j).length := by
    rcases Nat.lt_or_ge j (spreadTo back ls s j).length with h | h
    · exact h
    · have := spreadTo_final hN h
      rw [this] at hjl; omega
  have hlN := spreadTo_len hN N
  have e : (spreadTo back ls s j)[j]? = some p := by
    obtain ⟨i, rfl⟩ := Nat.exists_eq_add_of_le (show j ≤ N by omega)
    obtain ⟨r, hr⟩ := spreadTo_prefix' (back := back) (ls := ls) (s := s) j i
    rw [← hr, List.getElem?_append_left hjk] at hj
    exact hj
  have h1 : goTo p l ∈ spreadTo back ls s (j + 1) := by rw [spreadTo_next e]; exact stepLs_mem hc hl
  obtain ⟨i, rfl⟩ := Nat.exists_eq_add_of_le (show j + 1 ≤ N by omega)
  exact (spreadTo_prefix' (j + 1) i).subset h1
end

/-! ### ways -/
inductive Way (back : Bool) (ls : List (Int × Int × Int)) (s : Nat) : Nat → Prop
  | stay : Way back ls s s
  | go {p : Nat} {l : Int × Int × Int} : Way back ls s p → l ∈ ls → canGo back p l = true → Way back ls s (goTo p l)
theorem Way.front {back : Bool} {ls : List (Int × Int × Int)} {s x : Nat} {l : Int × Int × Int} (hl : l ∈ ls) (hc : canGo back s l = true) (h : Way back ls (goTo s l) x) : Way back ls s x := by
  induction h with
  | stay => exact .go .stay hl hc
  | go _ h2 h3 ih => exact .go ih h2 h3
theorem Way.flip {back : Bool} {ls : List (Int × Int × Int)} {s x : Nat} (ha : ∀ l ∈ ls, apart3 l) (h : Way back ls s x) : Way (!back) ls x s := by
  induction h with
  | stay => exact .stay
  | @go p l h1 h2 h3 ih =>
    refine Way.front h2 (canGo_flip (ha l h2) h3) ?_
    rw [goTo_goTo]; exact ih
theorem spread_way {back : Bool} {ls : List (Int × Int × Int)} {s N x : Nat} (hN : ∀ k, ∀ x ∈ spreadTo back ls s k, x < N) : x ∈ spreadTo back ls s N ↔ Way back ls s x := by
  constructor
  · exact spreadTo_all (P := Way back ls s) .stay (fun p l h1 h2 h3 => .go h1 h2 h3) N x
  · intro h
    induction h with
    | stay => exact spreadTo_start N
    | go _ h2 h3 ih => exact spreadTo_closed hN ih h2 h3
theorem spread_step {back : Bool} {ls : List (Int × Int × Int)} {s N x : Nat} (ha : ∀ l ∈ ls, apart3 l) (hN : ∀ k, ∀ x ∈ spreadTo back ls s k, x < N) (h : x ∈ spreadTo back ls s N) (hx : x ≠ s) :
    ∃ l ∈ ls, canGo (!back) x l = true ∧ goTo x l ∈ spreadTo back ls s N := by
  rw [spread_way hN] at h
  cases h with
  | stay => exact absurd rfl hx
  | @go p l h1 h2 h3 => exact ⟨l, h2, canGo_flip (ha l h2) h3, by rw [goTo_goTo, spread_way hN]; exact h1⟩

/-! ### the lines of a board -/
theorem stepAt_val {W H X k : Int} {way : Nat} (h : 0 ≤ stepAt W H X k way) : stepAt W H X k way = k + (dxOf way + dyOf way * W) ∧ 1 ≤ W := by
  unfold stepAt at h ⊢
  split at h
  · rename_i h1
    rw [if_pos h1]
    have h3 : boardOk W H X = true := by simp only [hasHole, Bool.and_eq_true] at h1; exact h1.1.1
    have hW := (boardOk_facts h3).w1
    refine ⟨?_, hW⟩
    unfold stepIn stepTo at h ⊢
    split at h
    · rename_i h2
      rw [if_pos h2]
      have e := Int.emod_add_mul_ediv k W
      rw [Int.add_mul, Int.mul_comm (k / W) W]
      omega
    · omega
  · omega
theorem way_ne {W : Int} {way : Nat} (hW : 1 ≤ W) (hw : way < 4) : dxOf way + dyOf way * W ≠ 0 := by
  have : way = 0 ∨ way = 1 ∨ way = 2 ∨ way = 3 := by omega
  rcases this with rfl | rfl | rfl | rfl <;> simp [dxOf, dyOf] <;> omega
theorem hole_bit {W H X k : Int} (h : hasHole W H X k = true) : 0 ≤ k ∧ k ≤ W * H - 1 ∧ X.toNat.testBit k.toNat = true := by
  simp only [hasHole, Bool.and_eq_true] at h
  have := inB_iff.1 h.1.2
  exact ⟨this.1, this.2, h.2⟩
structure LineFacts (W H X : Int) (l : Int × Int × Int) : Prop where
  f : hasHole W H X l.1 = true
  o : hasHole W H X l.2.1 = true
  t : hasHole W H X l.2.2 = true
  apart : apart3 l
  sub : lineBits l &&& X.toNat = lineBits l
theorem or_sub {a b x : Nat} (h1 : a &&& x = a) (h2 : b &&& x = b) : (a ||| b) &&& x = a ||| b := by
  rw [Nat.and_or_distrib_right, h1, h2]
theorem pow_sub {k x : Nat} (h : x.testBit k = true) : 2 ^ k &&& x = 2 ^ k := by
  apply Nat.eq_of_testBit_eq; intro i
  simp only [Nat.testBit_and, Nat.testBit_two_pow]
  by_cases e : k = i
  · subst e; simp [h]
  · simp [e]
theorem lineAt_facts {W H X k : Int} {way : Nat} {l : Int × Int × Int} (hk : hasHole W H X k = true) (hw : way < 4) (h : l ∈ lineAt W H X k way) : LineFacts W H X l := by
  unfold lineAt at h
  split at h
  · rename_i h0
    simp only [List.mem_singleton] at h
    obtain ⟨e2, hW⟩ := stepAt_val h0
    have ho : 0 ≤ stepAt W H X k way := by
      rcases Int.lt_or_le (stepAt W H X k way) 0 with h1 | h1
      · have g := stepAt_ge W H X k way
        have g2 : stepAt W H X k way = -1 := by omega
        rw [g2, stepAt_none] at h0; omega
      · exact h1
    obtain ⟨e1, _⟩ := stepAt_val ho
    have f2 := stepAt_hole ho
    have f3 := stepAt_hole h0
    have hne := way_ne hW hw
    obtain ⟨a1, a2, a3⟩ := hole_bit hk
    obtain ⟨b1, b2, b3⟩ := hole_bit f2
    obtain ⟨c1, c2, c3⟩ := hole_bit f3
    subst h
    refine ⟨hk, f2, f3, ⟨?_, ?_, ?_⟩, or_sub (or_sub (pow_sub a3) (pow_sub b3)) (pow_sub c3)⟩ <;> simp only <;> omega
  · simp at h
theorem lines_facts {W H X : Int} {l : Int × Int × Int} (h : l ∈ linesOf W H X) : LineFacts W H X l := by
  simp only [linesOf, linesTo, List.mem_flatMap] at h
  obtain ⟨j, hj, h⟩ := h
  simp only [linesFrom, List.mem_flatMap, List.mem_range] at h
  obtain ⟨m, hm, h⟩ := h
  exact lineAt_facts (holes_hole hj).1 hm h

/-! ### spreads of a board -/
def cells2 (W H : Int) : Nat := 2 ^ (W * H).toNat
def spread (W H X : Int) (back : Bool) (p : Int) : List Nat := spreadTo back (linesOf W H X) p.toNat (cells2 W H)
def spreadAt (W H X : Int) (back : Bool) (p : Int) (k : Nat) : List Nat := spreadTo back (linesOf W H X) p.toNat k
theorem board_lt {W H X : Int} (h : boardOk W H X = true) : X.toNat < cells2 W H := by
  have F := boardOk_facts h
  have e : ((2 : Int) ^ (W * H).toNat) = ((2 ^ (W * H).toNat : Nat) : Int) := by simp
  have := F.x2; have := F.x1
  unfold cells2; omega
theorem spreadAt_sub {W H X p : Int} (hp : positionOk W H X p = true) (back : Bool) (k : Nat) : ∀ x ∈ spreadAt W H X back p k, x &&& X.toNat = x :=
  spreadTo_all (P := fun x => x &&& X.toNat = x) (positionOk_facts hp).sub (fun _ _ h1 h2 _ => goTo_sub h1 (lines_facts h2).sub) k
theorem spreadAt_lt {W H X p : Int} (hp : positionOk W H X p = true) (back : Bool) (k : Nat) : ∀ x ∈ spreadAt W H X back p k, x < cells2 W H := by
  intro x hx
  have h1 := spreadAt_sub hp back k x hx
  have h2 : x ≤ X.toNat := by rw [← h1]; exact Nat.and_le_right
  exact Nat.lt_of_le_of_lt h2 (board_lt (positionOk_facts hp).b)
theorem spread_flip {W H X p q : Int} (hp : positionOk W H X p = true) (hq : positionOk W H X q = true) (back : Bool) : q.toNat ∈ spread W H X back p ↔ p.toNat ∈ spread W H X (!back) q := by
  have ha : ∀ l ∈ linesOf W H X, apart3 l := fun l hl => (lines_facts hl).apart
  unfold spread
  rw [spread_way (spreadAt_lt hp back), spread_way (spreadAt_lt hq (!back))]
  constructor
  · exact fun h => h.flip ha
  · intro h
    have := h.flip ha
    rwa [Bool.not_not] at this
/-- the marks: for each position whether it is found; none if the board is not small or the position not sound -/
def seenB (W H X : Int) (back : Bool) (p : Int) : List Bool :=
  if isSmall W H X = true ∧ positionOk W H X p = true then (List.range (cells2 W H)).map fun k => decide (k ∈ spread W H X back p) else []
def seenHas (bs : List Bool) (p : Int) : Bool := decide (0 ≤ p) && bs.getD p.toNat false
/-- the positions that are marked, in ascending order, up to k -/
def idxTo (bs : List Bool) (k : Nat) : List Nat := (List.range k).filter fun j => bs.getD j false
theorem idx_yes {bs : List Bool} {k : Nat} (h : bs[k]? = some true) : idxTo bs (k + 1) = idxTo bs k ++ [k] := by
  simp [idxTo, List.range_succ, List.filter_append, List.getD, h]
theorem idx_no {bs : List Bool} {k : Nat} (h : bs[k]? = some false) : idxTo bs (k + 1) = idxTo bs k := by
  simp [idxTo, List.range_succ, List.filter_append, List.getD, h]
theorem idx_le (bs : List Bool) (k : Nat) : (idxTo bs k).length ≤ k := by
  have := List.length_filter_le (fun j => bs.getD j false) (List.range k)
  simp at this; exact this
theorem idx_mem {bs : List Bool} {k j : Nat} : j ∈ idxTo bs k ↔ j < k ∧ bs.getD j false = true := by simp [idxTo]
theorem seen_len {W H X p : Int} {back : Bool} (h : isSmall W H X = true ∧ positionOk W H X p = true) : (seenB W H X back p).length = cells2 W H := by
  unfold seenB; rw [if_pos h]; simp
theorem seen_has {W H X p q : Int} {back : Bool} (h : isSmall W H X = true ∧ positionOk W H X p = true) : seenHas (seenB W H X back p) q = (decide (0 ≤ q) && decide (q.toNat ∈ spread W H X back p)) := by
  unfold seenHas seenB; rw [if_pos h]
  by_cases h0 : 0 ≤ q
  · simp only [h0, decide_true, Bool.true_and]
    by_cases h1 : q.toNat < cells2 W H
    · simp [List.getD, h1]
    · have : q.toNat ∉ spread W H X back p := fun hm => h1 (spreadAt_lt h.2 back (cells2 W H) _ hm)
      simp [List.getD, h1, this]
  · simp [h0]
theorem seen_none {W H X p q : Int} {back : Bool} (h : ¬ (isSmall W H X = true ∧ positionOk W H X p = true)) : seenHas (seenB W H X back p) q = false := by
  unfold seenHas seenB; rw [if_neg h]; simp
theorem seen_ok {W H X p q : Int} {back : Bool} (h : seenHas (seenB W H X back p) q = true) : positionOk W H X q = true ∧ positionOk W H X p = true ∧ isSmall W H X = true := by
  by_cases hk : isSmall W H X = true ∧ positionOk W H X p = true
  · rw [seen_has hk] at h
    simp only [Bool.and_eq_true, decide_eq_true_eq] at h
    exact ⟨positionOk_mk (positionOk_facts hk.2).b h.1 (spreadAt_sub hk.2 back _ _ h.2), hk.2, hk.1⟩
  · rw [seen_none hk] at h; cases h
theorem small_cells {W H X : Int} (h : isSmall W H X = true) : boardOk W H X = true ∧ 1 ≤ cells2 W H ∧ cells2 W H ≤ 65536 := by
  simp only [isSmall, Bool.and_eq_true, decide_eq_true_eq] at h
  have F := boardOk_facts h.1
  refine ⟨h.1, Nat.one_le_two_pow, ?_⟩
  unfold cells2
  exact Nat.pow_le_pow_right (n := 2) (by decide) (show (W * H).toNat ≤ 16 by omega)
end Go.Proofs.Ytianfakgojmnpaa

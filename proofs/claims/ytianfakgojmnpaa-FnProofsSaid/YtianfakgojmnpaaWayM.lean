/- Ways to a goal: plain mathematics. -/
import Derived.Test.YtianfakgojmnpaaJumps
import Derived.Test.YtianfakgojmnpaaPegs
namespace Go.Proofs.Ytianfakgojmnpaa
open Go.RowKit

theorem popN_toggle : ∀ (k f x : Nat), k < f → x.testBit k = true → popN f (x ^^^ 2 ^ k) + 1 = popN f x := by
  intro k
  induction k with
  | zero =>
    intro f x hf hx
    obtain ⟨f, rfl⟩ : ∃ g, f = g + 1 := ⟨f - 1, by omega⟩
    have h1 : x % 2 = 1 := by simpa using hx
    have h2 : (x ^^^ 2 ^ 0) % 2 = 0 := by
      have := Nat.testBit_xor x (2 ^ 0) 0
      simp only [Nat.testBit_zero] at this
      have h6 : ¬ (x ^^^ 2 ^ 0) % 2 = 1 := by
        intro h7
        rw [h1, h7] at this
        simp at this
      omega
    have h4 : (x ^^^ 2 ^ 0) / 2 = x / 2 := by
      apply Nat.eq_of_testBit_eq; intro i
      rw [← Nat.testBit_succ, ← Nat.testBit_succ, Nat.testBit_xor, Nat.testBit_two_pow]
      simp
    simp only [popN]
    rw [h1, h2, h4]; omega
  | succ k ih =>
    intro f x hf hx
    obtain ⟨f, rfl⟩ : ∃ g, f = g + 1 := ⟨f - 1, by omega⟩
    have h2 : (x ^^^ 2 ^ (k + 1)) % 2 = x % 2 := by
      have := Nat.testBit_xor x (2 ^ (k + 1)) 0
      simp only [Nat.testBit_zero] at this
      have e : ((2 : Nat) ^ (k + 1)) % 2 = 0 := by rw [Nat.pow_succ]; omega
      rw [e] at this
      have h3 : (x ^^^ 2 ^ (k + 1)) % 2 = 0 ∨ (x ^^^ 2 ^ (k + 1)) % 2 = 1 := by omega
      have h5 : x % 2 = 0 ∨ x % 2 = 1 := by omega
      rcases h3 with h3 | h3 <;> rcases h5 with h5 | h5 <;> rw [h3, h5] at this <;> simp at this <;> omega
    have h4 : (x ^^^ 2 ^ (k + 1)) / 2 = x / 2 ^^^ 2 ^ k := by
      apply Nat.eq_of_testBit_eq; intro i
      rw [← Nat.testBit_succ, Nat.testBit_xor, Nat.testBit_xor, Nat.testBit_two_pow, Nat.testBit_two_pow, Nat.testBit_succ]
      simp
    simp only [popN]
    rw [h2, h4]
    have := ih f (x / 2) (by omega) (by rw [← Nat.testBit_succ]; exact hx)
    omega
theorem popN_add1 {k f x : Nat} (hf : k < f) (hx : x.testBit k = false) : popN f (x ^^^ 2 ^ k) = popN f x + 1 := by
  have h1 : (x ^^^ 2 ^ k).testBit k = true := by rw [Nat.testBit_xor, hx, Nat.testBit_two_pow]; simp
  have h2 := popN_toggle k f (x ^^^ 2 ^ k) hf h1
  rw [Nat.xor_assoc, Nat.xor_self, Nat.xor_zero] at h2
  exact h2.symm
/-- a jump leaves one peg fewer -/
theorem go_pops {x : Nat} {f o t : Int} (hs : Small3 f o t) (hc : canGo false x (f, o, t) = true) : (bitsTo (goTo x (f, o, t)) 49).length + 1 = (bitsTo x 49).length := by
  rw [canGo_bits hs] at hc
  simp only [Bool.and_eq_true, Bool.not_eq_true'] at hc
  obtain ⟨⟨c1, c2⟩, c3⟩ := hc
  obtain ⟨a1, a2, a3⟩ := hs.ap
  simp only at a1 a2 a3
  have e : goTo x (f, o, t) = ((x ^^^ 2 ^ f.toNat) ^^^ 2 ^ o.toNat) ^^^ 2 ^ t.toNat := by
    unfold goTo lineBits
    apply Nat.eq_of_testBit_eq; intro i
    simp only [Nat.testBit_xor, Nat.testBit_or, Nat.testBit_two_pow]
    by_cases i1 : f.toNat = i
    · subst i1
      have n1 : ¬ o.toNat = f.toNat := fun h => a1 h.symm
      have n2 : ¬ t.toNat = f.toNat := fun h => a2 h.symm
      simp [n1, n2]
    · by_cases i2 : o.toNat = i
      · subst i2
        have n2 : ¬ t.toNat = o.toNat := fun h => a3 h.symm
        simp [i1, n2]
      · simp [i1, i2]
  have b1 : (x ^^^ 2 ^ f.toNat).testBit o.toNat = true := by rw [Nat.testBit_xor, c2, Nat.testBit_two_pow]; simp [a1]
  have b2 : ((x ^^^ 2 ^ f.toNat) ^^^ 2 ^ o.toNat).testBit t.toNat = false := by
    rw [Nat.testBit_xor, Nat.testBit_xor, c3, Nat.testBit_two_pow, Nat.testBit_two_pow]; simp [a2, a3]
  have h1 := hs.f1
  have h2 := hs.o1
  have h3 := hs.t1
  rw [e, bitsTo_pop, bitsTo_pop, popN_add1 (by omega) b2]
  have p1 := popN_toggle f.toNat 49 x (by omega) c1
  have p2 := popN_toggle o.toNat 49 (x ^^^ 2 ^ f.toNat) (by omega) b1
  omega

def wstep (ls : List (Int × Int × Int)) (bs : List Bool) (x : Nat) : Int × Int × Int → Bool := fun l => canGo false x l && seenHas bs ((goTo x l : Nat) : Int)
def wayF (ls : List (Int × Int × Int)) (bs : List Bool) (q : Nat) : Nat → Nat → List (Int × Int × Int)
  | 0, _ => []
  | f + 1, x => if x = q then [] else match ls.find? (wstep ls bs x) with | some l => l :: wayF ls bs q f (goTo x l) | none => []
theorem wayF_goal (ls : List (Int × Int × Int)) (bs : List Bool) (q f : Nat) : wayF ls bs q f q = [] := by
  cases f with
  | zero => rfl
  | succ f => simp [wayF]
theorem wayF_step {ls : List (Int × Int × Int)} {bs : List Bool} {q f x : Nat} {l : Int × Int × Int} (hx : x ≠ q) (hl : ls.find? (wstep ls bs x) = some l) : wayF ls bs q (f + 1) x = l :: wayF ls bs q f (goTo x l) := by
  simp [wayF, hx, hl]
theorem wayF_len (ls : List (Int × Int × Int)) (bs : List Bool) (q : Nat) : ∀ f x, (wayF ls bs q f x).length ≤ f := by
  intro f
  induction f with
  | zero => intro x; simp [wayF]
  | succ f ih =>
    intro x
    unfold wayF
    split
    · simp
    · split
      · simp only [List.length_cons]; have := ih (goTo x ‹_›); omega
      · simp
def wayTo (W H X p q : Int) : List (Int × Int × Int) := if seenHas (seenB W H X true q) p = true then wayF (linesOf W H X) (seenB W H X true q) q.toNat 49 p.toNat else []
theorem wayTo_len (W H X p q : Int) : (wayTo W H X p q).length ≤ 49 := by
  unfold wayTo; split
  · exact wayF_len _ _ _ _ _
  · simp
/-- to be reached forward is to be found backward -/
theorem can_flip (W H X p q : Int) : canReach W H X p q = seenHas (seenB W H X true q) p := by
  rw [Bool.eq_iff_iff]
  unfold canReach
  constructor
  · intro h
    obtain ⟨h1, h2, h3⟩ := seen_ok h
    rw [seen_has ⟨h3, h2⟩] at h
    simp only [Bool.and_eq_true, decide_eq_true_eq] at h
    rw [seen_has ⟨h3, h1⟩]
    simp only [Bool.and_eq_true, decide_eq_true_eq]
    exact ⟨(positionOk_facts h2).p0, (spread_flip h2 h1 false).1 h.2⟩
  · intro h
    obtain ⟨h1, h2, h3⟩ := seen_ok h
    rw [seen_has ⟨h3, h2⟩] at h
    simp only [Bool.and_eq_true, decide_eq_true_eq] at h
    rw [seen_has ⟨h3, h1⟩]
    simp only [Bool.and_eq_true, decide_eq_true_eq]
    exact ⟨(positionOk_facts h2).p0, (spread_flip h2 h1 true).1 h.2⟩
/-- from each position that is found, but the goal, there is a jump to one that is found -/
theorem way_next {W H X q : Int} {x : Nat} (h : seenHas (seenB W H X true q) (x : Int) = true) (hx : x ≠ q.toNat) : ∃ l, (linesOf W H X).find? (wstep (linesOf W H X) (seenB W H X true q) x) = some l := by
  obtain ⟨h1, h2, h3⟩ := seen_ok h
  have h4 := h
  rw [seen_has ⟨h3, h2⟩] at h4
  simp only [Bool.and_eq_true, decide_eq_true_eq, Int.toNat_natCast] at h4
  obtain ⟨l, hl, hc, hm⟩ := spread_step (fun l hl => (lines_facts hl).apart) (spreadAt_lt h2 true) h4.2 hx
  cases hf : (linesOf W H X).find? (wstep (linesOf W H X) (seenB W H X true q) x) with
  | some l => exact ⟨l, rfl⟩
  | none =>
    have := List.find?_eq_none.1 hf l hl
    exfalso; apply this
    unfold wstep
    simp only [Bool.and_eq_true]
    refine ⟨hc, ?_⟩
    rw [seen_has ⟨h3, h2⟩]
    simp only [Bool.and_eq_true, decide_eq_true_eq, Int.toNat_natCast]
    exact ⟨by omega, hm⟩
theorem find_jumps {W H X : Int} {x : Nat} {bs : List Bool} (h : positionOk W H X (x : Int) = true) : (jumpsOf W H X (x : Int)).find? (fun l => seenHas bs ((goTo x l : Nat) : Int)) = (linesOf W H X).find? (wstep (linesOf W H X) bs x) := by
  unfold jumpsOf; rw [if_pos h, List.find?_filter]
  simp only [Int.toNat_natCast]
  congr 1
  funext a
  unfold wstep
  rw [Bool.eq_iff_iff]
  simp
theorem findk_no {α : Type} {p : α → Bool} {l : List α} {k : Nat} {x : α} (h : (l.take k).find? p = none) (hk : l[k]? = some x) (hx : p x = false) : (l.take (k + 1)).find? p = none := by
  rw [List.take_add_one, hk, Option.toList_some, List.find?_append, h]; simp [hx]
theorem findk_yes {α : Type} {p : α → Bool} {l : List α} {k : Nat} {x : α} (h : (l.take k).find? p = none) (hk : l[k]? = some x) (hx : p x = true) : l.find? p = some x := by
  have e : l = l.take k ++ l.drop k := (List.take_append_drop k l).symm
  have hd : l.drop k = x :: l.drop (k + 1) := by
    obtain ⟨hlt, hg⟩ := List.getElem?_eq_some_iff.1 hk
    rw [List.drop_eq_getElem_cons hlt, hg]
  rw [e, List.find?_append, h, hd]; simp [hx]
end Go.Proofs.Ytianfakgojmnpaa

/- What is reached, and ways: plain mathematics for FnReach and FnWays. -/
import Derived.Test.YtianfakgojmnpaaWayM
import Derived.Test.YtianfakgojmnpaaPlay
namespace Go.Proofs.Ytianfakgojmnpaa
open Go.RowKit

theorem reach_refl {W H X p : Int} (hs : isSmall W H X = true) (hp : positionOk W H X p = true) (back : Bool) : seenHas (seenB W H X back p) p = true := by
  rw [seen_has ⟨hs, hp⟩]
  simp only [Bool.and_eq_true, decide_eq_true_eq]
  exact ⟨(positionOk_facts hp).p0, spreadTo_start _⟩
/-- what a jump leads to from what is found, is found -/
theorem reach_step {W H X p : Int} {back : Bool} {x : Nat} {l : Int × Int × Int} (h : seenHas (seenB W H X back p) (x : Int) = true) (hl : l ∈ linesOf W H X) (hc : canGo back x l = true) : seenHas (seenB W H X back p) ((goTo x l : Nat) : Int) = true := by
  obtain ⟨h1, h2, h3⟩ := seen_ok h
  rw [seen_has ⟨h3, h2⟩] at h ⊢
  simp only [Bool.and_eq_true, decide_eq_true_eq, Int.toNat_natCast] at h ⊢
  exact ⟨by omega, spreadTo_closed (spreadAt_lt h2 back) h.2 hl hc⟩
/-- from where a jump leads to what is found backward, it is found too -/
theorem reach_back {W H X q : Int} {x : Nat} {l : Int × Int × Int} (h : seenHas (seenB W H X true q) ((goTo x l : Nat) : Int) = true) (hl : l ∈ linesOf W H X) (hc : canGo false x l = true) : seenHas (seenB W H X true q) (x : Int) = true := by
  have h2 := reach_step h hl (canGo_flip (lines_facts hl).apart hc)
  rw [goTo_goTo] at h2
  exact h2
def popsN (x : Nat) : Nat := (bitsTo x 49).length
theorem pops_nat (x : Nat) : pops (x : Int) = (popsN x : Int) := by simp [pops, popsN]
theorem jump_pops {W H X : Int} {x : Nat} {l : Int × Int × Int} (hl : l ∈ linesOf W H X) (hc : canGo false x l = true) : popsN (goTo x l) + 1 = popsN x := by
  obtain ⟨f, o, t⟩ := l
  exact go_pops (lines_facts hl).small hc
theorem reach_pops {W H X p : Int} {x : Nat} (h : seenHas (seenB W H X false p) (x : Int) = true) : x = p.toNat ∨ popsN x < popsN p.toNat := by
  obtain ⟨h1, h2, h3⟩ := seen_ok h
  rw [seen_has ⟨h3, h2⟩] at h
  simp only [Bool.and_eq_true, decide_eq_true_eq, Int.toNat_natCast] at h
  refine spreadTo_all (P := fun x => x = p.toNat ∨ popsN x < popsN p.toNat) (Or.inl rfl) ?_ _ x h.2
  intro y l hy hl hc
  have := jump_pops hl hc
  rcases hy with rfl | hy
  · right; omega
  · right; omega
theorem reach_pops_q {W H X q : Int} {x : Nat} (h : seenHas (seenB W H X true q) (x : Int) = true) : x = q.toNat ∨ popsN q.toNat < popsN x := by
  have h0 := seen_ok h
  rw [← can_flip] at h
  have hq : q = ((q.toNat : Nat) : Int) := by have := (positionOk_facts h0.2.1).p0; omega
  rw [hq] at h
  have := reach_pops h
  simp only [Int.toNat_natCast] at this
  rcases this with h | h
  · exact .inl h.symm
  · exact .inr h

theorem wstep_in {W H X : Int} {bs : List Bool} {x : Nat} {l : Int × Int × Int} (h : (linesOf W H X).find? (wstep (linesOf W H X) bs x) = some l) : l ∈ linesOf W H X ∧ canGo false x l = true ∧ seenHas bs ((goTo x l : Nat) : Int) = true := by
  have h1 := List.find?_some h
  unfold wstep at h1
  rw [Bool.and_eq_true] at h1
  exact ⟨List.mem_of_find?_eq_some h, h1.1, h1.2⟩
theorem jump_do {W H X : Int} {x : Nat} {f o t : Int} (hp : positionOk W H X (x : Int) = true) (hl : (f, o, t) ∈ linesOf W H X) (hli : isLine W H X f o t = true) (hc : canGo false x (f, o, t) = true) :
    doOk W H X x f o t = true ∧ doTo W H X x f o t = ((goTo x (f, o, t) : Nat) : Int) := by
  have h1 : doOk W H X x f o t = true := by unfold doOk; rw [hp, hli, Int.toNat_natCast, hc]; rfl
  exact ⟨h1, by rw [doOk_yes h1, Int.toNat_natCast]⟩
/-- the way is a game that leads to the goal, and each jump takes one peg -/
theorem wayF_play {W H X q : Int} (hI : ∀ f o t, (f, o, t) ∈ linesOf W H X → isLine W H X f o t = true) : ∀ (n x : Nat), popsN x ≤ n → seenHas (seenB W H X true q) (x : Int) = true →
    playFrom W H X (x : Int) (wayF (linesOf W H X) (seenB W H X true q) q.toNat n x) = some q ∧ (wayF (linesOf W H X) (seenB W H X true q) q.toNat n x).length + popsN q.toNat = popsN x := by
  intro n
  induction n with
  | zero =>
    intro x hx h
    obtain ⟨h1, h2, h3⟩ := seen_ok h
    have e : x = q.toNat := by rcases reach_pops_q h with e | e; exact e; omega
    have hq := (positionOk_facts h2).p0
    subst e
    rw [wayF_goal]
    exact ⟨by simp only [playFrom]; rw [show ((q.toNat : Nat) : Int) = q by omega], by simp⟩
  | succ n ih =>
    intro x hx h
    obtain ⟨h1, h2, h3⟩ := seen_ok h
    have hq := (positionOk_facts h2).p0
    by_cases e : x = q.toNat
    · subst e
      rw [wayF_goal]
      exact ⟨by simp only [playFrom]; rw [show ((q.toNat : Nat) : Int) = q by omega], by simp⟩
    · obtain ⟨⟨f, o, t⟩, hl⟩ := way_next h e
      obtain ⟨k1, k2, k3⟩ := wstep_in hl
      rw [wayF_step e hl]
      have hj := jump_pops k1 k2
      obtain ⟨d1, d2⟩ := jump_do h1 k1 (hI f o t k1) k2
      obtain ⟨i1, i2⟩ := ih (goTo x (f, o, t)) (by omega) k3
      refine ⟨?_, ?_⟩
      · simp only [playFrom]
        rw [if_pos d1, d2]
        exact i1
      · rw [List.length_cons]; omega
theorem popsN_le (x : Nat) : popsN x ≤ 49 := bitsTo_le x 49
theorem wayTo_play {W H X p q : Int} (hI : ∀ f o t, (f, o, t) ∈ linesOf W H X → isLine W H X f o t = true) (h : canReach W H X p q = true) :
    playAll W H X p (wayTo W H X p q) = some q ∧ ((wayTo W H X p q).length : Int) = pops p - pops q := by
  rw [can_flip] at h
  obtain ⟨h1, h2, h3⟩ := seen_ok h
  have hp := (positionOk_facts h1).p0
  have hq := (positionOk_facts h2).p0
  have e : p = ((p.toNat : Nat) : Int) := by omega
  have hl := wayTo_len W H X p q
  have h' := h
  rw [e] at h'
  obtain ⟨i1, i2⟩ := wayF_play hI 49 p.toNat (popsN_le _) h'
  have ew : wayTo W H X p q = wayF (linesOf W H X) (seenB W H X true q) q.toNat 49 p.toNat := by unfold wayTo; rw [if_pos h]
  refine ⟨?_, ?_⟩
  · unfold playAll
    rw [if_pos ⟨h1, by omega⟩, ew]
    rw [← e] at i1
    exact i1
  · rw [ew]
    unfold pops popsN at *
    omega
end Go.Proofs.Ytianfakgojmnpaa

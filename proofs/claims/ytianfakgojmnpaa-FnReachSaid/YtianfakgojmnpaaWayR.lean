/- What FnWays asks: plain mathematics. -/
import Derived.Test.YtianfakgojmnpaaWayQ
import Derived.Test.YtianfakgojmnpaaWayS
import Derived.Test.YtianfakgojmnpaaSpoil
import Derived.Test.YtianfakgojmnpaaCanTurn
import Derived.Test.YtianfakgojmnpaaWeightM
namespace Go.Proofs.Ytianfakgojmnpaa
open Go.RowKit

theorem lines_is (W H X : Int) : ∀ f o t, (f, o, t) ∈ linesOf W H X → isLine W H X f o t = true := fun _ _ _ h => line_is h
theorem popsN_pow {k : Nat} (h : k < 49) : popsN (2 ^ k) = 1 := by
  have h1 : ∀ n, (bitsTo (2 ^ k) n).length = if k < n then 1 else 0 := by
    intro n
    induction n with
    | zero => simp [bitsTo]
    | succ n ih =>
      by_cases e : k = n
      · subst e
        rw [bitsTo_yes (by rw [Nat.testBit_two_pow]; simp), List.length_append, ih, if_neg (by omega), if_pos (by omega)]; rfl
      · rw [bitsTo_no (by rw [Nat.testBit_two_pow]; simp [e]), ih]
        have e1 : (k < n) = (k < n + 1) := by apply propext; omega
        simp only [e1]
  unfold popsN; rw [h1, if_pos h]
theorem filter_at {α : Type} {P : α → Bool} : ∀ {L : List α} {k : Nat} {x : α}, L[k]? = some x → P x = true → (L.filter P)[((L.take k).filter P).length]? = some x := by
  intro L k x hk hx
  have e : L = L.take k ++ x :: L.drop (k + 1) := by
    have hlt := (List.getElem?_eq_some_iff.1 hk).1
    have h1 : L.drop k = L[k] :: L.drop (k + 1) := List.drop_eq_getElem_cons hlt
    have h2 : L[k] = x := (List.getElem?_eq_some_iff.1 hk).2
    rw [h2] at h1
    rw [← h1, List.take_append_drop]
  have e2 : L.filter P = (L.take k).filter P ++ x :: (L.drop (k + 1)).filter P := by
    rw [← List.filter_cons_of_pos hx, ← List.filter_append, ← e]
  rw [e2, List.getElem?_append_right (Nat.le_refl _), Nat.sub_self]; rfl
def good (W H X p q : Int) (l : Int × Int × Int) : Bool := seenHas (seenB W H X true q) ((goTo p.toNat l : Nat) : Int)

structure WaysF (W H X p q : Int) (can : Bool) (ws : List (Int × Int × Int)) (n : Int) (gs : List (Int × Int × Int)) (pe single : Bool) : Prop where
  c1 : canReach W H X p q = can
  c2 : seenHas (seenB W H X true q) p = can
  wt : wayTo W H X p q = ws
  so : can = true → isSolution W H X p q ws = true
  nj : jumpsB W H X p q = n
  nn : decide (0 ≤ n) = can
  nl : can = true → n = (ws.length : Int)
  gj : goodJumps W H X p q = gs
  pq : decide (p = q) = pe
  gl : decide (0 < gs.length) = (can && !pe)
  hd : ws.length = 0 ∨ (0 < gs.length ∧ ws[0]? = gs[0]?)
  sg : okS W H X p = single
  sf : decide (0 < (finals W H X p).length) = single
  sl : single = true → ((wayS W H X p).length : Int) = pops p - 1
theorem waysF_of {W H X p q : Int} (hs : isSmall W H X = true) (hp : positionOk W H X p = true) (hq : positionOk W H X q = true) :
    ∃ can ws n gs pe single, WaysF W H X p q can ws n gs pe single := by
  have p0 := (positionOk_facts hp).p0
  have q0 := (positionOk_facts hq).p0
  have ep : p = ((p.toNat : Nat) : Int) := by omega
  refine ⟨_, _, _, _, _, _, rfl, (can_flip W H X p q).symm, rfl, ?_, rfl, ?_, ?_, rfl, rfl, ?_, ?_, rfl, ?_, ?_⟩
  · intro h
    obtain ⟨w1, w2⟩ := wayTo_play (lines_is W H X) h
    unfold isSolution playOk playTo
    rw [w1]; simp
  · unfold jumpsB
    cases h : canReach W H X p q
    · rfl
    · obtain ⟨_, w2⟩ := wayTo_play (lines_is W H X) h
      rw [if_pos rfl, ← w2]; simp
  · intro h
    obtain ⟨_, w2⟩ := wayTo_play (lines_is W H X) h
    unfold jumpsB; rw [if_pos h, w2]
  · rw [Bool.eq_iff_iff]
    simp only [decide_eq_true_eq, Bool.and_eq_true, Bool.not_eq_true', decide_eq_false_iff_not]
    constructor
    · intro h
      obtain ⟨l, hl⟩ := List.exists_mem_of_length_pos h
      unfold goodJumps jumpsOf at hl
      rw [if_pos hp, List.mem_filter, List.mem_filter] at hl
      obtain ⟨⟨h1, h2⟩, h3⟩ := hl
      have h4 := reach_back h3 h1 h2
      refine ⟨by rw [can_flip, ep]; exact h4, ?_⟩
      rintro rfl
      have h5 := jump_pops h1 h2
      rcases reach_pops_q h3 with h6 | h6
      · rw [h6] at h5; omega
      · omega
    · rintro ⟨h1, h2⟩
      rw [can_flip, ep] at h1
      obtain ⟨l, hl⟩ := way_next h1 (fun e => h2 (by omega))
      obtain ⟨k1, k2, k3⟩ := wstep_in hl
      apply List.length_pos_of_mem (a := l)
      unfold goodJumps jumpsOf
      rw [if_pos hp, List.mem_filter, List.mem_filter]
      exact ⟨⟨k1, k2⟩, k3⟩
  · cases h : canReach W H X p q
    · left
      unfold wayTo
      rw [← can_flip, h]; rfl
    · by_cases e : p = q
      · left
        subst e
        unfold wayTo
        rw [wayF_goal]; split <;> rfl
      · right
        have h1 := h
        rw [can_flip, ep] at h1
        obtain ⟨l, hl⟩ := way_next h1 (fun e2 => e (by omega))
        have hw : (wayTo W H X p q)[0]? = some l := by
          unfold wayTo
          rw [← can_flip, h, if_pos rfl, wayF_step (fun e2 => e (by omega)) hl]; rfl
        have hg : (goodJumps W H X p q)[0]? = some l := by
          have hpn : positionOk W H X ((p.toNat : Nat) : Int) = true := by rw [← ep]; exact hp
          have hf := find_jumps (bs := seenB W H X true q) hpn
          rw [hl, ← ep] at hf
          unfold goodJumps
          rw [← List.head?_eq_getElem?, List.head?_filter]
          exact hf
        refine ⟨(List.getElem?_eq_some_iff.1 hg).1, by rw [hw, hg]⟩
  · unfold okS
    cases hf : (finals W H X p)[0]? with
    | none =>
      have : (finals W H X p).length ≤ 0 := List.getElem?_eq_none_iff.1 hf
      exact decide_eq_false (by omega)
    | some k =>
      have hm := List.mem_of_getElem? hf
      have hlt := (List.getElem?_eq_some_iff.1 hf).1
      unfold finals at hm
      rw [List.mem_filter] at hm
      have : canReach W H X p (2 ^ k) = true := hm.2
      rw [can_flip] at this
      simp only [this]
      exact decide_eq_true (by omega)
  · unfold okS wayS
    cases hf : (finals W H X p)[0]? with
    | none => intro h; cases h
    | some k =>
      intro h
      have hm := List.mem_of_getElem? hf
      unfold finals at hm
      rw [List.mem_filter] at hm
      have hc : canReach W H X p (2 ^ k) = true := hm.2
      obtain ⟨_, w2⟩ := wayTo_play (lines_is W H X) hc
      obtain ⟨b1, b2, _⟩ := hole_bit (holes_hole hm.1).1
      have F := boardOk_facts (positionOk_facts hp).b
      have := F.m2
      have e2 : ((2 : Int) ^ k) = ((2 ^ k : Nat) : Int) := by simp
      show ((wayTo W H X p (2 ^ k)).length : Int) = _
      rw [w2, e2, pops_nat, popsN_pow (by omega)]; rfl
/-- what it asks of each jump -/
theorem jump_spoiled {W H X p q : Int} {f o t : Int} {can : Bool} (hp : positionOk W H X p = true) (hc : canReach W H X p q = can) (hl : (f, o, t) ∈ jumpsOf W H X p) :
    doOk W H X p f o t = true ∧ canReach W H X (doTo W H X p f o t) q = good W H X p q (f, o, t) ∧ isSpoiled W H X p q f o t = (can && !good W H X p q (f, o, t)) := by
  have p0 := (positionOk_facts hp).p0
  have ep : p = ((p.toNat : Nat) : Int) := by omega
  unfold jumpsOf at hl
  rw [if_pos hp, List.mem_filter] at hl
  have hp' := hp
  rw [ep] at hp'
  obtain ⟨d1, d2⟩ := jump_do hp' hl.1 (line_is hl.1) hl.2
  rw [← ep] at d1 d2
  have h2 : canReach W H X (doTo W H X p f o t) q = good W H X p q (f, o, t) := by rw [d2, can_flip]; rfl
  exact ⟨d1, h2, by unfold isSpoiled; rw [d1, hc, h2]; cases can <;> simp⟩
end Go.Proofs.Ytianfakgojmnpaa

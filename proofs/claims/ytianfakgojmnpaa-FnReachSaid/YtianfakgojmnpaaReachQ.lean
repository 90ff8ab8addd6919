/- What FnReach asks: classes of holes, and the list of what is reached. Plain mathematics. -/
import Derived.Test.YtianfakgojmnpaaLineC
import Derived.Test.YtianfakgojmnpaaPegsF
import Derived.Test.YtianfakgojmnpaaWayR
namespace Go.Proofs.Ytianfakgojmnpaa
open Go.RowKit

/-- is hole k in class j (0 to 2: by x + y, 3 to 5: by x + 2 y) -/
def clsAt (W : Int) (j k : Nat) : Int :=
  if j < 3 then (if ((k : Int) % W + (k : Int) / W) % 3 = j then 1 else 0) else (if ((k : Int) % W + 2 * ((k : Int) / W)) % 3 = (j : Int) - 3 then 1 else 0)
def clsP (W : Int) (p j : Nat) : Int := lsum (clsAt W j) p 49 % 2
def differ (a b : Int) : Int := if a = b then 0 else 1
def keyN (W : Int) (p : Nat) : Int := differ (clsP W p 0) (clsP W p 1) + 2 * differ (clsP W p 1) (clsP W p 2) + 4 * differ (clsP W p 3) (clsP W p 4) + 8 * differ (clsP W p 4) (clsP W p 5)
def keyNumber (W H X p : Int) : Int := if positionOk W H X p = true then keyN W p.toNat else -1
def sameKey (W H X p q : Int) : Bool := positionOk W H X p && positionOk W H X q && decide (keyNumber W H X p = keyNumber W H X q)
def finalHoles (W H X p : Int) : List Nat := (holes W H X).filter fun k => sameKey W H X p (2 ^ k)
theorem clsP_bd (W : Int) (p j : Nat) : 0 ≤ clsP W p j ∧ clsP W p j ≤ 1 := by unfold clsP; omega
theorem cls_line {W H X : Int} {l : Int × Int × Int} (hl : l ∈ linesOf W H X) {j : Nat} (hj : j < 6) :
    clsAt W j l.1.toNat + clsAt W j l.2.1.toNat + clsAt W j l.2.2.toNat = 1 := by
  obtain ⟨x, y, dx, dy, C⟩ := line_coords hl
  have F := lines_facts hl
  have f0 := (hole_bit F.f).1
  have o0 := (hole_bit F.o).1
  have t0 := (hole_bit F.t).1
  have e1 : ((l.1.toNat : Nat) : Int) = l.1 := by omega
  have e2 : ((l.2.1.toNat : Nat) : Int) = l.2.1 := by omega
  have e3 : ((l.2.2.toNat : Nat) : Int) = l.2.2 := by omega
  unfold clsAt
  rw [e1, e2, e3, C.fx, C.fy, C.ox, C.oy, C.tx, C.ty]
  have hd := C.d
  by_cases h3 : j < 3
  · simp only [if_pos h3]
    rcases hd with ⟨rfl, rfl⟩ | ⟨rfl, rfl⟩ | ⟨rfl, rfl⟩ | ⟨rfl, rfl⟩ <;> (repeat' split) <;> omega
  · simp only [if_neg h3]
    rcases hd with ⟨rfl, rfl⟩ | ⟨rfl, rfl⟩ | ⟨rfl, rfl⟩ | ⟨rfl, rfl⟩ <;> (repeat' split) <;> omega
theorem cls_jump {W H X : Int} {x : Nat} {l : Int × Int × Int} (hl : l ∈ linesOf W H X) (hc : canGo false x l = true) {j : Nat} (hj : j < 6) : clsP W (goTo x l) j = 1 - clsP W x j := by
  have h1 := cls_line hl hj
  have h2 := lsum_jumpL (clsAt W j) hl hc
  unfold clsP
  omega
theorem differ_flip (a b : Int) : differ (1 - a) (1 - b) = differ a b := by
  unfold differ
  by_cases h : a = b
  · rw [if_pos h, if_pos (by omega)]
  · rw [if_neg h, if_neg (by omega)]
theorem key_jump {W H X : Int} {x : Nat} {l : Int × Int × Int} (hl : l ∈ linesOf W H X) (hc : canGo false x l = true) : keyN W (goTo x l) = keyN W x := by
  unfold keyN
  rw [cls_jump hl hc (j := 0) (by omega), cls_jump hl hc (j := 1) (by omega), cls_jump hl hc (j := 2) (by omega), cls_jump hl hc (j := 3) (by omega), cls_jump hl hc (j := 4) (by omega), cls_jump hl hc (j := 5) (by omega)]
  simp only [differ_flip]
/-- what is reached has the same key -/
theorem reach_key {W H X p q : Int} (h : canReach W H X p q = true) : sameKey W H X p q = true := by
  obtain ⟨h1, h2, h3⟩ := seen_ok (show seenHas (seenB W H X false p) q = true from h)
  have hk := reach_inv (P := fun x => keyN W x = keyN W p.toNat) rfl (fun x l hx hl hc => (key_jump hl hc).trans hx) h
  unfold sameKey keyNumber
  rw [h1, h2, if_pos rfl, if_pos rfl, hk]; simp

theorem popsN_bit {x k : Nat} (hk : k < 49) (h : x.testBit k = true) : 1 ≤ popsN x := List.length_pos_of_mem (bitsTo_mem.2 ⟨hk, h⟩)
/-- what is reached has a peg, if the start has one -/
theorem reach_pos {W H X p q : Int} (hp : 1 ≤ popsN p.toNat) (h : canReach W H X p q = true) : 1 ≤ popsN q.toNat := by
  refine reach_inv (P := fun x => 1 ≤ popsN x) hp (fun x l _ hl hc => ?_) h
  obtain ⟨f, o, t⟩ := l
  have hs := (lines_facts hl).small
  rw [canGo_bits hs] at hc
  simp only [Bool.and_eq_true, Bool.not_eq_true'] at hc
  obtain ⟨a1, a2, a3⟩ := hs.ap
  simp only at a1 a2 a3
  have h3 := hs.t1
  refine popsN_bit (k := t.toNat) (by omega) ?_
  rw [goTo_flip hs]
  simp only [Nat.testBit_xor, Nat.testBit_two_pow, hc.2]
  simp [a2, a3]
/-- a position of one peg is a single peg -/
theorem one_peg {x : Nat} (hx : x < 562949953421312) (h : popsN x = 1) : ∃ k, k < 49 ∧ x = 2 ^ k := by
  unfold popsN at h
  obtain ⟨k, hk⟩ := List.length_eq_one_iff.1 h
  have hm : k ∈ bitsTo x 49 := by rw [hk]; simp
  obtain ⟨k1, k2⟩ := bitsTo_mem.1 hm
  refine ⟨k, k1, ?_⟩
  apply Nat.eq_of_testBit_eq; intro i
  rw [Nat.testBit_two_pow]
  by_cases hi : i < 49
  · by_cases e : k = i
    · subst e; simp [k2]
    · cases hb : x.testBit i
      · simp [e]
      · have := bitsTo_mem.2 ⟨hi, hb⟩
        rw [hk, List.mem_singleton] at this
        omega
  · rw [Nat.testBit_lt_two_pow (Nat.lt_of_lt_of_le hx (show 2 ^ 49 ≤ 2 ^ i from Nat.pow_le_pow_right (by decide) (by omega)))]
    have : ¬ k = i := by omega
    simp [this]

def lmin (s : Int) (L : List Nat) : Int := L.foldl (fun (s : Int) (q : Nat) => min s (pops (q : Int))) s
theorem lmin_snoc (s : Int) (L : List Nat) (q : Nat) : lmin s (L ++ [q]) = min (lmin s L) (pops (q : Int)) := by simp [lmin]
theorem fewest_min : ∀ (n : Nat) (L : List Nat), L.length = n → L = [] ∨ ((∀ s, lmin s L = min s (fewest L)) ∧ (∃ q ∈ L, fewest L = pops (q : Int)) ∧ ∀ q ∈ L, fewest L ≤ pops (q : Int)) := by
  intro n
  induction n with
  | zero => intro L h; left; exact List.length_eq_zero_iff.1 h
  | succ n ih =>
    intro L h
    right
    obtain ⟨L', q, rfl⟩ : ∃ L' q, L = L' ++ [q] := ⟨L.dropLast, L.getLast (by intro e; rw [e] at h; simp at h), (List.dropLast_concat_getLast (by intro e; rw [e] at h; simp at h)).symm⟩
    have hq := (pops_bd (q : Int)).1
    rcases ih L' (by simpa using h) with rfl | ⟨i1, ⟨r, i2, i2'⟩, i3⟩
    · have e : fewest [q] = pops (q : Int) := by simp [fewest, fstep]
      rw [List.nil_append, e]
      exact ⟨fun s => by simp [lmin], ⟨q, by simp, rfl⟩, fun r hr => by rw [List.mem_singleton] at hr; subst hr; exact Int.le_refl _⟩
    · have hr := (pops_bd (r : Int)).1
      rw [fewest_snoc]
      by_cases hc : pops (q : Int) < fewest L'
      · rw [fstep_new (.inr hc)]
        refine ⟨fun s => by rw [lmin_snoc, i1]; omega, ⟨q, by simp, rfl⟩, fun x hx => ?_⟩
        rw [List.mem_append, List.mem_singleton] at hx
        rcases hx with hx | rfl
        · have := i3 x hx; omega
        · exact Int.le_refl _
      · rw [fstep_old (by omega)]
        refine ⟨fun s => by rw [lmin_snoc, i1]; omega, ⟨r, by simp [i2], i2'⟩, fun x hx => ?_⟩
        rw [List.mem_append, List.mem_singleton] at hx
        rcases hx with hx | rfl
        · exact i3 x hx
        · omega
theorem idx_rising (bs : List Bool) (n : Nat) : (idxTo bs n).Pairwise (· < ·) := List.Pairwise.filter _ List.pairwise_lt_range
theorem reach_rising {W H X p : Int} {k a b : Nat} (h1 : (reachOf W H X false p)[k]? = some a) (h2 : (reachOf W H X false p)[k + 1]? = some b) : a < b := by
  obtain ⟨l1, e1⟩ := List.getElem?_eq_some_iff.1 h1
  obtain ⟨l2, e2⟩ := List.getElem?_eq_some_iff.1 h2
  rw [← e1, ← e2]
  exact List.pairwise_iff_getElem.1 (idx_rising _ _) _ _ l1 l2 (by omega)

/-- what FnReach asks of the start -/
structure ReachF (W H X p : Int) (n : Int) : Prop where
  ln : 0 < (reachOf W H X false p).length
  cp : canReach W H X p p = true
  few : fewest (reachOf W H X false p) = n
  one : decide (n = 1) = decide (0 < (finals W H X p).length)
  low : lmin (pops p) (reachOf W H X false p) = n
theorem reachF_of {W H X p : Int} (hs : isSmall W H X = true) (hp : positionOk W H X p = true) : ReachF W H X p (fewest (reachOf W H X false p)) := by
  have F := positionOk_facts hp
  have hpp := reach_refl hs hp false
  have hpm : p.toNat ∈ reachOf W H X false p := by
    rw [reach_mem]
    rw [show ((p.toNat : Nat) : Int) = p by have := F.p0; omega]; exact hpp
  have hmin := fewest_min _ _ (rfl : (reachOf W H X false p).length = _)
  rcases hmin with h | ⟨m1, ⟨q, m2, m2'⟩, m3⟩
  · rw [h] at hpm; cases hpm
  have epn : ((p.toNat : Nat) : Int) = p := by have := F.p0; omega
  have hle := m3 _ hpm
  rw [epn] at hle
  refine ⟨List.length_pos_of_mem hpm, hpp, rfl, ?_, by rw [m1]; omega⟩
  rw [Bool.eq_iff_iff, decide_eq_true_eq, decide_eq_true_eq]
  constructor
  · intro h
    rw [h] at m2'
    have hq := reach_mem.1 m2
    have h9 := seen_ok hq
    have hqlt := (pos_lt h9.1).2
    rw [Int.toNat_natCast] at hqlt
    have hq1 : popsN q = 1 := by rw [pops_nat] at m2'; omega
    obtain ⟨k, hk, rfl⟩ := one_peg hqlt hq1
    apply List.length_pos_of_mem (a := k)
    unfold finals
    rw [List.mem_filter]
    refine ⟨?_, ?_⟩
    · have hsub := (positionOk_facts h9.1).sub
      rw [Int.toNat_natCast] at hsub
      rw [← holes_spec F.b, bitsTo_mem]
      refine ⟨hk, ?_⟩
      have := congrArg (fun z => z.testBit k) hsub
      simp only [Nat.testBit_and, Nat.testBit_two_pow, decide_true, Bool.true_and] at this
      exact this
    · have e : ((2 : Int) ^ k) = ((2 ^ k : Nat) : Int) := by simp
      rw [e]; exact hq
  · intro h
    obtain ⟨k, hk⟩ := List.exists_mem_of_length_pos h
    unfold finals at hk
    rw [List.mem_filter] at hk
    obtain ⟨k1, k2⟩ := hk
    have e : ((2 : Int) ^ k) = ((2 ^ k : Nat) : Int) := by simp
    rw [e] at k2
    have hk3 : (2 ^ k) ∈ reachOf W H X false p := reach_mem.2 k2
    have hk4 := m3 _ hk3
    have B := boardOk_facts F.b
    obtain ⟨b1, b2, _⟩ := hole_bit (holes_hole k1).1
    have := B.m2
    rw [pops_nat, popsN_pow (by omega)] at hk4
    have hq := reach_mem.1 m2
    have hp1 : 1 ≤ popsN p.toNat := by
      rcases reach_pops k2 with h5 | h5
      · rw [← h5, popsN_pow (by omega)]; exact Nat.le_refl _
      · omega
    have := reach_pos (q := (q : Int)) hp1 hq
    rw [Int.toNat_natCast] at this
    rw [m2', pops_nat] at hk4
    rw [m2', pops_nat]
    omega
/-- what it asks of each reached position -/
theorem reach_each {W H X p : Int} {k x : Nat} (h : (reachOf W H X false p)[k]? = some x) :
    positionOk W H X (x : Int) = true ∧ canReach W H X p (x : Int) = true ∧ popsN x ≤ popsN p.toNat ∧ (popsN x = popsN p.toNat → (x : Int) = p) := by
  have hm := reach_mem.1 (List.mem_of_getElem? h)
  obtain ⟨h1, h2, h3⟩ := seen_ok hm
  have F := positionOk_facts h2
  have := F.p0
  rcases reach_pops hm with e | e
  · exact ⟨h1, hm, by rw [e]; exact Nat.le_refl _, fun _ => by omega⟩
  · exact ⟨h1, hm, by omega, fun e2 => by omega⟩
/-- what it asks of each jump from a reached position -/
theorem reach_jump {W H X p : Int} {x : Nat} {f o t : Int} (h : canReach W H X p (x : Int) = true) (hl : (f, o, t) ∈ jumpsOf W H X (x : Int)) :
    doOk W H X x f o t = true ∧ doTo W H X x f o t = ((goTo x (f, o, t) : Nat) : Int) ∧ goTo x (f, o, t) ∈ reachOf W H X false p := by
  obtain ⟨j1, j2, j3⟩ := jumpsOf_mem hl
  rw [Int.toNat_natCast] at j3
  obtain ⟨d1, d2⟩ := jump_do j1 j2 (line_is j2) j3
  exact ⟨d1, d2, reach_mem.2 (reach_step h j2 j3)⟩
/-- what it asks of each final hole -/
theorem reach_final {W H X p : Int} {k : Nat} (h : k ∈ finals W H X p) : hasHole W H X (k : Int) = true ∧ canReach W H X p (2 ^ k) = true ∧ k ∈ finalHoles W H X p := by
  unfold finals at h
  rw [List.mem_filter] at h
  unfold finalHoles
  rw [List.mem_filter]
  exact ⟨(holes_hole h.1).1, h.2, h.1, reach_key h.2⟩
end Go.Proofs.Ytianfakgojmnpaa

/- Armies: what FnArmies reckons with. Plain mathematics. -/
import Derived.Test.YtianfakgojmnpaaLeast
import Derived.Test.YtianfakgojmnpaaDrawA
import Derived.Test.YtianfakgojmnpaaGoldM
namespace Go.Proofs.Ytianfakgojmnpaa
open Go.RowKit

/-! ### sums over distinct soldiers -/
def isum (f : Int × Int → Int) (zs : List (Int × Int)) : Int := zs.foldr (fun z s => f z + s) 0
theorem isum_cons (f : Int × Int → Int) (z : Int × Int) (zs : List (Int × Int)) : isum f (z :: zs) = f z + isum f zs := rfl
theorem isum_nonneg {f : Int × Int → Int} (h : ∀ z, 0 ≤ f z) : ∀ zs, 0 ≤ isum f zs := by
  intro zs
  induction zs with
  | nil => exact Int.le_refl _
  | cons z zs ih => rw [isum_cons]; have := h z; omega
theorem isum_erase (f : Int × Int → Int) {z : Int × Int} : ∀ {G : List (Int × Int)}, z ∈ G → isum f G = f z + isum f (G.erase z) := by
  intro G
  induction G with
  | nil => intro h; cases h
  | cons y G ih =>
    intro h
    by_cases e : y = z
    · subst e; rw [List.erase_cons_head, isum_cons]
    · rw [List.erase_cons_tail (by simpa using e), isum_cons, isum_cons, ih (by rcases List.mem_cons.1 h with h | h; exact absurd h.symm e; exact h)]
      omega
theorem isum_le {f : Int × Int → Int} (h0 : ∀ z, 0 ≤ f z) : ∀ {zs G : List (Int × Int)}, zs.Nodup → (∀ z, z ∈ zs → z ∈ G) → isum f zs ≤ isum f G := by
  intro zs
  induction zs with
  | nil => intro G _ _; exact isum_nonneg h0 G
  | cons z zs ih =>
    intro G hn hs
    rw [List.nodup_cons] at hn
    rw [isum_erase f (hs z (by simp)), isum_cons]
    have := ih (G := G.erase z) hn.2 (fun y hy => (List.mem_erase_of_ne (by intro e; subst e; exact hn.1 hy)).2 (hs y (by simp [hy])))
    omega
theorem isum_mono {f g : Int × Int → Int} : ∀ {zs : List (Int × Int)}, (∀ z, z ∈ zs → f z ≤ g z) → isum f zs ≤ isum g zs := by
  intro zs
  induction zs with
  | nil => intro _; exact Int.le_refl _
  | cons z zs ih => intro h; rw [isum_cons, isum_cons]; have := ih (fun y hy => h y (by simp [hy])); have := h z (by simp); omega
/-- at most k of them, held against a mark -/
theorem isum_mark {f : Int × Int → Int} (t : Int) : ∀ {zs : List (Int × Int)}, isum f zs ≤ t * zs.length + isum (fun z => max 0 (f z - t)) zs := by
  intro zs
  induction zs with
  | nil => simp [isum]
  | cons z zs ih =>
    rw [isum_cons, isum_cons]
    have e : t * (((z :: zs).length : Nat) : Int) = t * zs.length + t := by rw [List.length_cons, Int.natCast_succ, Int.mul_add, Int.mul_one]
    rw [e]; omega

/-! ### the golden sum of an army as a number -/
def wL (l : Int) (z : Int × Int) : Int := gL (weightA z.1 z.2 l) (weightB z.1 z.2 l)
theorem sums_lin (l : Int) : ∀ (zs : List (Int × Int)) (a b : Int), gL (zs.foldl (fun s z => s + weightA z.1 z.2 l) a) (zs.foldl (fun s z => s + weightB z.1 z.2 l) b) = gL a b + isum (wL l) zs := by
  intro zs
  induction zs with
  | nil => intro a b; simp [isum]
  | cons z zs ih =>
    intro a b
    rw [List.foldl_cons, List.foldl_cons, ih, isum_cons]
    unfold wL gL; omega
theorem afold_lin {l : Int} {zs : List (Int × Int)} (h : zs.length ≤ 60) : gL (afold l zs).1 (afold l zs).2 = isum (wL l) zs := by
  rw [afold_sums l zs _ h rfl]
  show gL (sumA l zs) (sumB l zs) = _
  unfold sumA sumB
  rw [sums_lin]; simp [gL]
theorem afold_ok {l : Int} {zs : List (Int × Int)} (h : zs.length ≤ 60) : goldOk (afold l zs).1 (afold l zs).2 = true := by
  have := afold_small l zs _ h rfl
  exact goldOk_iff.2 (by omega)
theorem sgnI_ge {n : Int} : 0 ≤ sgnI n ↔ 0 ≤ n := by unfold sgnI; repeat' split; all_goals omega
theorem may_iff {l : Int} {zs : List (Int × Int)} (h : armyOk zs = true) (hl : inB l 1 5 = true) (hn : zs.length ≤ 60) : mayReach zs l = true ↔ 14930352 ≤ isum (wL l) zs := by
  unfold mayReach armySum
  rw [if_pos h, h, hl, compareGold_lin (afold_ok hn) (by decide), afold_lin hn]
  simp only [Bool.and_self, Bool.true_and, decide_eq_true_eq, sgnI_ge]
  have : gL 1 0 = 14930352 := by decide
  rw [this]; omega

/-! ### drawn armies -/
def cellsA : List (Int × Int) := (List.range 28).map fun i => (((i % 7 : Nat) : Int) - 3, ((i / 7 : Nat) : Int))
theorem mem_cellsA {x y : Int} (h : -3 ≤ x ∧ x ≤ 3 ∧ 0 ≤ y ∧ y ≤ 3) : (x, y) ∈ cellsA := by
  unfold cellsA
  rw [List.mem_map]
  refine ⟨7 * y.toNat + (x + 3).toNat, by rw [List.mem_range]; omega, ?_⟩
  have h1 : (7 * y.toNat + (x + 3).toNat) % 7 = (x + 3).toNat := by omega
  have h2 : (7 * y.toNat + (x + 3).toNat) / 7 = y.toNat := by omega
  rw [h1, h2]
  exact Prod.ext (by simp; omega) (by simp; omega)
theorem good_cells {zs : List (Int × Int)} (h : goodA zs) : ∀ z, z ∈ zs → z ∈ cellsA := fun z hz => mem_cellsA (x := z.1) (y := z.2) (h.2 z hz)
theorem good_army {zs : List (Int × Int)} (h : goodA zs) (hl : zs.length ≤ 23) : armyOk zs = true := by
  unfold armyOk
  rw [Bool.and_eq_true]
  refine ⟨by simp; omega, ?_⟩
  unfold armyTo
  rw [List.all_eq_true]
  intro k hk
  rw [List.mem_range] at hk
  obtain ⟨⟨x, y⟩, hz⟩ : ∃ z, zs[k]? = some z := ⟨_, List.getElem?_eq_getElem hk⟩
  have hm := h.2 _ (List.mem_of_getElem? hz)
  simp only at hm
  refine step_yes hz (soldierOk_iff.2 (by omega)) ?_
  intro j hj hzj
  have := (List.getElem?_inj (by omega) h.1).1 (hzj.trans hz.symm)
  omega
def markOf (l : Int) : Int := if l = 1 then 5702887 else if l = 2 then 2178309 else if l = 3 then 1346269 else 317811
def grid_bound (l t k : Int) : Bool := decide (0 ≤ t) && decide (t * k + isum (fun z => max 0 (wL l z - t)) cellsA < 14930352)
theorem few_short {l t k : Int} {zs : List (Int × Int)} (hb : grid_bound l t k = true) (h : goodA zs) (hk : (zs.length : Int) ≤ k) : isum (wL l) zs < 14930352 := by
  simp only [grid_bound, Bool.and_eq_true, decide_eq_true_eq] at hb
  have h1 := isum_mark (f := wL l) t (zs := zs)
  have h2 := isum_le (f := fun z => max 0 (wL l z - t)) (fun z => by omega) h.1 (good_cells h)
  have h3 : t * (zs.length : Int) ≤ t * k := Int.mul_le_mul_of_nonneg_left hk hb.1
  omega
theorem markTab : grid_bound 1 (markOf 1) 1 = true ∧ grid_bound 2 (markOf 2) 3 = true ∧ grid_bound 3 (markOf 3) 7 = true ∧ grid_bound 4 (markOf 4) 18 = true ∧ grid_bound 5 0 23 = true := by decide +kernel
theorem nearer : (cellsA.all fun z => decide (wL 2 z ≤ wL 1 z) && decide (wL 3 z ≤ wL 2 z) && decide (wL 4 z ≤ wL 3 z)) = true := by decide +kernel
theorem may5 {zs : List (Int × Int)} (h : goodA zs) (hl : zs.length ≤ 23) : mayReach zs 5 = false := by
  cases e : mayReach zs 5
  · rfl
  · have := (may_iff (good_army h hl) (by decide) (by omega)).1 e
    have := few_short markTab.2.2.2.2 h (by omega)
    omega
theorem may_least {zs : List (Int × Int)} {l : Int} (h : goodA zs) (hl : zs.length ≤ 23) (l0 : 1 ≤ l) (l1 : l ≤ 4) (hm : mayReach zs l = true) : leastArmy l ≤ zs.length := by
  have hq := (may_iff (good_army h hl) (inB_iff.2 (by omega)) (by omega)).1 hm
  have : l = 1 ∨ l = 2 ∨ l = 3 ∨ l = 4 := by omega
  rcases this with rfl | rfl | rfl | rfl
  · show (2 : Int) ≤ _
    have := fun hk => few_short markTab.1 h hk; omega
  · show (4 : Int) ≤ _
    have := fun hk => few_short markTab.2.1 h hk; omega
  · show (8 : Int) ≤ _
    have := fun hk => few_short markTab.2.2.1 h hk; omega
  · show (19 : Int) ≤ _
    have := fun hk => few_short markTab.2.2.2.1 h hk; omega
theorem may_before {zs : List (Int × Int)} {l : Int} (h : goodA zs) (hl : zs.length ≤ 23) (l0 : 1 < l) (l1 : l ≤ 4) (hm : mayReach zs l = true) : mayReach zs (l - 1) = true := by
  have hq := (may_iff (good_army h hl) (inB_iff.2 (by omega)) (by omega)).1 hm
  refine (may_iff (good_army h hl) (inB_iff.2 (by omega)) (by omega)).2 ?_
  have hn := List.all_eq_true.1 nearer
  have : isum (wL l) zs ≤ isum (wL (l - 1)) zs := by
    refine isum_mono fun z hz => ?_
    have := hn z (good_cells h z hz)
    simp only [Bool.and_eq_true, decide_eq_true_eq] at this
    have : l = 2 ∨ l = 3 ∨ l = 4 := by omega
    rcases this with rfl | rfl | rfl
    · exact this.1.1
    · exact this.1.2
    · exact this.2
  omega
def allS : List (Int × Int) := (List.range 60).map fun k => (((k % 11 : Nat) : Int) - 5, ((k / 11 : Nat) : Int))
theorem all_may : mayF allS 4 = true ∧ mayF allS 5 = false := by decide +kernel
theorem all4 : mayReach allS 4 = true := by rw [mayF_eq]; exact all_may.1
theorem all5 : mayReach allS 5 = false := by rw [mayF_eq]; exact all_may.2
end Go.Proofs.Ytianfakgojmnpaa

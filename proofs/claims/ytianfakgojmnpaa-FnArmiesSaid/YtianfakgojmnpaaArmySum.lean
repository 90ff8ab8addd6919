/- Sums of armies: contracts. -/
import Derived.Test.YtianfakgojmnpaaArmyOk
import Derived.Test.YtianfakgojmnpaaGoldD
import Derived.Test.YtianfakgojmnpaaGoldE
import Derived.Test.YtianfakgojmnpaaGoldX
namespace Go.Proofs.Ytianfakgojmnpaa
open Go.RowKit

theorem cell_lt {w : World} {b o : Nat} {v : Value} (h : w.cell? ⟨b, o, none⟩ = some v) : b < w.heap.size := by
  rcases Nat.lt_or_ge b w.heap.size with h1 | h1
  · exact h1
  · simp [World.cell?, Array.getElem?_eq_none h1] at h
def wAt (l : Int) (z : Int × Int) : Int × Int := (weightA z.1 z.2 l, weightB z.1 z.2 l)
def astep (l : Int) (s : Int × Int) (z : Int × Int) : Int × Int := (addA s.1 s.2 (wAt l z).1 (wAt l z).2, addB s.1 s.2 (wAt l z).1 (wAt l z).2)
def afold (l : Int) (zs : List (Int × Int)) : Int × Int := zs.foldl (astep l) (0, 0)
theorem afold_snoc (l : Int) (zs : List (Int × Int)) (z : Int × Int) : afold l (zs ++ [z]) = astep l (afold l zs) z := by simp [afold]
theorem wAt_small (l : Int) (z : Int × Int) : -10946 ≤ (wAt l z).1 ∧ (wAt l z).1 ≤ 10946 ∧ -10946 ≤ (wAt l z).2 ∧ (wAt l z).2 ≤ 10946 := by
  unfold wAt weightA weightB
  simp only
  split
  · exact pow_small _
  · simp
/-- with at most sixty soldiers no bound is passed -/
theorem afold_small (l : Int) (zs : List (Int × Int)) : ∀ n : Nat, n ≤ 60 → zs.length = n → (-(10946 * (n : Int)) ≤ (afold l zs).1 ∧ (afold l zs).1 ≤ 10946 * n) ∧ (-(10946 * (n : Int)) ≤ (afold l zs).2 ∧ (afold l zs).2 ≤ 10946 * n) := by
  intro n
  induction n generalizing zs with
  | zero => intro _ h; have : zs = [] := List.length_eq_zero_iff.1 h; subst this; simp [afold]
  | succ n ih =>
    intro hn h
    have hne : zs ≠ [] := by intro e; subst e; simp at h
    obtain ⟨ys, z, rfl⟩ : ∃ ys z, zs = ys ++ [z] := ⟨zs.dropLast, zs.getLast hne, (List.dropLast_concat_getLast hne).symm⟩
    have hy : ys.length = n := by simp at h; omega
    obtain ⟨⟨a1, a2⟩, b1, b2⟩ := ih ys (by omega) hy
    obtain ⟨c1, c2, c3, c4⟩ := wAt_small l z
    rw [afold_snoc]
    unfold astep addA addB
    have g1 : goldOk (afold l ys).1 (afold l ys).2 = true := goldOk_iff.2 (by omega)
    have g2 : goldOk (wAt l z).1 (wAt l z).2 = true := goldOk_iff.2 (by omega)
    have g3 : goldOk ((afold l ys).1 + (wAt l z).1) ((afold l ys).2 + (wAt l z).2) = true := goldOk_iff.2 (by omega)
    simp only [g1, g2, g3, and_self, if_true]
    omega
theorem astep_sum (l : Int) (zs : List (Int × Int)) (z : Int × Int) (h : zs.length < 60) : astep l (afold l zs) z = ((afold l zs).1 + (wAt l z).1, (afold l zs).2 + (wAt l z).2) := by
  obtain ⟨⟨a1, a2⟩, b1, b2⟩ := afold_small l zs zs.length (by omega) rfl
  obtain ⟨c1, c2, c3, c4⟩ := wAt_small l z
  unfold astep addA addB
  have g1 : goldOk (afold l zs).1 (afold l zs).2 = true := goldOk_iff.2 (by omega)
  have g2 : goldOk (wAt l z).1 (wAt l z).2 = true := goldOk_iff.2 (by omega)
  have g3 : goldOk ((afold l zs).1 + (wAt l z).1) ((afold l zs).2 + (wAt l z).2) = true := goldOk_iff.2 (by omega)
  simp [g1, g2, g3]
theorem afold_zero {l : Int} (h : inB l 1 5 = false) (zs : List (Int × Int)) : afold l zs = (0, 0) := by
  unfold afold
  have : ∀ z, astep l (0, 0) z = (0, 0) := by
    intro z; unfold astep wAt weightA weightB addA addB; simp [h]
  induction zs with
  | nil => rfl
  | cons z zs ih => rw [List.foldl_cons, this, ih]
def armySum (zs : List (Int × Int)) (l : Int) : Int × Int := if armyOk zs = true then afold l zs else (0, 0)
theorem top_cell {W : World} {cs : Array Value} {ty : TypeId} {g j : Nat} {v : Value} (hg : g = W.heap.size) (h : cs[j]? = some v) : (W.alloc (.cells cs ty)).cell? ⟨g, j, none⟩ = some v := by
  subst hg; simp [h]
theorem top_frozen {W : World} {cs : Array Value} {ty : TypeId} {g j : Nat} (hg : g = W.heap.size) : (W.alloc (.cells cs ty)).frozen? ⟨g, j, none⟩ = false := by
  subst hg; simp
set_option maxHeartbeats 2000000 in
theorem impl_ArmySum_no1 (A : Option Addr) (cap : Nat) (zs : List (Int × Int)) (l : Int) (w : World) (hA : FAt w A (sflat zs)) (hn : zs.length ≤ 4294967296) (hcap : zs.length ≤ cap) (h1 : armyOk zs = false) :
    Calls Try.prog 16 #[.slice A zs.length cap, .int .i64 l] w fun e w' => e = .returned (.agg #[.int .i64 0, .int .i64 0]) ∧ Below w.heap.size w w' := by
  go_enter Try.func16, Try.ntmps16
  go_wp2_with fail
  generalize hV : (w.alloc (.cells #[.int .i64 0, .int .i64 0] 31)).alloc (.cells #[.int .i64 0, .int .i64 0] 31) = V
  have v0 : Below w.heap.size w V := by subst hV; (repeat (first | exact Below.refl _ _ | assumption | refine below_step ?_ (by assumption) | refine below_alloc ?_ _ | refine below_drewN ?_ _ | refine Below.drew ?_ | refine Below.setCell ?_ (by first | (simp; done) | omega | (simp; omega)) _))
  have z0 : w.heap.size < V.heap.size := by subst hV; simp <;> omega
  have v0_0 : V.cell? ⟨w.heap.size, 0, none⟩ = some (.int .i64 0) := by subst hV; simp
  have v0_1 : V.cell? ⟨w.heap.size, 1, none⟩ = some (.int .i64 0) := by subst hV; simp
  have z1 : w.heap.size + 1 < V.heap.size := by subst hV; simp <;> omega
  have v1_0 : V.cell? ⟨w.heap.size + 1, 0, none⟩ = some (.int .i64 0) := by subst hV; simp
  have v1_1 : V.cell? ⟨w.heap.size + 1, 1, none⟩ = some (.int .i64 0) := by subst hV; simp
  have K : Hid (∀ w', Below V.heap.size V w' → Below V.heap.size V w' ∧ w'.cell? ⟨w.heap.size, 0, none⟩ = some (.int .i64 0) ∧ w'.cell? ⟨w.heap.size, 1, none⟩ = some (.int .i64 0) ∧ w'.cell? ⟨w.heap.size + 1, 0, none⟩ = some (.int .i64 0) ∧ w'.cell? ⟨w.heap.size + 1, 1, none⟩ = some (.int .i64 0)) := fun w' hB => ⟨hB, bel_cell hB z0 v0_0, bel_cell hB z0 v0_1, bel_cell hB z1 v1_0, bel_cell hB z1 v1_1⟩
  have ZV : Hid (w.heap.size + 1 + 1 = V.heap.size) := by subst hV; unfold Hid; simp
  have f00 : V.frozen? ⟨w.heap.size, 0, none⟩ = false := by subst hV; simp
  have f01 : V.frozen? ⟨w.heap.size, 1, none⟩ = false := by subst hV; simp
  have f10 : V.frozen? ⟨w.heap.size + 1, 0, none⟩ = false := by subst hV; simp
  have f11 : V.frozen? ⟨w.heap.size + 1, 1, none⟩ = false := by subst hV; simp
  clear hV
  have hA' := hA.below v0
  refine (calls_is (impl_ArmyOk _ _ _ _ hA' hn hcap) h1).mono ?_
  rintro e w1 ⟨rfl, hV⟩
  have hbel := hV.mono (show w.heap.size + 1 ≤ V.heap.size from by omega)
  have s0 := bel_cell hV z1 v1_0
  have s1 := bel_cell hV z1 v1_1
  have r3 := (hbel.cell (p := ⟨w.heap.size, 0, none⟩) (by simp)).trans v0_0
  have r4 := (hbel.cell (p := ⟨w.heap.size, 1, none⟩) (by simp)).trans v0_1
  have r5 := (hbel.frozen (p := ⟨w.heap.size, 0, none⟩) (by simp)).trans f00
  have r6 := (hbel.frozen (p := ⟨w.heap.size, 1, none⟩) (by simp)).trans f01
  have hw := v0.trans (hbel.mono (show w.heap.size ≤ w.heap.size + 1 from by omega))
  have q3 := set2_cells (x := .int .i64 (0)) (y := .int .i64 (0)) r3 r4
  go_wp2
  exact bodyPost_ret (v := .agg #[.int .i64 (0), .int .i64 (0)]) (by simp [results, Try.results16, go_sem, q3.1, q3.2]) rfl ⟨rfl, by (repeat (first | exact Below.refl _ _ | assumption | refine below_step ?_ (by assumption) | refine below_alloc ?_ _ | refine below_drewN ?_ _ | refine Below.drew ?_ | refine Below.setCell ?_ (by first | (simp; done) | omega | (simp; omega)) _))⟩
set_option maxHeartbeats 2000000 in
theorem impl_ArmySum_no2 (A : Option Addr) (cap : Nat) (zs : List (Int × Int)) (l : Int) (w : World) (hA : FAt w A (sflat zs)) (hn : zs.length ≤ 4294967296) (hcap : zs.length ≤ cap) (h1 : armyOk zs = true) (h2 : inB l 1 5 = false) :
    Calls Try.prog 16 #[.slice A zs.length cap, .int .i64 l] w fun e w' => e = .returned (.agg #[.int .i64 0, .int .i64 0]) ∧ Below w.heap.size w w' := by
  go_enter Try.func16, Try.ntmps16
  go_wp2_with fail
  generalize hV : (w.alloc (.cells #[.int .i64 0, .int .i64 0] 31)).alloc (.cells #[.int .i64 0, .int .i64 0] 31) = V
  have v0 : Below w.heap.size w V := by subst hV; (repeat (first | exact Below.refl _ _ | assumption | refine below_step ?_ (by assumption) | refine below_alloc ?_ _ | refine below_drewN ?_ _ | refine Below.drew ?_ | refine Below.setCell ?_ (by first | (simp; done) | omega | (simp; omega)) _))
  have z0 : w.heap.size < V.heap.size := by subst hV; simp <;> omega
  have v0_0 : V.cell? ⟨w.heap.size, 0, none⟩ = some (.int .i64 0) := by subst hV; simp
  have v0_1 : V.cell? ⟨w.heap.size, 1, none⟩ = some (.int .i64 0) := by subst hV; simp
  have z1 : w.heap.size + 1 < V.heap.size := by subst hV; simp <;> omega
  have v1_0 : V.cell? ⟨w.heap.size + 1, 0, none⟩ = some (.int .i64 0) := by subst hV; simp
  have v1_1 : V.cell? ⟨w.heap.size + 1, 1, none⟩ = some (.int .i64 0) := by subst hV; simp
  have K : Hid (∀ w', Below V.heap.size V w' → Below V.heap.size V w' ∧ w'.cell? ⟨w.heap.size, 0, none⟩ = some (.int .i64 0) ∧ w'.cell? ⟨w.heap.size, 1, none⟩ = some (.int .i64 0) ∧ w'.cell? ⟨w.heap.size + 1, 0, none⟩ = some (.int .i64 0) ∧ w'.cell? ⟨w.heap.size + 1, 1, none⟩ = some (.int .i64 0)) := fun w' hB => ⟨hB, bel_cell hB z0 v0_0, bel_cell hB z0 v0_1, bel_cell hB z1 v1_0, bel_cell hB z1 v1_1⟩
  have ZV : Hid (w.heap.size + 1 + 1 = V.heap.size) := by subst hV; unfold Hid; simp
  have f00 : V.frozen? ⟨w.heap.size, 0, none⟩ = false := by subst hV; simp
  have f01 : V.frozen? ⟨w.heap.size, 1, none⟩ = false := by subst hV; simp
  have f10 : V.frozen? ⟨w.heap.size + 1, 0, none⟩ = false := by subst hV; simp
  have f11 : V.frozen? ⟨w.heap.size + 1, 1, none⟩ = false := by subst hV; simp
  clear hV
  have hA' := hA.below v0
  refine (calls_is (impl_ArmyOk _ _ _ _ hA' hn hcap) h1).mono ?_
  rintro e w1 ⟨rfl, hV⟩
  have hbel := hV.mono (show w.heap.size + 1 ≤ V.heap.size from by omega)
  have s0 := bel_cell hV z1 v1_0
  have s1 := bel_cell hV z1 v1_1
  go_wp2_with fail
  refine (calls_is (impl_within _ _ _ _) h2).mono ?_
  rintro e _ ⟨rfl, rfl⟩
  have r3 := (hbel.cell (p := ⟨w.heap.size, 0, none⟩) (by simp)).trans v0_0
  have r4 := (hbel.cell (p := ⟨w.heap.size, 1, none⟩) (by simp)).trans v0_1
  have r5 := (hbel.frozen (p := ⟨w.heap.size, 0, none⟩) (by simp)).trans f00
  have r6 := (hbel.frozen (p := ⟨w.heap.size, 1, none⟩) (by simp)).trans f01
  have hw := v0.trans (hbel.mono (show w.heap.size ≤ w.heap.size + 1 from by omega))
  have q3 := set2_cells (x := .int .i64 (0)) (y := .int .i64 (0)) r3 r4
  go_wp2
  exact bodyPost_ret (v := .agg #[.int .i64 (0), .int .i64 (0)]) (by simp [results, Try.results16, go_sem, q3.1, q3.2]) rfl ⟨rfl, by (repeat (first | exact Below.refl _ _ | assumption | refine below_step ?_ (by assumption) | refine below_alloc ?_ _ | refine below_drewN ?_ _ | refine Below.drew ?_ | refine Below.setCell ?_ (by first | (simp; done) | omega | (simp; omega)) _))⟩
set_option maxHeartbeats 4000000 in
theorem impl_ArmySum_yes (A : Option Addr) (cap : Nat) (zs : List (Int × Int)) (l : Int) (w : World) (hA : FAt w A (sflat zs)) (hn : zs.length ≤ 4294967296) (hcap : zs.length ≤ cap) (h1 : armyOk zs = true) (h2 : inB l 1 5 = true) :
    Calls Try.prog 16 #[.slice A zs.length cap, .int .i64 l] w fun e w' => e = .returned (.agg #[.int .i64 (afold l zs).1, .int .i64 (afold l zs).2]) ∧ Below w.heap.size w w' := by
  have hl60 : zs.length ≤ 60 := by simp only [armyOk, Bool.and_eq_true, decide_eq_true_eq] at h1; exact h1.1
  go_enter Try.func16, Try.ntmps16
  go_wp2_with fail
  generalize hV : (w.alloc (.cells #[.int .i64 0, .int .i64 0] 31)).alloc (.cells #[.int .i64 0, .int .i64 0] 31) = V
  have v0 : Below w.heap.size w V := by subst hV; (repeat (first | exact Below.refl _ _ | assumption | refine below_step ?_ (by assumption) | refine below_alloc ?_ _ | refine below_drewN ?_ _ | refine Below.drew ?_ | refine Below.setCell ?_ (by first | (simp; done) | omega | (simp; omega)) _))
  have z0 : w.heap.size < V.heap.size := by subst hV; simp <;> omega
  have v0_0 : V.cell? ⟨w.heap.size, 0, none⟩ = some (.int .i64 0) := by subst hV; simp
  have v0_1 : V.cell? ⟨w.heap.size, 1, none⟩ = some (.int .i64 0) := by subst hV; simp
  have z1 : w.heap.size + 1 < V.heap.size := by subst hV; simp <;> omega
  have v1_0 : V.cell? ⟨w.heap.size + 1, 0, none⟩ = some (.int .i64 0) := by subst hV; simp
  have v1_1 : V.cell? ⟨w.heap.size + 1, 1, none⟩ = some (.int .i64 0) := by subst hV; simp
  have K : Hid (∀ w', Below V.heap.size V w' → Below V.heap.size V w' ∧ w'.cell? ⟨w.heap.size, 0, none⟩ = some (.int .i64 0) ∧ w'.cell? ⟨w.heap.size, 1, none⟩ = some (.int .i64 0) ∧ w'.cell? ⟨w.heap.size + 1, 0, none⟩ = some (.int .i64 0) ∧ w'.cell? ⟨w.heap.size + 1, 1, none⟩ = some (.int .i64 0)) := fun w' hB => ⟨hB, bel_cell hB z0 v0_0, bel_cell hB z0 v0_1, bel_cell hB z1 v1_0, bel_cell hB z1 v1_1⟩
  have ZV : Hid (w.heap.size + 1 + 1 = V.heap.size) := by subst hV; unfold Hid; simp
  have f00 : V.frozen? ⟨w.heap.size, 0, none⟩ = false := by subst hV; simp
  have f01 : V.frozen? ⟨w.heap.size, 1, none⟩ = false := by subst hV; simp
  have f10 : V.frozen? ⟨w.heap.size + 1, 0, none⟩ = false := by subst hV; simp
  have f11 : V.frozen? ⟨w.heap.size + 1, 1, none⟩ = false := by subst hV; simp
  clear hV
  have hA' := hA.below v0
  refine (calls_is (impl_ArmyOk _ _ _ _ hA' hn hcap) h1).mono ?_
  rintro e w1 ⟨rfl, hV⟩
  have hbel := hV.mono (show w.heap.size + 1 ≤ V.heap.size from by omega)
  have s0 := bel_cell hV z1 v1_0
  have s1 := bel_cell hV z1 v1_1
  have s2 := bel_frozen hV z1 f10
  have s3 := bel_frozen hV z1 f11
  have hz1 := Nat.lt_of_lt_of_le z1 hV.size
  go_wp2_with fail
  refine (calls_is (impl_within _ _ _ _) h2).mono ?_
  rintro e _ ⟨rfl, rfl⟩
  go_wp2_with fail
  go_loopw [20] (fun i wr => ∃ k : Nat, k ≤ zs.length ∧ i = .int .i64 k ∧ Below (w.heap.size + 1) V wr ∧ wr.cell? ⟨w.heap.size + 1, 0, none⟩ = some (.int .i64 (afold l (zs.take k)).1) ∧ wr.cell? ⟨w.heap.size + 1, 1, none⟩ = some (.int .i64 (afold l (zs.take k)).2) ∧ wr.frozen? ⟨w.heap.size + 1, 0, none⟩ = false ∧ wr.frozen? ⟨w.heap.size + 1, 1, none⟩ = false ∧ w.heap.size + 1 < wr.heap.size) (fun i _ => zs.length - (intOf i).toNat)
  case atStart => exact ⟨0, Nat.zero_le _, rfl, hbel, by simpa [afold] using s0, by simpa [afold] using s1, s2, s3, hz1⟩
  case round =>
    clear s0 s1 s2 s3 hbel hz1 hV hA'
    obtain ⟨k, hk, rfl, hbel, s0, s1, s2, s3, hz⟩ := hrel
    by_cases hlt : k < zs.length
    · skip
      obtain ⟨⟨x, y⟩, hz⟩ : ∃ z, zs[k]? = some z := ⟨_, List.getElem?_eq_getElem hlt⟩
      obtain ⟨g1, g2⟩ := sflat_get hz
      have hwr := v0.trans (hbel.mono (show w.heap.size ≤ w.heap.size + 1 from by omega))
      have hAk := hA.below hwr
      obtain ⟨b, off, rfl, hc⟩ := hAk _ _ g1
      obtain ⟨_, _, e2, hc2⟩ := hAk _ _ g2
      injection e2 with e2; injection e2 with e3 e4; subst e3 e4
      rw [← Nat.add_assoc] at hc2
      have hbs := cell_lt hc
      have hk1 : (0 : Int) ≤ (k : Int) := by omega
      have hk2 : (k : Int) < (zs.length : Int) := by omega
      have hstep : afold l (zs.take (k + 1)) = astep l (afold l (zs.take k)) (x, y) := by
        rw [← afold_snoc, List.take_add_one, hz]; rfl
      have HST := Lib.hid hstep
      clear hz g1 g2 hAk hstep
      go_wp2_with fail
      generalize hU : wr.alloc (.cells #[.int .i64 x, .int .i64 y] 37) = U
      have bU : Below wr.heap.size wr U := by subst hU; (repeat (first | exact Below.refl _ _ | assumption | refine below_step ?_ (by assumption) | refine below_alloc ?_ _ | refine below_drewN ?_ _ | refine Below.drew ?_ | refine Below.setCell ?_ (by first | (simp; done) | omega | (simp; omega)) _))
      have zU : wr.heap.size < U.heap.size := by subst hU; simp
      have u0 : U.cell? ⟨wr.heap.size, 0, none⟩ = some (.int .i64 x) := by subst hU; simp
      have u1 : U.cell? ⟨wr.heap.size, 1, none⟩ = some (.int .i64 y) := by subst hU; simp
      have hzU := Nat.lt_trans hz zU
      replace s0 := bel_cell bU hz s0
      replace s1 := bel_cell bU hz s1
      replace s2 := bel_frozen bU hz s2
      replace s3 := bel_frozen bU hz s3
      clear hU hc hc2
      go_region_with (first | (go_at_call 18; refine (impl_WeightTo _ _ _ _).mono ?_; rintro e w5 ⟨rfl, hb5⟩; have hU5 : Below U.heap.size U w5 := (by (repeat (first | exact Below.refl _ _ | assumption | refine below_step ?_ (by assumption) | refine below_alloc ?_ _ | refine below_drewN ?_ _ | refine Below.drew ?_ | refine Below.setCell ?_ (by first | (simp; done) | omega | (simp; omega)) _))); have t0 := bel_cell hU5 hzU s0; have t1 := bel_cell hU5 hzU s1) | (go_at_call 78; refine (impl_AddGold _ _ _ _ _).mono ?_; rintro e w6 ⟨rfl, hb6⟩; have hU6 : Below U.heap.size U w6 := below_step hU5 hb6; have r0 := bel_cell hU6 hzU s0; have r1 := bel_cell hU6 hzU s1; have r2 := bel_frozen hU6 hzU s2; have r3 := bel_frozen hU6 hzU s3))
      all_goals
        have hb6' := hbel.trans ((below_step bU hU6).mono (show w.heap.size + 1 ≤ wr.heap.size from by omega))
        have hb7 := (hb6'.setCell (p := ⟨w.heap.size + 1, 0, none⟩) (Nat.le_refl _) (.int .i64 (astep l (afold l (zs.take k)) (x, y)).1)).setCell (p := ⟨w.heap.size + 1, 1, none⟩) (Nat.le_refl _) (.int .i64 (astep l (afold l (zs.take k)) (x, y)).2)
        have q3 := set2_cells (x := .int .i64 (astep l (afold l (zs.take k)) (x, y)).1) (y := .int .i64 (astep l (afold l (zs.take k)) (x, y)).2) r0 r1
        have q4 := Nat.lt_of_lt_of_le hzU hU6.size
        go_wp2
        go_roundw
        case rel => exact ⟨k + 1, by omega, by go_num, hb7, by rw [HST.out]; exact q3.1, by rw [HST.out]; exact q3.2, by simpa using r2, by simpa using r3, by simpa using q4⟩
        case measure => simp [intOf]; omega
    · obtain rfl : k = zs.length := by omega
      rw [List.take_length] at s0 s1
      have r3 := (hbel.cell (p := ⟨w.heap.size, 0, none⟩) (by simp)).trans v0_0
      have r4 := (hbel.cell (p := ⟨w.heap.size, 1, none⟩) (by simp)).trans v0_1
      have r5 := (hbel.frozen (p := ⟨w.heap.size, 0, none⟩) (by simp)).trans f00
      have r6 := (hbel.frozen (p := ⟨w.heap.size, 1, none⟩) (by simp)).trans f01
      have hw := v0.trans (hbel.mono (show w.heap.size ≤ w.heap.size + 1 from by omega))
      have q3 := set2_cells (x := .int .i64 ((afold l zs).1)) (y := .int .i64 ((afold l zs).2)) r3 r4
      go_wp2
      exact bodyPost_ret (v := .agg #[.int .i64 ((afold l zs).1), .int .i64 ((afold l zs).2)]) (by simp [results, Try.results16, go_sem, q3.1, q3.2]) rfl ⟨rfl, by (repeat (first | exact Below.refl _ _ | assumption | refine below_step ?_ (by assumption) | refine below_alloc ?_ _ | refine below_drewN ?_ _ | refine Below.drew ?_ | refine Below.setCell ?_ (by first | (simp; done) | omega | (simp; omega)) _))⟩
theorem impl_ArmySum (A : Option Addr) (cap : Nat) (zs : List (Int × Int)) (l : Int) (w : World) (hA : FAt w A (sflat zs)) (hn : zs.length ≤ 4294967296) (hcap : zs.length ≤ cap) :
    Calls Try.prog 16 #[.slice A zs.length cap, .int .i64 l] w fun e w' => e = .returned (.agg #[.int .i64 (armySum zs l).1, .int .i64 (armySum zs l).2]) ∧ Below w.heap.size w w' := by
  cases h1 : armyOk zs
  · exact (impl_ArmySum_no1 A cap zs l w hA hn hcap h1).mono fun e w' h => ⟨h.1.trans (by simp [armySum, h1]), h.2⟩
  · cases h2 : inB l 1 5
    · exact (impl_ArmySum_no2 A cap zs l w hA hn hcap h1 h2).mono fun e w' h => ⟨h.1.trans (by simp [armySum, h1, afold_zero h2]), h.2⟩
    · exact (impl_ArmySum_yes A cap zs l w hA hn hcap h1 h2).mono fun e w' h => ⟨h.1.trans (by simp [armySum, h1]), h.2⟩
end Go.Proofs.Ytianfakgojmnpaa

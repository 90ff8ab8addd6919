/- Pairs of holes: contracts. -/
import Derived.Test.YtianfakgojmnpaaPairsM
import Derived.Test.YtianfakgojmnpaaDraw
import Derived.Test.YtianfakgojmnpaaPegs
import Derived.Deep.DeepCutAuto
import Derived.Test.YtianfakgojmnpaaSeenR
namespace Go.Proofs.Ytianfakgojmnpaa
open Go.RowKit
attribute [local go_sem ↓] Go.wp_at_zero Go.wp_at_succ

def Cells3x (w : World) (r : Nat) (a b c : Int) : Prop := r < w.heap.size ∧ w.cell? ⟨r, 0, none⟩ = some (.int .i64 a) ∧ w.cell? ⟨r, 1, none⟩ = some (.int .i64 b) ∧ w.cell? ⟨r, 2, none⟩ = some (.int .i64 c)
theorem Cells3x.below {w w' : World} {r : Nat} {a b c : Int} (h : Cells3x w r a b c) (hb : Below w.heap.size w w') : Cells3x w' r a b c := ⟨Nat.lt_of_lt_of_le h.1 hb.size, bel_cell hb h.1 h.2.1, bel_cell hb h.1 h.2.2.1, bel_cell hb h.1 h.2.2.2⟩
theorem Cells3x.grown {w w' : World} {r : Nat} {a b c : Int} {row : Option Nat} (h : Cells3x w r a b c) (hg : w.grownBy w' row) (hne : some r ≠ row) : Cells3x w' r a b c :=
  ⟨Nat.lt_of_lt_of_le h.1 hg.size, (World.cell?_of_block (hg.block r h.1 hne)).trans h.2.1, (World.cell?_of_block (hg.block r h.1 hne)).trans h.2.2.1, (World.cell?_of_block (hg.block r h.1 hne)).trans h.2.2.2⟩
theorem new3x {w : World} {a b c : Int} {ty : TypeId} : Cells3x (w.alloc (.cells #[.int .i64 a, .int .i64 b, .int .i64 c] ty)) w.heap.size a b c := ⟨by simp, by simp, by simp, by simp⟩
theorem OwnSS.cell {w : World} {lo n cap : Nat} {A : Option Addr} {gs : List Nat} {ps : List (Int × Int)} (h : OwnSS w lo (.slice A n cap) gs ps) {i : Nat} {a b : Int} (hp : ps[i]? = some (a, b)) :
    ∃ k g, A = some ⟨k, 0, none⟩ ∧ gs[i]? = some g ∧ w.cell? ⟨k, i, none⟩ = some (slv g) ∧ w.ownsRow lo 3 1 (slv g) 2 (ints [a, b]) := by
  obtain ⟨g, hg, hr⟩ := h.at hp
  have hi := (List.getElem?_eq_some_iff.1 hp).1
  rcases h.row.2 with ⟨_, e⟩ | ⟨k, c, cur, e, hlo, hk, _⟩
  · omega
  · injection e with e1 e2 e3
    subst e1
    have hrow := h.row
    rw [show (Value.slice (some ⟨k, 0, none⟩) n cap) = .slice (some ⟨k, 0, none⟩) ps.length cap by rw [e2]] at hrow
    exact ⟨k, g, rfl, hg, (hrow.cellAt i (by omega)).trans (by rw [List.getElem?_map, hg]; rfl), hr⟩
theorem mks_of {n : Nat} {qs : List (Int × Int)} (hl : qs.length = n) (h : ∀ j, j < n → qs[j]? = some (1 + 2 * (j : Int), 2 + 2 * (j : Int))) : qs = mks n := by
  apply List.ext_getElem?
  intro j
  by_cases hj : j < n
  · rw [h j hj, mks_get hj]
  · rw [List.getElem?_eq_none (by omega), List.getElem?_eq_none (by rw [mks_len]; omega)]
set_option maxHeartbeats 2000000 in
theorem laws_markIntSS (A : Option Addr) (lo cap n : Nat) (gs : List Nat) (ps : List (Int × Int)) (w : World) (h : OwnSS w lo (.slice A n cap) gs ps) (hpl : ps.length = n) (hn : n ≤ 100000) (hlo : lo ≤ w.heap.size) :
    Calls Try.prog 27 #[.slice A n cap, .int .i64 1] w fun e w' => e = .returned (.int .i64 (1 + 2 * (n : Int))) ∧ OwnSS w' lo (.slice A n cap) gs (mks n) ∧ Below lo w w' := by
  go_enter Try.func27, Try.ntmps27
  go_wp2
  go_loopw [1, 5] (fun q i wr => ∃ (k : Nat) (qs : List (Int × Int)), k ≤ n ∧ i = .int .i64 k ∧ q = .int .i64 (1 + 2 * (k : Int)) ∧ OwnSS wr lo (.slice A n cap) gs qs ∧ qs.length = n ∧ (∀ j, j < k → qs[j]? = some (1 + 2 * (j : Int), 2 + 2 * (j : Int))) ∧ Below lo w wr ∧ lo ≤ wr.heap.size) (fun _ i _ => n - (intOf i).toNat)
  case atStart => exact ⟨0, ps, Nat.zero_le _, rfl, by simp, h, hpl, by intro j hj; omega, Below.refl _ _, hlo⟩
  case round =>
    obtain ⟨k, qs, hk, rfl, rfl, hO, hql, hq, hbr, hls⟩ := hrel
    by_cases hlt : k < n
    · obtain ⟨⟨x, y⟩, hp⟩ : ∃ p, qs[k]? = some p := ⟨_, List.getElem?_eq_getElem (by omega)⟩
      obtain ⟨b, g, rfl, hg, hc, hr⟩ := hO.cell hp
      have hgl := (hr.lt g rfl).1
      have hcm := laws_markIntS (some ⟨g, 0, none⟩) lo 2 [x, y] (1 + 2 * (k : Int)) wr hr (by simp) (by omega) (by omega)
      have HP := Lib.hid hp
      have HG := Lib.hid hg
      have HQ := Lib.hid hq
      unfold slv at hc
      clear hp hg hq
      go_wp2_with fail
      refine hcm.mono ?_
      rintro e w2 ⟨rfl, ho2, hg2⟩
      have hO2 := hO.set (a := 1 + 2 * (k : Int)) (b := 2 + 2 * (k : Int)) HG.out HP.out (by
        have := ho2
        rw [show [x, y].length = 2 from rfl, marks_two, show 1 + 2 * (k : Int) + 1 = 2 + 2 * (k : Int) by omega] at this
        exact this) hg2
      have hb2 := below_gr hbr hls hg2 hgl
      have hls2 := Nat.le_trans hls hg2.size
      go_wp2
      go_roundw
      case rel => exact ⟨k + 1, qs.set k (1 + 2 * (k : Int), 2 + 2 * (k : Int)), by omega, by go_num, by first | go_num | (simp; omega), hO2, by simp [hql], by
        intro j hj
        by_cases e : j = k
        · subst e; rw [List.getElem?_set_self (by omega)]
        · rw [List.getElem?_set_ne (fun e2 => e e2.symm)]; exact HQ.out j (by omega), hb2, hls2⟩
      case measure => simp [intOf]; omega
    · obtain rfl : k = n := by omega
      have hm := mks_of hql hq
      subst hm
      go_wp2
      go_ret
      exact ⟨rfl, hO, hbr⟩
def pairsAt (W H X : Int) (h : Nat) : List (Int × Int) := (finals W H X (X - 2 ^ h)).map fun (m : Nat) => ((h : Int), (m : Int))
def pairsTo (W H X : Int) (k : Nat) : List (Int × Int) := ((holes W H X).take k).flatMap (pairsAt W H X)
def pairsOf (W H X : Int) : List (Int × Int) := if isSmall W H X = true ∧ (holes W H X).length ≤ 12 then (holes W H X).flatMap (pairsAt W H X) else []
theorem pairsAt_len (W H X : Int) (h : Nat) : (pairsAt W H X h).length = (finals W H X (X - 2 ^ h)).length := by simp [pairsAt]
theorem pairsTo_succ {W H X : Int} {k h : Nat} (hh : (holes W H X)[k]? = some h) : pairsTo W H X (k + 1) = pairsTo W H X k ++ pairsAt W H X h := by
  unfold pairsTo; rw [List.take_add_one, hh]; simp
theorem pairsAt_succ {W H X : Int} {h m f : Nat} (hf : (finals W H X (X - 2 ^ h))[m]? = some f) : (pairsAt W H X h).take (m + 1) = (pairsAt W H X h).take m ++ [((h : Int), (f : Int))] := by
  unfold pairsAt
  rw [List.take_add_one, List.getElem?_map, hf]; simp
theorem flat_len (W H X : Int) : ∀ l : List Nat, (l.flatMap (pairsAt W H X)).length ≤ 49 * l.length := by
  intro l
  induction l with
  | nil => simp
  | cons a l ih =>
    rw [List.flatMap_cons, List.length_append, List.length_cons, pairsAt_len]
    have := finals_len W H X (X - 2 ^ a)
    omega
theorem pairsTo_len (W H X : Int) (k : Nat) : (pairsTo W H X k).length ≤ 2401 := by
  have h1 := flat_len W H X ((holes W H X).take k)
  have h2 := holes_small W H X
  have h3 : ((holes W H X).take k).length ≤ (holes W H X).length := List.length_take_le' _ _
  unfold pairsTo; omega
theorem pairsOf_len (W H X : Int) : (pairsOf W H X).length ≤ 2401 := by
  unfold pairsOf; split
  · have h1 := flat_len W H X (holes W H X)
    have h2 := holes_small W H X
    omega
  · simp
def RetSS (w : World) (ps : List (Int × Int)) (e : Ending) (w' : World) : Prop :=
  ∃ A cap gs, e = .returned (.slice A ps.length cap) ∧ OwnSS w' w.heap.size (.slice A ps.length cap) gs ps ∧ Below w.heap.size w w'
set_option maxHeartbeats 1000000 in
theorem impl_CountHoles (W H X : Int) (w : World) (h1 : isSmall W H X = true) :
    Calls Try.prog 82 #[.agg #[.int .i64 W, .int .i64 H, .int .i64 X]] w fun e w' => e = .returned (.int .i64 ((holes W H X).length : Nat)) ∧ Below w.heap.size w w' := by
  obtain ⟨hb, n1, n2⟩ := small_cells h1
  have F := boardOk_facts hb
  have x1 := F.x1
  have hlt := board_lt hb
  obtain ⟨n, rfl⟩ : ∃ n : Nat, X = (n : Int) := ⟨X.toNat, by omega⟩
  rw [Int.toNat_natCast] at hlt
  have hn : n < 65536 := by omega
  have hu := u64_wrap (k := n) (by omega)
  have hbits := holes_spec hb
  rw [Int.toNat_natCast] at hbits
  have hO := ones n
  rw [hbits] at hO
  clear hbits F
  go_enter Try.func82, Try.ntmps82
  go_wp2_with fail
  refine (calls_is (impl_BoardOk _ _ _ _) hb).mono ?_
  rintro e w1 ⟨rfl, hb1⟩
  obtain ⟨hc1, hf1, hs1⟩ := bcell3 hb1
  have hz1 := hb1.size
  (try simp at hz1)
  go_wp2_with fail
  refine (hO _ hn).mono ?_
  rintro e _ ⟨rfl, rfl⟩
  go_wp2
  go_ret
  exact ⟨rfl, by (repeat (first | exact Below.refl _ _ | assumption | refine below_step ?_ (by assumption) | refine below_alloc ?_ _ | refine below_drewN ?_ _ | refine Below.drew ?_ | refine Below.setCell ?_ (by first | (simp; done) | omega | (simp; omega)) _))⟩
set_option maxHeartbeats 4000000 in
theorem impl_PairsOf (W H X : Int) (w : World) :
    Calls Try.prog 25 #[.agg #[.int .i64 W, .int .i64 H, .int .i64 X]] w (RetSS w (pairsOf W H X)) := by
  have hHL := holes_small W H X
  cases h1 : isSmall W H X
  · have e : pairsOf W H X = [] := by unfold pairsOf; rw [h1]; simp
    rw [e]; clear e
    go_enter Try.func25, Try.ntmps25
    go_wp2_with fail
    refine (calls_is (impl_IsSmall _ _ _ _) h1).mono ?_
    rintro e w1 ⟨rfl, hb1⟩
    go_wp2
    go_ret
    exact ⟨none, 0, [], rfl, OwnSS.nil ⟨rfl, .inl ⟨rfl, rfl⟩⟩, by (repeat (first | exact Below.refl _ _ | assumption | refine below_step ?_ (by assumption) | refine below_alloc ?_ _ | refine below_drewN ?_ _ | refine Below.drew ?_ | refine Below.setCell ?_ (by first | (simp; done) | omega | (simp; omega)) _))⟩
  by_cases h12 : 12 < (holes W H X).length
  · have e : pairsOf W H X = [] := by unfold pairsOf; rw [h1, if_neg (by omega)]
    rw [e]; clear e
    have h12i : (12 : Int) < ((holes W H X).length : Int) := by omega
    go_enter Try.func25, Try.ntmps25
    go_wp2_with fail
    refine (calls_is (impl_IsSmall _ _ _ _) h1).mono ?_
    rintro e w1 ⟨rfl, hb1⟩
    obtain ⟨hc1, hf1, hs1⟩ := bcell3 hb1
    go_wp2_with fail
    refine (impl_CountHoles _ _ _ _ h1).mono ?_
    rintro e w2 ⟨rfl, hb2⟩
    go_wp2
    go_ret
    exact ⟨none, 0, [], rfl, OwnSS.nil ⟨rfl, .inl ⟨rfl, rfl⟩⟩, by (repeat (first | exact Below.refl _ _ | assumption | refine below_step ?_ (by assumption) | refine below_alloc ?_ _ | refine below_drewN ?_ _ | refine Below.drew ?_ | refine Below.setCell ?_ (by first | (simp; done) | omega | (simp; omega)) _))⟩
  have e : pairsOf W H X = (holes W H X).flatMap (pairsAt W H X) := by unfold pairsOf; rw [if_pos ⟨h1, by omega⟩]
  rw [e]; clear e
  have h12i : ¬ (12 : Int) < ((holes W H X).length : Int) := by omega
  have hcl := small_cells h1
  have F := boardOk_facts hcl.1
  have x1 := F.x1
  have x3 := F.x3
  go_enter Try.func25, Try.ntmps25
  go_wp2_with fail
  generalize hV : w.alloc (.cells #[.int .i64 W, .int .i64 H, .int .i64 X] 44) = V
  have v0 : Below w.heap.size w V := by subst hV; (repeat (first | exact Below.refl _ _ | assumption | refine below_step ?_ (by assumption) | refine below_alloc ?_ _ | refine below_drewN ?_ _ | refine Below.drew ?_ | refine Below.setCell ?_ (by first | (simp; done) | omega | (simp; omega)) _))
  have Bd : Cells3x V w.heap.size W H X := by subst hV; exact new3x
  clear hV
  refine (calls_is (impl_IsSmall _ _ _ _) h1).mono ?_
  rintro e w1 ⟨rfl, hb1⟩
  replace v0 := below_step v0 hb1
  replace Bd := Bd.below hb1
  clear hb1
  obtain ⟨hbs, b0, b1, b2⟩ := id Bd
  go_wp2_with fail
  refine (impl_CountHoles _ _ _ _ h1).mono ?_
  rintro e w2 ⟨rfl, hb2⟩
  replace v0 := below_step v0 hb2
  replace Bd := Bd.below hb2
  clear hb2 b0 b1 b2 hbs
  have hO := OwnSS.nil (made0s (V := w2) (s := 1) 56 rfl)
  have Bd' := Bd.below (below_one w2 (.cells #[] 56))
  have v1 := below_alloc v0 (.cells #[] 56)
  have hW2 : w.heap.size ≤ w2.heap.size := v0.size
  have hbs2 := Bd.1
  clear Bd v0
  go_upto_region 4 with fail
  have hbel : Below w2.heap.size w2 (w2.alloc (.cells #[] 56)) := below_one _ _
  generalize w2.alloc (.cells #[] 56) = Y at *
  obtain ⟨hbs, b0, b1, b2⟩ := id Bd'
  go_wp2_with fail
  refine (impl_HolesOf _ _ _ _).mono ?_
  rintro e w3 ⟨A, cA, rfl, hH, hb3⟩
  replace hO := hO.below hb3
  replace Bd' := Bd'.below hb3
  replace v1 := below_step v1 hb3
  replace hbel := below_step hbel hb3
  have hH0 := own_lower (lo' := 0) hH (Nat.zero_le _)
  clear hH hb3 b0 b1 b2 hbs
  obtain ⟨N, hN⟩ : ∃ N, (holes W H X).length = N := ⟨_, rfl⟩
  have HN := Lib.hid hN
  rw [hN] at hH0 hHL ⊢
  clear hN h12 h12i
  go_wp2_with fail
  go_loopw [3, 20] (fun v i wr => ∃ (k : Nat) (gs : List Nat), k ≤ N ∧ i = .int .i64 k ∧ OwnSS wr w2.heap.size v gs (pairsTo W H X k) ∧ wr.ownsRow 0 3 1 (.slice A N cA) N (ints (toInts (holes W H X))) ∧ Below w.heap.size w wr ∧ Cells3x wr w.heap.size W H X ∧ w2.heap.size ≤ wr.heap.size) (fun _ i _ => N - (intOf i).toNat)
  case atStart => exact ⟨0, [], Nat.zero_le _, rfl, by simpa [pairsTo] using hO, hH0, v1, Bd', hbel.size⟩
  case round =>
    clear hO hH0 v1 Bd' hbel
    obtain ⟨k, gs, hk, rfl, hO, hH, hbel, Bd, hsz⟩ := hrel
    obtain ⟨A2, c2, rfl⟩ := own_shape hO.row
    by_cases hlt : k < N
    · obtain ⟨h, hh⟩ : ∃ h, (holes W H X)[k]? = some h := ⟨_, List.getElem?_eq_getElem (by rw [HN.out]; exact hlt)⟩
      obtain ⟨y1, y5, y6, y7⟩ := hole_small (List.mem_of_getElem? hh)
      have hple := (full_val (by omega) x3 y6 y7).2
      have hpp : (0 : Int) < 2 ^ h := Int.pow_pos (by decide)
      have hpm : X - 2 ^ h ≤ 9223372036854775807 := by omega
      obtain ⟨b, off, rfl, hc⟩ := FAt_of_own hH k (h : Int) (toInts_at hh)
      have hbl := World.block_lt_of_cell? wr _ hc
      obtain ⟨hbs, b0, b1, b2⟩ := id Bd
      have hBR := Below.refl wr.heap.size wr
      have K : Hid (∀ w', Below wr.heap.size wr w' → Below wr.heap.size wr w' ∧ w'.cell? ⟨w.heap.size, 0, none⟩ = some (.int .i64 W) ∧ w'.cell? ⟨w.heap.size, 1, none⟩ = some (.int .i64 H) ∧ w'.cell? ⟨w.heap.size, 2, none⟩ = some (.int .i64 X) ∧ w'.cell? ⟨b, off + k, none⟩ = some (.int .i64 (h : Int))) := fun w' hB => ⟨hB, bel_cell hB hbs b0, bel_cell hB hbs b1, bel_cell hB hbs b2, bel_cell hB hbl hc⟩
      have hki : (k : Int) < (N : Int) := by omega
      have HH := Lib.hid hh
      obtain ⟨M, hM⟩ : ∃ M, (finals W H X (X - 2 ^ h)).length = M := ⟨_, rfl⟩
      have hfl := finals_len W H X (X - 2 ^ h)
      have hFc := impl_FinalsOf W H X (X - 2 ^ h)
      rw [hM] at hFc hfl
      have HM := Lib.hid hM
      clear hh hM
      go_upto_region 7 with fail
      clear b0 b1 b2 hc
      refine wp_region_held_drew (S := (fun w' => Below wr.heap.size wr w' ∧ w'.cell? ⟨w.heap.size, 0, none⟩ = some (.int .i64 W) ∧ w'.cell? ⟨w.heap.size, 1, none⟩ = some (.int .i64 H) ∧ w'.cell? ⟨w.heap.size, 2, none⟩ = some (.int .i64 X) ∧ w'.cell? ⟨b, off + k, none⟩ = some (.int .i64 (h : Int)))) (by kernel_rfl) ?_ (fun hHd0 => ?_)
      · (refine K.out _ ?_; (repeat (first | exact Below.refl _ _ | assumption | refine below_step ?_ (by assumption) | refine below_alloc ?_ _ | refine below_drewN ?_ _ | refine Below.drew ?_ | refine Below.setCell ?_ (by first | (simp; done) | omega | (simp; omega)) _)))
      refine heldT (i := 0) rfl (by kernel_rfl) (by kernel_rfl) (by kernel_rfl) (fun _ _ _ h => h) (by rfl) (v := ?_) ?_ (by assumption) ?_
      rotate_left
      · (intro w hSw; (try dsimp only at hSw); go_simp; try (with_reducible rfl))
      (try simp only [Act.put, List.setIfInBounds_toArray, List.set_cons_zero, List.set_cons_succ])
      refine heldT (i := 1) rfl (by kernel_rfl) (by kernel_rfl) (by kernel_rfl) (fun _ _ _ h => h) (by rfl) (v := ?_) ?_ (by assumption) ?_
      rotate_left
      · (intro w hSw; (try dsimp only at hSw); go_simp; try (with_reducible rfl))
      (try simp only [Act.put, List.setIfInBounds_toArray, List.set_cons_zero, List.set_cons_succ])
      refine heldT (i := 2) rfl (by kernel_rfl) (by kernel_rfl) (by kernel_rfl) (fun _ _ _ h => h) (by rfl) (v := ?_) ?_ (by assumption) ?_
      rotate_left
      · (intro w hSw; (try dsimp only at hSw); go_simp; try (with_reducible rfl))
      (try simp only [Act.put, List.setIfInBounds_toArray, List.set_cons_zero, List.set_cons_succ])
      refine heldT (i := 6) rfl (by kernel_rfl) (by kernel_rfl) (by kernel_rfl) (fun _ _ _ h => h) (by rfl) (v := ?_) ?_ (by assumption) ?_
      rotate_left
      · (intro w hSw; (try dsimp only at hSw); go_simp; try (with_reducible rfl))
      (try simp only [Act.put, List.setIfInBounds_toArray, List.set_cons_zero, List.set_cons_succ])
      refine heldC (i := 3) rfl (by kernel_rfl) (fun K' hK => ?_)
      go_simp
      refine (impl_FullBut W H X h _ y1 y6).mono ?_; rintro e w4 ⟨rfl, hb4⟩
      (try (go_wp2_with fail))
      refine hK.out _ _ ?_ (fun hHd1 => ?_)
      · ((try dsimp only); (refine K.out _ ?_; (repeat (first | exact Below.refl _ _ | assumption | refine below_step ?_ (by assumption) | refine below_alloc ?_ _ | refine below_drewN ?_ _ | refine Below.drew ?_ | refine Below.setCell ?_ (by first | (simp; done) | omega | (simp; omega)) _))))
      clear hK K' hHd0
      (try simp only [Act.put, List.setIfInBounds_toArray, List.set_cons_zero, List.set_cons_succ])
      refine heldC (i := 4) rfl (by kernel_rfl) (fun K' hK => ?_)
      go_simp
      refine (hFc _ hpm).mono ?_; rintro e w5 ⟨FA, fc, rfl, oF, hb5⟩
      (try (go_wp2_with fail))
      refine hK.out _ _ ?_ (fun hHd2 => ?_)
      · ((try dsimp only); (refine K.out _ ?_; (repeat (first | exact Below.refl _ _ | assumption | refine below_step ?_ (by assumption) | refine below_alloc ?_ _ | refine below_drewN ?_ _ | refine Below.drew ?_ | refine Below.setCell ?_ (by first | (simp; done) | omega | (simp; omega)) _))))
      clear hK K' hHd1
      (try simp only [Act.put, List.setIfInBounds_toArray, List.set_cons_zero, List.set_cons_succ])
      refine heldT (i := 5) rfl (by kernel_rfl) (by kernel_rfl) (by kernel_rfl) (fun _ _ _ h => h) (by rfl) (v := ?_) ?_ (by assumption) ?_
      rotate_left
      · (intro w hSw; (try dsimp only at hSw); go_simp; try (with_reducible rfl))
      (try simp only [Act.put, List.setIfInBounds_toArray, List.set_cons_zero, List.set_cons_succ])
      refine wpAnyH_done (by kernel_rfl) ?_ _
      have h5 : Below wr.heap.size wr w5 := by (repeat (first | exact Below.refl _ _ | assumption | refine below_step ?_ (by assumption) | refine below_alloc ?_ _ | refine below_drewN ?_ _ | refine Below.drew ?_ | refine Below.setCell ?_ (by first | (simp; done) | omega | (simp; omega)) _))
      have hF0 := own_lower (lo' := 0) oF (Nat.zero_le _)
      have hO5 := hO.below h5
      have hH5 := own_below hH h5
      have hbel5 := below_step hbel h5
      have Bd5 := Bd.below h5
      have hsz5 := Nat.le_trans hsz h5.size
      clear hO hH hbel Bd hsz K h5 oF
      go_wp2
      go_loopw [3, 30] (fun v j wq => ∃ (m : Nat) (gs : List Nat), m ≤ M ∧ j = .int .i64 m ∧ OwnSS wq w2.heap.size v gs (pairsTo W H X k ++ (pairsAt W H X h).take m) ∧ wq.ownsRow 0 3 1 (.slice (some ⟨b, off, none⟩) N cA) N (ints (toInts (holes W H X))) ∧ wq.ownsRow 0 3 1 (.slice FA M fc) M (ints (toInts (finals W H X (X - 2 ^ h)))) ∧ Below w.heap.size w wq ∧ Cells3x wq w.heap.size W H X ∧ w2.heap.size ≤ wq.heap.size) (fun _ j _ => M - (intOf j).toNat)
      case atStart => exact ⟨0, gs, Nat.zero_le _, rfl, by simpa using hO5, hH5, hF0, hbel5, Bd5, hsz5⟩
      case round =>
        clear hO5 hH5 hF0 hbel5 Bd5 hsz5
        rename World => wq
        obtain ⟨m, gs, hm, rfl, hO, hH, hF, hbel, Bd, hsz⟩ := hrel
        obtain ⟨A3, c3, rfl⟩ := own_shape hO.row
        by_cases hml : m < M
        · obtain ⟨f, hf⟩ : ∃ f, (finals W H X (X - 2 ^ h))[m]? = some f := ⟨_, List.getElem?_eq_getElem (by rw [HM.out]; exact hml)⟩
          obtain ⟨bf, of, rfl, hcf⟩ := FAt_of_own hF m (f : Int) (toInts_at hf)
          have hmi : (m : Int) < (M : Int) := by omega
          have HS := Lib.hid (pairsAt_succ hf)
          have hpl : (pairsTo W H X k ++ (pairsAt W H X h).take m).length ≤ 4294967296 := by
            have h1 := pairsTo_len W H X k
            have h2 : ((pairsAt W H X h).take m).length ≤ m := List.length_take_le _ _
            rw [List.length_append]; omega
          clear hf
          go_wp2_with (at_builtin; refine append_ss Try.underlying49 w2.heap.size (wq.alloc (.cells #[.int .i64 (h : Int), .int .i64 (f : Int)] 3)) rfl _ _ rfl _ _ (gs.map slv) (slv wq.heap.size) rfl (by rfl) (hO.row.alloc _) (by first | rfl | (simp; done) | (simp; rfl)) hpl (by simp; omega) ?_; intro v' w' hown' hg')
          have hO' := hO.push hsz (h : Int) (f : Int) hown' hg'
          have kH := (hH.alloc (.cells #[.int .i64 (h : Int), .int .i64 (f : Int)] 3)).alloc (.cells #[slv wq.heap.size] 56)
          have kF := (hF.alloc (.cells #[.int .i64 (h : Int), .int .i64 (f : Int)] 3)).alloc (.cells #[slv wq.heap.size] 56)
          have hH' := kH.kept hg' (own_types hH hO.row (by decide))
          have hF' := kF.kept hg' (own_types hF hO.row (by decide))
          have hb2 : Below w.heap.size w ((wq.alloc (.cells #[.int .i64 (h : Int), .int .i64 (f : Int)] 3)).alloc (.cells #[slv wq.heap.size] 56)) := below_alloc (below_alloc hbel _) _
          have hbel' : Below w.heap.size w w' := hb2.grown hg' hb2.size (fun i hi => Nat.le_trans hW2 (hO.row.lt i hi).1)
          have Bd2 : Cells3x ((wq.alloc (.cells #[.int .i64 (h : Int), .int .i64 (f : Int)] 3)).alloc (.cells #[slv wq.heap.size] 56)) w.heap.size W H X := (Bd.below (below_one _ _)).below (below_one _ _)
          have Bd' := Bd2.grown hg' (fun e => by have := (hO.row.lt _ e.symm).1; omega)
          have hsz' : w2.heap.size ≤ w'.heap.size := by have := hg'.size; simp at this; omega
          clear hO hH hF hbel Bd hsz kH kF hb2 Bd2 hown' hg'
          go_roundw
          case rel => exact ⟨m + 1, gs ++ [wq.heap.size], by omega, by go_num, by rw [HS.out, ← List.append_assoc]; exact hO', hH', hF', hbel', Bd', hsz'⟩
          case measure => simp [intOf]; omega
        · obtain rfl : m = M := by omega
          have hfin : pairsTo W H X k ++ (pairsAt W H X h).take m = pairsTo W H X (k + 1) := by
            rw [pairsTo_succ HH.out, List.take_of_length_le (by rw [pairsAt_len, HM.out]; exact Nat.le_refl _)]
          rw [hfin] at hO ⊢
          clear hfin
          go_wp2
          go_roundw
          case rel => exact ⟨k + 1, gs, by omega, by go_num, hO, hH, hbel, Bd, hsz⟩
          case measure => simp [intOf]; omega
    · obtain rfl : k = N := by omega
      have hall : pairsTo W H X k = (holes W H X).flatMap (pairsAt W H X) := by unfold pairsTo; rw [← HN.out, List.take_length]
      have HA := Lib.hid hall
      clear hall
      go_wp2
      go_ret
      exact ⟨A2, c2, gs, by rw [← HA.out]; rfl, by rw [← HA.out]; exact hO.lower hW2, hbel⟩
theorem size_alloc (w : World) (o : Obj) : (w.alloc o).heap.size = w.heap.size + 1 := by simp
theorem append_ssw {o : Oper} {a : Act} {K : Act → World → Prop} {Q : Exit → Act → World → Prop} {T : TypeId} (hT : Try.prog.underlying T = some (.slice 56)) (lo : Nat) (w : World) (s x : Operand)
    (ho : o.op = .call { callee := .builtin .append, args := #[s, x], argTypes := #[T, T] }) (v : Value) (n : Nat) (cs : List Value) (u : Value) (hu : u.oneCell' = true) (hs : a.eval s = v)
    (hown : w.ownsRow lo 56 1 v n cs) (hx : a.eval x = .slice (some ⟨w.heap.size, 0, none⟩) 1 1) (hn : n ≤ 4294967296) (hlo : lo ≤ w.heap.size)
    (h : ∀ v' w', w'.ownsRow lo 56 1 v' (n + 1) (cs ++ [u]) → (w.alloc (.cells #[u] 56)).grownBy w' v.ownBlock → K (a.put o.dst v') w') :
    o.wp Try.prog a (w.alloc (.cells #[u] 56)) K Q := by
  obtain ⟨i0, hi, hz0, hz1, hz2⟩ := info_parts sl_info
  refine wp_append_own _ s x T ho lo 56 i0 (.slice none 0 0) 1 24 hT hi hz0 hz1 hz2 rfl (by decide) v n cs hs (hown.alloc _) ⟨w.heap.size, 0, none⟩ 1 1 [u] hx rfl ?_ ?_ ?_ ?_ ?_ ?_
  · intro j u' hj
    match j, hj with
    | 0, hj => simp at hj; subst hj; simp [Addr.add]
  · intro u' hu'; simp at hu'; subst hu'; exact hu
  · simp only [maxLen]; omega
  · omega
  · simp; omega
  · intro v' w' hown' hgrow _
    exact h v' w' hown' hgrow
theorem but_ok {W H X : Int} {h : Nat} (hh : h ∈ holes W H X) : positionOk W H X (X - 2 ^ h) = true := by
  obtain ⟨h1, _, hb⟩ := holes_hole hh
  obtain ⟨_, _, h3⟩ := hole_bit h1
  rw [Int.toNat_natCast] at h3
  have F := boardOk_facts hb
  have x1 := F.x1
  have hsub := pow_sub h3
  have hle : 2 ^ h ≤ X.toNat := by rw [← hsub]; exact Nat.and_le_right
  have e : (X - 2 ^ h).toNat = X.toNat ^^^ 2 ^ h := by
    rw [← sub_eq_xor hsub]
    have : ((2 : Int) ^ h) = ((2 ^ h : Nat) : Int) := by simp
    omega
  refine positionOk_mk hb ?_ ?_
  · have : ((2 : Int) ^ h) = ((2 ^ h : Nat) : Int) := by simp
    omega
  · rw [e]
    apply Nat.eq_of_testBit_eq; intro i
    simp only [Nat.testBit_and, Nat.testBit_xor, Nat.testBit_two_pow]
    by_cases e2 : h = i
    · subst e2; simp [h3]
    · simp [e2]
def partOf (W H X : Int) (h m : Nat) : List (Int × Int) := (pick (holes W H X) (fun k => seenHas (seenB W H X false (X - 2 ^ h)) (2 ^ k)) m).map fun (f : Nat) => ((h : Int), (f : Int))
theorem part_all2 (W H X : Int) (h : Nat) : partOf W H X h (holes W H X).length = pairsAt W H X h := by
  unfold partOf pairsAt finals; rw [pick_all]
set_option maxHeartbeats 4000000 in
theorem spec_PairsOf (W H X : Int) (w : World) :
    Calls Try.prog 24 #[.agg #[.int .i64 W, .int .i64 H, .int .i64 X]] w (RetSS w (pairsOf W H X)) := by
  have hHL := holes_small W H X
  by_cases hcond : isSmall W H X = true ∧ (holes W H X).length ≤ 12
  rotate_left
  · have e : pairsOf W H X = [] := by unfold pairsOf; rw [if_neg hcond]
    rw [e]; clear e
    obtain ⟨N, hN⟩ : ∃ N, (holes W H X).length = N := ⟨_, rfl⟩
    have hHo := spec_HolesOf W H X
    rw [hN] at hcond hHo
    clear hN hHL
    go_enter Try.func24, Try.ntmps24
    go_wp2_with fail
    generalize hV : w.alloc (.cells #[.int .i64 W, .int .i64 H, .int .i64 X] 44) = V
    have v0 : Below w.heap.size w V := by subst hV; (repeat (first | exact Below.refl _ _ | assumption | refine below_step ?_ (by assumption) | refine below_alloc ?_ _ | refine below_drewN ?_ _ | refine Below.drew ?_ | refine Below.setCell ?_ (by first | (simp; done) | omega | (simp; omega)) _))
    have Bd : Cells3x V w.heap.size W H X := by subst hV; exact new3x
    have hVs : V.heap.size = w.heap.size + 1 := by subst hV; simp
    clear hV
    have hO := OwnSS.nil (made0s (V := V) (s := 1) 56 rfl)
    have Bd' := Bd.below (below_one V (.cells #[] 56))
    have v1 := below_alloc v0 (.cells #[] 56)
    have hW2 : w.heap.size ≤ V.heap.size := v0.size
    rw [hVs] at hO
    clear Bd v0
    generalize V.alloc (.cells #[] 56) = Y at *
    refine (hHo _).mono ?_
    rintro e w3 ⟨A, cA, rfl, hH, hb3⟩
    replace hO := hO.below hb3
    replace Bd' := Bd'.below hb3
    replace v1 := below_step v1 hb3
    clear hH hb3 hHo
    go_wp2
    go_loopw [3, 5] (fun v i wr => v = .slice (some ⟨w.heap.size + 1, 0, none⟩) 0 0 ∧ i = .int .i64 0 ∧ wr = w3) (fun _ _ _ => 0)
    case atStart => exact ⟨rfl, rfl, rfl⟩
    case round =>
      obtain ⟨rfl, rfl, rfl⟩ := hrel
      obtain ⟨hbs, b0, b1, b2⟩ := id Bd'
      have hO' := hO.lower (lo' := w.heap.size) (by omega)
      by_cases hN0 : 0 < N
      · have hN0i : (0 : Int) < (N : Int) := by omega
        cases h1 : isSmall W H X
        · go_wp2_with fail
          refine (calls_is (spec_IsSmall _ _ _ _) h1).mono ?_
          rintro e w4 ⟨rfl, hb4⟩
          go_wp2
          go_ret
          exact ⟨_, _, [], rfl, hO'.below hb4, below_step v1 hb4⟩
        · have hN12 : ¬ (N : Int) ≤ 12 := by intro h; exact hcond ⟨h1, by omega⟩
          go_wp2_with fail
          refine (calls_is (spec_IsSmall _ _ _ _) h1).mono ?_
          rintro e w4 ⟨rfl, hb4⟩
          go_wp2
          go_ret
          exact ⟨_, _, [], rfl, hO'.below hb4, below_step v1 hb4⟩
      · obtain rfl : N = 0 := by omega
        go_wp2
        go_ret
        exact ⟨_, _, [], rfl, hO', v1⟩
  have h1 := hcond.1
  have h12 := hcond.2
  have e : pairsOf W H X = (holes W H X).flatMap (pairsAt W H X) := by unfold pairsOf; rw [if_pos hcond]
  rw [e]; clear e hcond
  have hcl := small_cells h1
  have F := boardOk_facts hcl.1
  have x1 := F.x1
  have x3 := F.x3
  have hbl2 := board_lt hcl.1
  go_enter Try.func24, Try.ntmps24
  go_wp2_with fail
  generalize hV : w.alloc (.cells #[.int .i64 W, .int .i64 H, .int .i64 X] 44) = V
  have v0 : Below w.heap.size w V := by subst hV; (repeat (first | exact Below.refl _ _ | assumption | refine below_step ?_ (by assumption) | refine below_alloc ?_ _ | refine below_drewN ?_ _ | refine Below.drew ?_ | refine Below.setCell ?_ (by first | (simp; done) | omega | (simp; omega)) _))
  have Bd : Cells3x V w.heap.size W H X := by subst hV; exact new3x
  have hVs : V.heap.size = w.heap.size + 1 := by subst hV; simp
  clear hV
  have hO := OwnSS.nil (made0s (V := V) (s := 1) 56 rfl)
  have Bd' := Bd.below (below_one V (.cells #[] 56))
  have v1 := below_alloc v0 (.cells #[] 56)
  have hbel : V.heap.size ≤ (V.alloc (.cells #[] 56)).heap.size := by simp
  rw [hVs] at hO hbel
  clear Bd v0
  generalize V.alloc (.cells #[] 56) = Y at *
  obtain ⟨LO, hLO⟩ : ∃ LO, w.heap.size + 1 = LO := ⟨_, rfl⟩
  have hwL : w.heap.size < LO := by omega
  obtain ⟨N, hN⟩ : ∃ N, (holes W H X).length = N := ⟨_, rfl⟩
  have HN := Lib.hid hN
  have hHo := spec_HolesOf W H X
  rw [hN] at hHo hHL h12
  clear hN
  refine (hHo _).mono ?_
  rintro e w3 ⟨A, cA, rfl, hH, hb3⟩
  replace hO := hO.below hb3
  replace Bd' := Bd'.below hb3
  replace v1 := below_step v1 hb3
  replace hbel := Nat.le_trans hbel hb3.size
  have hH0 := own_lower (lo' := 0) hH (Nat.zero_le _)
  rw [hLO] at hO hbel ⊢
  clear hH hb3 hHo
  go_wp2
  go_loopw [3, 5] (fun v i wr => ∃ (k : Nat) (gs : List Nat), k ≤ N ∧ i = .int .i64 k ∧ OwnSS wr LO v gs (pairsTo W H X k) ∧ wr.ownsRow 0 3 1 (.slice A N cA) N (ints (toInts (holes W H X))) ∧ Below w.heap.size w wr ∧ Cells3x wr w.heap.size W H X ∧ LO ≤ wr.heap.size) (fun _ i _ => N - (intOf i).toNat)
  case atStart => exact ⟨0, [], Nat.zero_le _, rfl, by simpa [pairsTo] using hO, hH0, v1, Bd', hbel⟩
  case round =>
    clear hO hH0 v1 Bd' hbel
    obtain ⟨k, gs, hk, rfl, hO, hH, hbel, Bd, hsz⟩ := hrel
    obtain ⟨A2, c2, rfl⟩ := own_shape hO.row
    by_cases hlt : k < N
    · obtain ⟨h, hh⟩ : ∃ h, (holes W H X)[k]? = some h := ⟨_, List.getElem?_eq_getElem (by rw [HN.out]; exact hlt)⟩
      obtain ⟨y1, y5, y6, y7⟩ := hole_small (List.mem_of_getElem? hh)
      have hpos := but_ok (List.mem_of_getElem? hh)
      have hple := (full_val (by omega) x3 y6 y7).2
      have hpp : (0 : Int) < 2 ^ h := Int.pow_pos (by decide)
      have hpm : X - 2 ^ h ≤ 9223372036854775807 := by omega
      have hwp2 : IntKind.i64.wrap (2 ^ h) = 2 ^ h := by simpa using wrap_pow' y6
      have hws : IntKind.i64.wrap (X - 2 ^ h) = X - 2 ^ h := by rw [IntKind.wrap_i64]; omega
      have hki : (k : Int) < (N : Int) := by omega
      have hN12 : (N : Int) ≤ 12 := by omega
      have HH := Lib.hid hh
      have HPOS := Lib.hid hpos
      clear hh hpos
      obtain ⟨hbs, b0, b1, b2⟩ := id Bd
      go_wp2_with fail
      refine (calls_is (spec_IsSmall _ _ _ _) h1).mono ?_
      rintro e w4 ⟨rfl, hb4⟩
      replace hO := hO.below hb4
      replace hH := own_below hH hb4
      replace hbel := below_step hbel hb4
      replace Bd := Bd.below hb4
      replace hsz := Nat.le_trans hsz hb4.size
      clear hb4 b0 b1 b2 hbs
      obtain ⟨b, off, rfl, hc⟩ := FAt_of_own hH k (h : Int) (toInts_at HH.out)
      have hbl := World.block_lt_of_cell? w4 _ hc
      obtain ⟨hbs, b0, b1, b2⟩ := id Bd
      have hBR := Below.refl w4.heap.size w4
      have K : Hid (∀ w', Below w4.heap.size w4 w' → Below w4.heap.size w4 w' ∧ w'.cell? ⟨w.heap.size, 0, none⟩ = some (.int .i64 W) ∧ w'.cell? ⟨w.heap.size, 1, none⟩ = some (.int .i64 H) ∧ w'.cell? ⟨w.heap.size, 2, none⟩ = some (.int .i64 X) ∧ w'.cell? ⟨b, off + k, none⟩ = some (.int .i64 (h : Int))) := fun w' hB => ⟨hB, bel_cell hB hbs b0, bel_cell hB hbs b1, bel_cell hB hbs b2, bel_cell hB hbl hc⟩
      go_upto_region 6 with fail
      clear b0 b1 b2 hc
      refine wp_region_held_drew (S := (fun w' => Below w4.heap.size w4 w' ∧ w'.cell? ⟨w.heap.size, 0, none⟩ = some (.int .i64 W) ∧ w'.cell? ⟨w.heap.size, 1, none⟩ = some (.int .i64 H) ∧ w'.cell? ⟨w.heap.size, 2, none⟩ = some (.int .i64 X) ∧ w'.cell? ⟨b, off + k, none⟩ = some (.int .i64 (h : Int)))) (by kernel_rfl) ?_ (fun hHd0 => ?_)
      · (refine K.out _ ?_; (repeat (first | exact Below.refl _ _ | assumption | refine below_step ?_ (by assumption) | refine below_alloc ?_ _ | refine below_drewN ?_ _ | refine Below.drew ?_ | refine Below.setCell ?_ (by first | (simp; done) | omega | (simp; omega)) _)))
      refine heldT (i := 0) rfl (by kernel_rfl) (by kernel_rfl) (by kernel_rfl) (fun _ _ _ h => h) (by rfl) (v := ?_) ?_ (by assumption) ?_
      rotate_left
      · (intro w hSw; (try dsimp only at hSw); go_simp; try (with_reducible rfl))
      (try simp only [Act.put, List.setIfInBounds_toArray, List.set_cons_zero, List.set_cons_succ])
      refine heldT (i := 1) rfl (by kernel_rfl) (by kernel_rfl) (by kernel_rfl) (fun _ _ _ h => h) (by rfl) (v := ?_) ?_ (by assumption) ?_
      rotate_left
      · (intro w hSw; (try dsimp only at hSw); go_simp; try (with_reducible rfl))
      (try simp only [Act.put, List.setIfInBounds_toArray, List.set_cons_zero, List.set_cons_succ])
      refine heldT (i := 2) rfl (by kernel_rfl) (by kernel_rfl) (by kernel_rfl) (fun _ _ _ h => h) (by rfl) (v := ?_) ?_ (by assumption) ?_
      rotate_left
      · (intro w hSw; (try dsimp only at hSw); go_simp; try (with_reducible rfl))
      (try simp only [Act.put, List.setIfInBounds_toArray, List.set_cons_zero, List.set_cons_succ])
      refine heldT (i := 3) rfl (by kernel_rfl) (by kernel_rfl) (by kernel_rfl) (fun _ _ _ h => h) (by rfl) (v := ?_) ?_ (by assumption) ?_
      rotate_left
      · (intro w hSw; (try dsimp only at hSw); go_simp; try (with_reducible rfl))
      (try simp only [Act.put, List.setIfInBounds_toArray, List.set_cons_zero, List.set_cons_succ])
      refine heldT (i := 4) rfl (by kernel_rfl) (by kernel_rfl) (by kernel_rfl) (fun _ _ _ h => h) (by rfl) (v := ?_) ?_ (by assumption) ?_
      rotate_left
      · (intro w hSw; (try dsimp only at hSw); go_simp; try (with_reducible rfl))
      (try simp only [Act.put, List.setIfInBounds_toArray, List.set_cons_zero, List.set_cons_succ])
      refine heldT (i := 5) rfl (by kernel_rfl) (by kernel_rfl) (by kernel_rfl) (fun _ _ _ h => h) (by rfl) (v := ?_) ?_ (by assumption) ?_
      rotate_left
      · (intro w hSw; (try dsimp only at hSw); go_simp; try (with_reducible rfl))
      (try simp only [Act.put, List.setIfInBounds_toArray, List.set_cons_zero, List.set_cons_succ])
      refine heldT (i := 6) rfl (by kernel_rfl) (by kernel_rfl) (by kernel_rfl) (fun _ _ _ h => h) (by rfl) (v := ?_) ?_ (by assumption) ?_
      rotate_left
      · (intro w hSw; (try dsimp only at hSw); go_simp; try (with_reducible rfl))
      (try simp only [Act.put, List.setIfInBounds_toArray, List.set_cons_zero, List.set_cons_succ])
      refine heldT (i := 7) rfl (by kernel_rfl) (by kernel_rfl) (by kernel_rfl) (fun _ _ _ h => h) (by rfl) (v := ?_) ?_ (by assumption) ?_
      rotate_left
      · (intro w hSw; (try dsimp only at hSw); go_simp; try (with_reducible rfl))
      (try simp only [Act.put, List.setIfInBounds_toArray, List.set_cons_zero, List.set_cons_succ])
      refine heldT (i := 8) rfl (by kernel_rfl) (by kernel_rfl) (by kernel_rfl) (fun _ _ _ h => h) (by rfl) (v := ?_) ?_ (by assumption) ?_
      rotate_left
      · (intro w hSw; (try dsimp only at hSw); go_simp; try (with_reducible rfl))
      (try simp only [Act.put, List.setIfInBounds_toArray, List.set_cons_zero, List.set_cons_succ])
      refine heldC (i := 9) rfl (by kernel_rfl) (fun K' hK => ?_)
      go_simp
      refine (spec_l14Seen_false W H X (X - 2 ^ h) _ hpm h1 HPOS.out).mono ?_; rintro e w5 ⟨FA, fc, rfl, oS, hb5⟩
      (try (go_wp2_with fail))
      refine hK.out _ _ ?_ (fun hHd1 => ?_)
      · ((try dsimp only); (refine K.out _ ?_; (repeat (first | exact Below.refl _ _ | assumption | refine below_step ?_ (by assumption) | refine below_alloc ?_ _ | refine below_drewN ?_ _ | refine Below.drew ?_ | refine Below.setCell ?_ (by first | (simp; done) | omega | (simp; omega)) _))))
      clear hK K' hHd0
      (try simp only [Act.put, List.setIfInBounds_toArray, List.set_cons_zero, List.set_cons_succ])
      refine heldT (i := 10) rfl (by kernel_rfl) (by kernel_rfl) (by kernel_rfl) (fun _ _ _ h => h) (by rfl) (v := ?_) ?_ (by assumption) ?_
      rotate_left
      · (intro w hSw; (try dsimp only at hSw); go_simp; try (with_reducible rfl))
      (try simp only [Act.put, List.setIfInBounds_toArray, List.set_cons_zero, List.set_cons_succ])
      refine wpAnyH_done (by kernel_rfl) ?_ _
      have h5 : Below w4.heap.size w4 w5 := by (repeat (first | exact Below.refl _ _ | assumption | refine below_step ?_ (by assumption) | refine below_alloc ?_ _ | refine below_drewN ?_ _ | refine Below.drew ?_ | refine Below.setCell ?_ (by first | (simp; done) | omega | (simp; omega)) _))
      have hS0 := own_lower (lo' := 0) oS (Nat.zero_le _)
      have hO5 := hO.below h5
      have hH5 := own_below hH h5
      have hbel5 := below_step hbel h5
      have Bd5 := Bd.below h5
      have hsz5 := Nat.le_trans hsz h5.size
      have hsl := seen_len (back := false) ⟨h1, HPOS.out⟩
      obtain ⟨bs, hbsn⟩ : ∃ bs, seenB W H X false (X - 2 ^ h) = bs := ⟨_, rfl⟩
      rw [hbsn] at hS0 hsl ⊢
      have HB := Lib.hid hbsn
      obtain ⟨SL, hSL⟩ : ∃ SL, bs.length = SL := ⟨_, rfl⟩
      rw [hSL] at hS0 hsl ⊢
      have HSL := Lib.hid hSL
      have HSC := Lib.hid hsl
      clear hO hH hbel Bd hsz K h5 oS hbsn hSL hsl
      go_wp2
      go_loopw [3, 7] (fun v j wq => ∃ (m : Nat) (gs : List Nat), m ≤ N ∧ j = .int .i64 m ∧ OwnSS wq LO v gs (pairsTo W H X k ++ partOf W H X h m) ∧ wq.ownsRow 0 3 1 (.slice (some ⟨b, off, none⟩) N cA) N (ints (toInts (holes W H X))) ∧ wq.ownsRow 0 4 1 (.slice FA SL fc) SL (bools bs) ∧ Below w.heap.size w wq ∧ Cells3x wq w.heap.size W H X ∧ LO ≤ wq.heap.size) (fun _ j _ => N - (intOf j).toNat)
      case atStart => exact ⟨0, gs, Nat.zero_le _, rfl, by simpa [partOf, pick] using hO5, hH5, hS0, hbel5, Bd5, hsz5⟩
      case round =>
        clear hO5 hH5 hS0 hbel5 Bd5 hsz5
        rename World => wq
        obtain ⟨m, gs, hm, rfl, hO, hH, hS, hbel, Bd, hsz⟩ := hrel
        obtain ⟨A3, c3, rfl⟩ := own_shape hO.row
        by_cases hml : m < N
        · obtain ⟨f, hf⟩ : ∃ f, (holes W H X)[m]? = some f := ⟨_, List.getElem?_eq_getElem (by rw [HN.out]; exact hml)⟩
          obtain ⟨z1, z5, z6, z7⟩ := hole_small (List.mem_of_getElem? hf)
          have hmi : (m : Int) < (N : Int) := by omega
          have hwf2 : IntKind.i64.wrap (2 ^ f) = 2 ^ f := by simpa using wrap_pow' z6
          have hle2 := (full_val (by omega) x3 z6 z7).2
          have hpf : (0 : Int) < 2 ^ f := Int.pow_pos (by decide)
          have hi2 : (2 : Int) ^ f < (SL : Int) := by
            have : X = (X.toNat : Int) := by omega
            have := HSC.out
            omega
          obtain ⟨bv, hbv⟩ : ∃ bv, bs[((2 : Int) ^ f).toNat]? = some bv := ⟨_, List.getElem?_eq_getElem (by rw [HSL.out]; omega)⟩
          have hq : seenHas (seenB W H X false (X - 2 ^ h)) (2 ^ f) = bv := by rw [HB.out]; exact seenHas_at (by omega) hbv
          have hS' := hS
          rw [show (Value.slice FA SL fc) = .slice FA bs.length fc by rw [HSL.out]] at hS'
          rw [← HSL.out] at hS'
          obtain ⟨bS, oS, rfl, hcs⟩ := BAt_of_own hS' _ _ hbv
          have hbF := FAt_of_own hH m (f : Int) (toInts_at hf)
          obtain ⟨_, _, e2, hcm⟩ := hbF
          injection e2 with e2; injection e2 with e3 e4; subst e3 e4
          obtain ⟨_, _, e2, hck⟩ := FAt_of_own hH k (h : Int) (toInts_at HH.out)
          injection e2 with e2; injection e2 with e3 e4; subst e3 e4
          have hbl3 := World.block_lt_of_cell? wq _ hcm
          have hbS3 := World.block_lt_of_cell? wq _ hcs
          have HF := Lib.hid hf
          have HQ := Lib.hid hq
          clear hf hq hbv hS'
          cases bv
          · have hpn : partOf W H X h (m + 1) = partOf W H X h m := by unfold partOf; rw [pick_no (P := (fun k => seenHas (seenB W H X false (X - 2 ^ h)) (2 ^ k))) HF.out HQ.out]
            have HPN := Lib.hid hpn
            clear hpn
            go_wp2
            go_roundw
            case rel => exact ⟨m + 1, gs, by omega, by go_num, by rw [HPN.out]; exact hO, hH, hS, hbel, Bd, hsz⟩
            case measure => simp [intOf]; omega
          · have hpn : partOf W H X h (m + 1) = partOf W H X h m ++ [((h : Int), (f : Int))] := by unfold partOf; rw [pick_yes (P := (fun k => seenHas (seenB W H X false (X - 2 ^ h)) (2 ^ k))) HF.out HQ.out]; simp
            have HPN := Lib.hid hpn
            clear hpn
            have hpl : (pairsTo W H X k ++ partOf W H X h m).length ≤ 4294967296 := by
              have h1 := pairsTo_len W H X k
              have h2 : (partOf W H X h m).length ≤ 49 := by
                unfold partOf; rw [List.length_map]
                exact Nat.le_trans (pick_len _ _ _) (by rw [HN.out]; exact hHL)
              rw [List.length_append]; omega
            have K11 : Hid (∀ w' : World, w'.ownsRow 0 3 1 (.slice (some ⟨b, off, none⟩) N cA) N (ints (toInts (holes W H X))) → w'.cell? ⟨b, off + k, none⟩ = some (.int .i64 (h : Int)) ∧ w'.cell? ⟨b, off + m, none⟩ = some (.int .i64 (f : Int))) := fun w' hw => by
              obtain ⟨_, _, e2, g1⟩ := FAt_of_own hw k (h : Int) (toInts_at HH.out)
              injection e2 with e2; injection e2 with e3 e4; subst e3 e4
              obtain ⟨_, _, e2, g2⟩ := FAt_of_own hw m (f : Int) (toInts_at HF.out)
              injection e2 with e2; injection e2 with e3 e4; subst e3 e4
              exact ⟨g1, g2⟩
            obtain ⟨qs, hqs⟩ : ∃ qs, pairsTo W H X k ++ partOf W H X h m = qs := ⟨_, rfl⟩
            rw [hqs] at hO hpl ⊢
            have HQS := Lib.hid hqs
            clear hqs
            go_upto_region 11 with fail
            clear hcs hcm hck
            refine wp_region_held_drew (S := (fun w' => w'.cell? ⟨b, off + k, none⟩ = some (.int .i64 (h : Int)) ∧ w'.cell? ⟨b, off + m, none⟩ = some (.int .i64 (f : Int)))) (by kernel_rfl) ?_ (fun hHd0 => ?_)
            · (refine K11.out _ ?_; exact (World.ownsRow.drew hH))
            refine heldT (i := 0) rfl (by kernel_rfl) (by kernel_rfl) (by kernel_rfl) (fun _ _ _ h => h) (by rfl) (v := ?_) ?_ (by assumption) ?_
            rotate_left
            · (intro w hSw; (try dsimp only at hSw); go_simp; try (with_reducible rfl))
            (try simp only [Act.put, List.setIfInBounds_toArray, List.set_cons_zero, List.set_cons_succ])
            refine heldT (i := 1) rfl (by kernel_rfl) (by kernel_rfl) (by kernel_rfl) (fun _ _ _ h => h) (by rfl) (v := ?_) ?_ (by assumption) ?_
            rotate_left
            · (intro w hSw; (try dsimp only at hSw); go_simp; try (with_reducible rfl))
            (try simp only [Act.put, List.setIfInBounds_toArray, List.set_cons_zero, List.set_cons_succ])
            refine heldT (i := 2) rfl (by kernel_rfl) (by kernel_rfl) (by kernel_rfl) (fun _ _ _ h => h) (by rfl) (v := ?_) ?_ (by assumption) ?_
            rotate_left
            · (intro w hSw; (try dsimp only at hSw); go_simp; try (with_reducible rfl))
            (try simp only [Act.put, List.setIfInBounds_toArray, List.set_cons_zero, List.set_cons_succ])
            refine heldT (i := 3) rfl (by kernel_rfl) (by kernel_rfl) (by kernel_rfl) (fun _ _ _ h => h) (by rfl) (v := ?_) ?_ (by assumption) ?_
            rotate_left
            · (intro w hSw; (try dsimp only at hSw); go_simp; try (with_reducible rfl))
            (try simp only [Act.put, List.setIfInBounds_toArray, List.set_cons_zero, List.set_cons_succ])
            refine heldT (i := 4) rfl (by kernel_rfl) (by kernel_rfl) (by kernel_rfl) (fun _ _ _ h => h) (by rfl) (v := ?_) ?_ (by assumption) ?_
            rotate_left
            · (intro w hSw; (try dsimp only at hSw); go_simp; try (with_reducible rfl))
            (try simp only [Act.put, List.setIfInBounds_toArray, List.set_cons_zero, List.set_cons_succ])
            refine heldT (i := 5) rfl (by kernel_rfl) (by kernel_rfl) (by kernel_rfl) (fun _ _ _ h => h) (by rfl) (v := ?_) ?_ (by assumption) ?_
            rotate_left
            · (intro w hSw; (try dsimp only at hSw); go_simp; try (with_reducible rfl))
            (try simp only [Act.put, List.setIfInBounds_toArray, List.set_cons_zero, List.set_cons_succ])
            refine heldT (i := 6) rfl (by kernel_rfl) (by kernel_rfl) (by kernel_rfl) (fun _ _ _ h => h) (by rfl) (v := ?_) ?_ (by assumption) ?_
            rotate_left
            · (intro w hSw; (try dsimp only at hSw); go_simp; try (with_reducible rfl))
            (try simp only [Act.put, List.setIfInBounds_toArray, List.set_cons_zero, List.set_cons_succ])
            refine heldT (i := 7) rfl (by kernel_rfl) (by kernel_rfl) (by kernel_rfl) (fun _ _ _ h => h) (by rfl) (v := ?_) ?_ (by assumption) ?_
            rotate_left
            · (intro w hSw; (try dsimp only at hSw); go_simp; try (with_reducible rfl))
            (try simp only [Act.put, List.setIfInBounds_toArray, List.set_cons_zero, List.set_cons_succ])
            refine heldT (i := 8) rfl (by kernel_rfl) (by kernel_rfl) (by kernel_rfl) (fun _ _ _ h => h) (by rfl) (v := ?_) ?_ (by assumption) ?_
            rotate_left
            · (intro w hSw; (try dsimp only at hSw); go_simp; try (with_reducible rfl))
            (try simp only [Act.put, List.setIfInBounds_toArray, List.set_cons_zero, List.set_cons_succ])
            refine heldC (i := 9) rfl (by kernel_rfl) (fun K' hK => ?_)
            go_simp
            skip
            (try (go_wp2_with fail))
            refine hK.out _ _ ?_ (fun hHd1 => ?_)
            · ((try dsimp only); (refine K11.out _ ?_; exact (World.ownsRow.drew hH).alloc _))
            clear hK K' hHd0
            (try simp only [Act.put, List.setIfInBounds_toArray, List.set_cons_zero, List.set_cons_succ])
            refine heldC (i := 10) rfl (by kernel_rfl) (fun K' hK => ?_)
            go_simp
            skip
            (try (go_wp2_with fail))
            refine hK.out _ _ ?_ (fun hHd2 => ?_)
            · ((try dsimp only); (refine K11.out _ ?_; exact ((World.ownsRow.drew hH).alloc _).alloc _))
            clear hK K' hHd1
            (try simp only [Act.put, List.setIfInBounds_toArray, List.set_cons_zero, List.set_cons_succ])
            refine heldC (i := 11) rfl (by kernel_rfl) (fun K' hK => ?_)
            rw [if_pos (by kernel_rfl)]
            have hDR : Below wq.heap.size wq wq.drew := by (repeat (first | exact Below.refl _ _ | assumption | refine below_step ?_ (by assumption) | refine below_alloc ?_ _ | refine below_drewN ?_ _ | refine Below.drew ?_ | refine Below.setCell ?_ (by first | (simp; done) | omega | (simp; omega)) _))
            have hO1 := hO.below hDR
            have hH1 := own_below hH hDR
            have hS1 := own_below hS hDR
            have hbel1 := below_step hbel hDR
            have Bd1 := Bd.below hDR
            have hsz1 : LO ≤ wq.drew.heap.size := hsz
            clear hDR
            refine append_ssw Try.underlying49 LO (wq.drew.alloc (.cells #[.int .i64 (h : Int), .int .i64 (f : Int)] 3)) _ _ rfl _ _ (gs.map slv) (slv wq.drew.heap.size) rfl (by rfl) (hO1.row.alloc _) (by first | rfl | (simp; done) | (simp; rfl)) hpl (by simp only [size_alloc]; omega) ?_
            intro v' w' hown' hg'
            have hO' := hO1.push hsz1 (h : Int) (f : Int) hown' hg'
            have kH := (hH1.alloc (.cells #[.int .i64 (h : Int), .int .i64 (f : Int)] 3)).alloc (.cells #[slv wq.drew.heap.size] 56)
            have kS := (hS1.alloc (.cells #[.int .i64 (h : Int), .int .i64 (f : Int)] 3)).alloc (.cells #[slv wq.drew.heap.size] 56)
            have hH' := kH.kept hg' (own_types hH1 hO1.row (by decide))
            have hS' := kS.kept hg' (own_types hS1 hO1.row (by decide))
            have hb2 : Below w.heap.size w ((wq.drew.alloc (.cells #[.int .i64 (h : Int), .int .i64 (f : Int)] 3)).alloc (.cells #[slv wq.drew.heap.size] 56)) := below_alloc (below_alloc hbel1 _) _
            have hbel' : Below w.heap.size w w' := hb2.grown hg' hb2.size (fun i hi => by have := (hO1.row.lt i hi).1; omega)
            have Bd2 : Cells3x ((wq.drew.alloc (.cells #[.int .i64 (h : Int), .int .i64 (f : Int)] 3)).alloc (.cells #[slv wq.drew.heap.size] 56)) w.heap.size W H X := (Bd1.below (below_one _ _)).below (below_one _ _)
            have Bd' := Bd2.grown hg' (fun e => by have := (hO1.row.lt _ e.symm).1; omega)
            have hsz' : LO ≤ w'.heap.size := by have := hg'.size; simp at this; omega
            refine hK.out _ _ (K11.out _ hH') (fun hHd3 => ?_)
            clear hK K' hO hH hS hbel Bd hsz hO1 hH1 hS1 hbel1 Bd1 hsz1 kH kS hb2 Bd2 hown' hg'
            (try simp only [Act.put, List.setIfInBounds_toArray, List.set_cons_zero, List.set_cons_succ])
            refine heldT (i := 12) rfl (by kernel_rfl) (by kernel_rfl) (by kernel_rfl) (fun _ _ _ h => h) (by rfl) (v := ?_) ?_ (by assumption) ?_
            rotate_left
            · (intro w hSw; (try dsimp only at hSw); go_simp; try (with_reducible rfl))
            (try simp only [Act.put, List.setIfInBounds_toArray, List.set_cons_zero, List.set_cons_succ])
            refine wpAnyH_done (by kernel_rfl) ?_ _
            go_wp2
            go_roundw
            case rel => exact ⟨m + 1, gs ++ [wq.drew.heap.size], by omega, by go_num, by rw [HPN.out, ← List.append_assoc, HQS.out]; exact hO', hH', hS', hbel', Bd', hsz'⟩
            case measure => simp [intOf]; omega
        · obtain rfl : m = N := by omega
          have hfin : pairsTo W H X k ++ partOf W H X h m = pairsTo W H X (k + 1) := by
            rw [pairsTo_succ HH.out, ← part_all2, HN.out]
          rw [hfin] at hO ⊢
          clear hfin
          go_wp2
          go_roundw
          case rel => exact ⟨k + 1, gs, by omega, by go_num, hO, hH, hbel, Bd, hsz⟩
          case measure => simp [intOf]; omega
    · obtain rfl : k = N := by omega
      have hall : pairsTo W H X k = (holes W H X).flatMap (pairsAt W H X) := by unfold pairsTo; rw [← HN.out, List.take_length]
      have HA := Lib.hid hall
      clear hall
      go_wp2
      go_ret
      exact ⟨A2, c2, gs, by rw [← HA.out]; rfl, by rw [← HA.out]; exact hO.lower (by omega), hbel⟩
end Go.Proofs.Ytianfakgojmnpaa

/- Slices of pairs: a row of slices, each of a block of its own. -/
import Derived.Test.YtianfakgojmnpaaFinals
import Derived.Test.YtianfakgojmnpaaHeld
import Derived.BigQuiet
import Derived.Deep.QuietTactic
namespace Go.Proofs.Ytianfakgojmnpaa
open Go.RowKit

def slv (g : Nat) : Value := .slice (some ⟨g, 0, none⟩) 2 2
theorem sl_info : (Try.prog.info? 56).map (fun i => (i.zero, i.size, i.bytes)) = some (some (.slice none 0 0), 1, 24) := by kernel_rfl
structure OwnSS (w : World) (lo : Nat) (v : Value) (gs : List Nat) (ps : List (Int × Int)) : Prop where
  len : gs.length = ps.length
  row : w.ownsRow lo 56 1 v ps.length (gs.map slv)
  inn : ∀ (i g : Nat) (a b : Int), gs[i]? = some g → ps[i]? = some (a, b) → w.ownsRow lo 3 1 (slv g) 2 (ints [a, b])
  nod : gs.Nodup
theorem OwnSS.at {w : World} {lo : Nat} {v : Value} {gs : List Nat} {ps : List (Int × Int)} (h : OwnSS w lo v gs ps) {i : Nat} {a b : Int} (hp : ps[i]? = some (a, b)) : ∃ g, gs[i]? = some g ∧ w.ownsRow lo 3 1 (slv g) 2 (ints [a, b]) := by
  have hi := (List.getElem?_eq_some_iff.1 hp).1
  obtain ⟨g, hg⟩ : ∃ g, gs[i]? = some g := ⟨_, List.getElem?_eq_getElem (by rw [h.len]; exact hi)⟩
  exact ⟨g, hg, h.inn i g a b hg hp⟩
theorem OwnSS.mem {w : World} {lo : Nat} {v : Value} {gs : List Nat} {ps : List (Int × Int)} (h : OwnSS w lo v gs ps) {g : Nat} (hg : g ∈ gs) : lo ≤ g ∧ g < w.heap.size := by
  obtain ⟨i, hi⟩ := List.getElem?_of_mem hg
  have hl := (List.getElem?_eq_some_iff.1 hi).1
  obtain ⟨⟨a, b⟩, hp⟩ : ∃ p, ps[i]? = some p := ⟨_, List.getElem?_eq_getElem (by rw [← h.len]; exact hl)⟩
  exact (h.inn i g a b hi hp).lt g rfl
theorem OwnSS.below {w w' : World} {lo : Nat} {v : Value} {gs : List Nat} {ps : List (Int × Int)} (h : OwnSS w lo v gs ps) (hb : Below w.heap.size w w') : OwnSS w' lo v gs ps :=
  ⟨h.len, own_below h.row hb, fun i g a b h1 h2 => own_below (h.inn i g a b h1 h2) hb, h.nod⟩
theorem OwnSS.lower {w : World} {lo lo' : Nat} {v : Value} {gs : List Nat} {ps : List (Int × Int)} (h : OwnSS w lo v gs ps) (hl : lo' ≤ lo) : OwnSS w lo' v gs ps :=
  ⟨h.len, own_lower h.row hl, fun i g a b h1 h2 => own_lower (h.inn i g a b h1 h2) hl, h.nod⟩
theorem OwnSS.nil {w : World} {lo : Nat} {v : Value} (h : w.ownsRow lo 56 1 v 0 []) : OwnSS w lo v [] [] :=
  ⟨rfl, h, fun i g a b h1 _ => by simp at h1, List.nodup_nil⟩
theorem made2 {w : World} {lo : Nat} (h : lo ≤ w.heap.size) (a b : Int) : (w.alloc (.cells #[.int .i64 a, .int .i64 b] 3)).ownsRow lo 3 1 (slv w.heap.size) 2 (ints [a, b]) :=
  ⟨by simp [ints], .inr ⟨w.heap.size, 2, #[.int .i64 a, .int .i64 b], rfl, h, heap_alloc_new w _, Nat.le_refl _, by simp [maxLen], rfl, by simp [ints]⟩⟩
/-- one pair more -/
theorem OwnSS.push {w w' : World} {lo : Nat} {v v' : Value} {gs : List Nat} {ps : List (Int × Int)} (h : OwnSS w lo v gs ps) (hlo : lo ≤ w.heap.size) (a b : Int)
    (ho : w'.ownsRow lo 56 1 v' (ps.length + 1) (gs.map slv ++ [slv w.heap.size])) (hg : ((w.alloc (.cells #[.int .i64 a, .int .i64 b] 3)).alloc (.cells #[slv w.heap.size] 56)).grownBy w' v.ownBlock) : OwnSS w' lo v' (gs ++ [w.heap.size]) (ps ++ [(a, b)]) := by
  refine ⟨by simp [h.len], by simpa using ho, ?_, ?_⟩
  · intro i g x y h1 h2
    by_cases hi : i < gs.length
    · rw [List.getElem?_append_left hi] at h1
      rw [List.getElem?_append_left (by rw [← h.len]; exact hi)] at h2
      have k := h.inn i g x y h1 h2
      exact ((k.alloc _).alloc _).kept hg (own_types k h.row (by decide))
    · have e : i = gs.length := by
        have := (List.getElem?_eq_some_iff.1 h1).1
        rw [List.length_append, List.length_singleton] at this
        omega
      subst e
      rw [List.getElem?_append_right (Nat.le_refl _), Nat.sub_self] at h1
      rw [List.getElem?_append_right (by rw [h.len]; exact Nat.le_refl _), h.len, Nat.sub_self] at h2
      simp only [List.getElem?_cons_zero, Option.some.injEq, Prod.mk.injEq] at h1 h2
      obtain ⟨rfl, rfl⟩ := h2
      subst h1
      refine ((made2 hlo a b).alloc _).kept hg (.inr fun e => ?_)
      have := (h.row.lt w.heap.size e.symm).2
      omega
  · rw [List.nodup_append]
    refine ⟨h.nod, by simp, ?_⟩
    intro x hx y hy e
    rw [List.mem_singleton] at hy
    have := (h.mem hx).2
    omega
/-- the numbers of one pair are others -/
theorem OwnSS.set {w w' : World} {lo : Nat} {v : Value} {gs : List Nat} {ps : List (Int × Int)} (h : OwnSS w lo v gs ps) {i g : Nat} {a b x y : Int} (hi : gs[i]? = some g) (hp : ps[i]? = some (x, y))
    (ho : w'.ownsRow lo 3 1 (slv g) 2 (ints [a, b])) (hg : w.grownBy w' (slv g).ownBlock) : OwnSS w' lo v gs (ps.set i (a, b)) := by
  have hr := h.inn i g x y hi hp
  refine ⟨by simp [h.len], ?_, ?_, h.nod⟩
  · rw [List.length_set]
    exact h.row.kept hg (own_types h.row hr (by decide))
  · intro j g' c d h1 h2
    by_cases e : j = i
    · subst e
      rw [hi] at h1
      injection h1 with h1
      subst h1
      rw [List.getElem?_set_self (List.getElem?_eq_some_iff.1 hp).1] at h2
      injection h2 with h2
      injection h2 with h2 h3
      subst h2 h3
      exact ho
    · rw [List.getElem?_set_ne (fun e2 => e e2.symm)] at h2
      refine (h.inn j g' c d h1 h2).kept hg (.inr fun e2 => e ?_)
      have e3 : g' = g := by simpa [slv, Value.ownBlock] using e2
      subst e3
      exact (List.getElem?_inj (List.getElem?_eq_some_iff.1 h1).1 h.nod).1 (h1.trans hi.symm)
/-- what is read of it, as long as the blocks below B stay -/
def RSS (w : World) (B : Nat) (A : Option Addr) (ps : List (Int × Int)) : Prop :=
  ∀ (i : Nat) (a b : Int), ps[i]? = some (a, b) → ∃ k g : Nat, A = some ⟨k, 0, none⟩ ∧ k < B ∧ g < B ∧ w.cell? ⟨k, i, none⟩ = some (slv g) ∧ w.cell? ⟨g, 0, none⟩ = some (.int .i64 a) ∧ w.cell? ⟨g, 1, none⟩ = some (.int .i64 b)
theorem RSS.below {w w' : World} {B : Nat} {A : Option Addr} {ps : List (Int × Int)} (h : RSS w B A ps) (hb : Below B w w') : RSS w' B A ps := by
  intro i a b hp
  obtain ⟨k, g, e, h1, h2, h3, h4, h5⟩ := h i a b hp
  exact ⟨k, g, e, h1, h2, (hb.cell (p := ⟨k, i, none⟩) h1).trans h3, (hb.cell (p := ⟨g, 0, none⟩) h2).trans h4, (hb.cell (p := ⟨g, 1, none⟩) h2).trans h5⟩
theorem OwnSS.rss {w : World} {lo n cap : Nat} {A : Option Addr} {gs : List Nat} {ps : List (Int × Int)} (h : OwnSS w lo (.slice A n cap) gs ps) : RSS w w.heap.size A ps := by
  intro i a b hp
  obtain ⟨g, hg, hr⟩ := h.at hp
  have hi := (List.getElem?_eq_some_iff.1 hp).1
  rcases h.row.2 with ⟨_, e⟩ | ⟨k, c, cur, e, hlo, hk, _⟩
  · omega
  · injection e with e1 e2 e3
    subst e1
    have hrow := h.row
    rw [show (Value.slice (some ⟨k, 0, none⟩) n cap) = .slice (some ⟨k, 0, none⟩) ps.length cap by rw [e2]] at hrow
    refine ⟨k, g, rfl, (hrow.lt k rfl).2, (hr.lt g rfl).2, ?_, ?_, ?_⟩
    · exact (hrow.cellAt i (by omega)).trans (by rw [List.getElem?_map, hg]; rfl)
    · exact (hr.cellAt 0 (by omega)).trans rfl
    · exact (hr.cellAt 1 (by omega)).trans rfl
theorem RSS.fat {w : World} {g : Nat} {a b : Int} (h0 : w.cell? ⟨g, 0, none⟩ = some (.int .i64 a)) (h1 : w.cell? ⟨g, 1, none⟩ = some (.int .i64 b)) : FAt w (some ⟨g, 0, none⟩) [a, b] := by
  intro j z hz
  match j, hz with
  | 0, hz => simp at hz; subst hz; exact ⟨g, 0, rfl, h0⟩
  | 1, hz => simp at hz; subst hz; exact ⟨g, 0, rfl, h1⟩
  | n + 2, hz => simp at hz
theorem append_ss {ops : Array Oper} {rest : List Oper} {o : Oper} {a : Act} {Q : Exit → Act → World → Prop} {T : TypeId} (hT : Try.prog.underlying T = some (.slice 56)) (lo : Nat) (w : World) (hgd : o.guard = none) (s x : Operand)
    (ho : o.op = .call { callee := .builtin .append, args := #[s, x], argTypes := #[T, T] }) (v : Value) (n : Nat) (cs : List Value) (u : Value) (hu : u.oneCell' = true) (hs : a.eval s = v)
    (hown : w.ownsRow lo 56 1 v n cs) (hx : a.eval x = .slice (some ⟨w.heap.size, 0, none⟩) 1 1) (hn : n ≤ 4294967296) (hlo : lo ≤ w.heap.size)
    (h : ∀ v' w', w'.ownsRow lo 56 1 v' (n + 1) (cs ++ [u]) → (w.alloc (.cells #[u] 56)).grownBy w' v.ownBlock → wpList Try.prog ops Q rest (a.put o.dst v') w') :
    wpList Try.prog ops Q (o :: rest) a (w.alloc (.cells #[u] 56)) := by
  obtain ⟨i0, hi, hz0, hz1, hz2⟩ := info_parts sl_info
  refine wpList_append_own _ hgd s x T ho lo 56 i0 (.slice none 0 0) 1 24 hT hi hz0 hz1 hz2 rfl (by decide) v n cs hs (hown.alloc _) ⟨w.heap.size, 0, none⟩ 1 1 [u] hx rfl ?_ ?_ ?_ ?_ ?_ ?_
  · intro j u' hj
    match j, hj with
    | 0, hj => simp at hj; subst hj; simp [Addr.add]
  · intro u' hu'; simp at hu'; subst hu'; exact hu
  · simp only [maxLen]; omega
  · omega
  · simp; omega
  · intro v' w' hown' hgrow _
    exact h v' w' hown' hgrow
set_option maxHeartbeats 2000000 in
theorem laws_eqIntSS (A B2 : Option Addr) (cap cap2 B B' : Nat) (ps : List (Int × Int)) (w : World) (hA : RSS w B A ps) (hB : RSS w B' B2 ps) (hBl : B ≤ w.heap.size) (hBl' : B' ≤ w.heap.size) (hn : ps.length ≤ 4294967296) :
    Calls Try.prog 26 #[.slice A ps.length cap, .slice B2 ps.length cap2] w fun e w' => e = .returned (.bool true) ∧ Below w.heap.size w w' := by
  go_enter Try.func26, Try.ntmps26
  go_wp2
  go_loopw [5] (fun i wr => ∃ k : Nat, k ≤ ps.length ∧ i = .int .i64 k ∧ Below w.heap.size w wr) (fun i _ => ps.length - (intOf i).toNat)
  case atStart => exact ⟨0, Nat.zero_le _, rfl, Below.refl _ _⟩
  case round =>
    obtain ⟨k, hk, rfl, hbr⟩ := hrel
    by_cases hlt : k < ps.length
    · obtain ⟨⟨x, y⟩, hp⟩ : ∃ p, ps[k]? = some p := ⟨_, List.getElem?_eq_getElem hlt⟩
      obtain ⟨g1, i1, rfl, p1, p2, p3, p4, p5⟩ := hA.below (hbr.mono hBl) k x y hp
      obtain ⟨g2, i2, rfl, q1, q2, q3, q4, q5⟩ := hB.below (hbr.mono hBl') k x y hp
      have f1 := RSS.fat p4 p5
      have f2 := RSS.fat q4 q5
      have hsz := hbr.size
      have s1 : g1 < wr.heap.size := by omega
      have s2 : g2 < wr.heap.size := by omega
      have hBR := Below.refl wr.heap.size wr
      unfold slv at p3 q3
      have K : Hid (∀ w', Below wr.heap.size wr w' → Below wr.heap.size wr w' ∧ w'.cell? ⟨g1, k, none⟩ = some (.slice (some ⟨i1, 0, none⟩) 2 2) ∧ w'.cell? ⟨g2, k, none⟩ = some (.slice (some ⟨i2, 0, none⟩) 2 2)) := fun w' hB => ⟨hB, bel_cell hB s1 p3, bel_cell hB s2 q3⟩
      have f1' : Hid (∀ w', Below wr.heap.size wr w' → FAt w' (some ⟨i1, 0, none⟩) [x, y]) := fun w' hB => RSS.fat (bel_cell hB (by omega) p4) (bel_cell hB (by omega) p5)
      have f2' : Hid (∀ w', Below wr.heap.size wr w' → FAt w' (some ⟨i2, 0, none⟩) [x, y]) := fun w' hB => RSS.fat (bel_cell hB (by omega) q4) (bel_cell hB (by omega) q5)
      have hki : (k : Int) < (ps.length : Int) := by omega
      clear p3 p4 p5 q3 q4 q5 f1 f2 hp
      go_wp2_with fail
      refine wp_region_held_drew (S := (fun w' => Below wr.heap.size wr w' ∧ w'.cell? ⟨g1, k, none⟩ = some (.slice (some ⟨i1, 0, none⟩) 2 2) ∧ w'.cell? ⟨g2, k, none⟩ = some (.slice (some ⟨i2, 0, none⟩) 2 2))) (by kernel_rfl) ?_ (fun hHd0 => ?_)
      · (refine K.out _ ?_; (repeat (first | exact Below.refl _ _ | assumption | refine below_step ?_ (by assumption) | refine below_alloc ?_ _ | refine below_drewN ?_ _ | refine Below.drew ?_ | refine Below.setCell ?_ (by first | (simp; done) | omega | (simp; omega)) _)))
      refine heldT (i := 0) rfl (by kernel_rfl) (by kernel_rfl) (by kernel_rfl) (fun _ _ _ h => h) (by rfl) (v := ?_) ?_ (by assumption) ?_
      rotate_left
      · (intro w hSw; (try dsimp only at hSw); go_simp; try (with_reducible rfl))
      (try simp only [Act.put, List.setIfInBounds_toArray, List.set_cons_zero, List.set_cons_succ])
      refine heldT (i := 1) rfl (by kernel_rfl) (by kernel_rfl) (by kernel_rfl) (fun _ _ _ h => h) (by rfl) (v := ?_) ?_ (by assumption) ?_
      rotate_left
      · (intro w hSw; (try dsimp only at hSw); go_simp; try (with_reducible rfl))
      (try simp only [Act.put, List.setIfInBounds_toArray, List.set_cons_zero, List.set_cons_succ])
      refine heldT (i := 2) rfl (by kernel_rfl) (by kernel_rfl) (by kernel_rfl) (fun _ _ _ h => h) (by rfl) (v := ?_) ?_ (by assumption) ?_
      rotate_left
      · (intro w hSw; (try dsimp only at hSw); go_simp; try (with_reducible rfl))
      (try simp only [Act.put, List.setIfInBounds_toArray, List.set_cons_zero, List.set_cons_succ])
      refine heldT (i := 3) rfl (by kernel_rfl) (by kernel_rfl) (by kernel_rfl) (fun _ _ _ h => h) (by rfl) (v := ?_) ?_ (by assumption) ?_
      rotate_left
      · (intro w hSw; (try dsimp only at hSw); go_simp; try (with_reducible rfl))
      (try simp only [Act.put, List.setIfInBounds_toArray, List.set_cons_zero, List.set_cons_succ])
      refine heldT (i := 4) rfl (by kernel_rfl) (by kernel_rfl) (by kernel_rfl) (fun _ _ _ h => h) (by rfl) (v := ?_) ?_ (by assumption) ?_
      rotate_left
      · (intro w hSw; (try dsimp only at hSw); go_simp; try (with_reducible rfl))
      (try simp only [Act.put, List.setIfInBounds_toArray, List.set_cons_zero, List.set_cons_succ])
      refine heldT (i := 5) rfl (by kernel_rfl) (by kernel_rfl) (by kernel_rfl) (fun _ _ _ h => h) (by rfl) (v := ?_) ?_ (by assumption) ?_
      rotate_left
      · (intro w hSw; (try dsimp only at hSw); go_simp; try (with_reducible rfl))
      (try simp only [Act.put, List.setIfInBounds_toArray, List.set_cons_zero, List.set_cons_succ])
      refine heldT (i := 6) rfl (by kernel_rfl) (by kernel_rfl) (by kernel_rfl) (fun _ _ _ h => h) (by rfl) (v := ?_) ?_ (by assumption) ?_
      rotate_left
      · (intro w hSw; (try dsimp only at hSw); go_simp; try (with_reducible rfl))
      (try simp only [Act.put, List.setIfInBounds_toArray, List.set_cons_zero, List.set_cons_succ])
      refine heldT (i := 7) rfl (by kernel_rfl) (by kernel_rfl) (by kernel_rfl) (fun _ _ _ h => h) (by rfl) (v := ?_) ?_ (by assumption) ?_
      rotate_left
      · (intro w hSw; (try dsimp only at hSw); go_simp; try (with_reducible rfl))
      (try simp only [Act.put, List.setIfInBounds_toArray, List.set_cons_zero, List.set_cons_succ])
      refine heldC (i := 8) rfl (by kernel_rfl) (fun K' hK => ?_)
      go_simp
      refine (laws_eqIntS (some ⟨i1, 0, none⟩) (some ⟨i2, 0, none⟩) 2 2 [x, y] _ (f1'.out _ (by (repeat (first | exact Below.refl _ _ | assumption | refine below_step ?_ (by assumption) | refine below_alloc ?_ _ | refine below_drewN ?_ _ | refine Below.drew ?_ | refine Below.setCell ?_ (by first | (simp; done) | omega | (simp; omega)) _)))) (f2'.out _ (by (repeat (first | exact Below.refl _ _ | assumption | refine below_step ?_ (by assumption) | refine below_alloc ?_ _ | refine below_drewN ?_ _ | refine Below.drew ?_ | refine Below.setCell ?_ (by first | (simp; done) | omega | (simp; omega)) _)))) (by simp)).mono ?_; rintro e w9 ⟨rfl, hb9⟩
      (try (go_wp2_with fail))
      refine hK.out _ _ ?_ (fun hHd1 => ?_)
      · ((try dsimp only); (refine K.out _ ?_; (repeat (first | exact Below.refl _ _ | assumption | refine below_step ?_ (by assumption) | refine below_alloc ?_ _ | refine below_drewN ?_ _ | refine Below.drew ?_ | refine Below.setCell ?_ (by first | (simp; done) | omega | (simp; omega)) _))))
      clear hK K' hHd0
      (try simp only [Act.put, List.setIfInBounds_toArray, List.set_cons_zero, List.set_cons_succ])
      refine heldT (i := 9) rfl (by kernel_rfl) (by kernel_rfl) (by kernel_rfl) (fun _ _ _ h => h) (by rfl) (v := ?_) ?_ (by assumption) ?_
      rotate_left
      · (intro w hSw; (try dsimp only at hSw); go_simp; try (with_reducible rfl))
      (try simp only [Act.put, List.setIfInBounds_toArray, List.set_cons_zero, List.set_cons_succ])
      refine wpAnyH_done (by kernel_rfl) ?_ _
      go_wp2
      go_roundw
      case rel => exact ⟨k + 1, by omega, by go_num, below_step hbr (by (repeat (first | exact Below.refl _ _ | assumption | refine below_step ?_ (by assumption) | refine below_alloc ?_ _ | refine below_drewN ?_ _ | refine Below.drew ?_ | refine Below.setCell ?_ (by first | (simp; done) | omega | (simp; omega)) _)))⟩
      case measure => simp [intOf]; omega
    · obtain rfl : k = ps.length := by omega
      go_wp2
      go_ret
      exact ⟨rfl, hbr⟩
def mks (n : Nat) : List (Int × Int) := (List.range n).map fun (i : Nat) => (1 + 2 * (i : Int), 2 + 2 * (i : Int))
theorem mks_len (n : Nat) : (mks n).length = n := by simp [mks]
theorem mks_get {n j : Nat} (h : j < n) : (mks n)[j]? = some (1 + 2 * (j : Int), 2 + 2 * (j : Int)) := by simp [mks, h]
theorem marks_two (m : Int) : marks m 2 = [m, m + 1] := by simp [marks, List.range_succ]
set_option maxHeartbeats 2000000 in
theorem laws_heldIntSS (A : Option Addr) (cap B n : Nat) (w : World) (hA : RSS w B A (mks n)) (hn : n ≤ 100000) :
    Calls Try.prog 28 #[.slice A n cap, .int .i64 1] w fun e w' => e = .returned (.int .i64 (1 + 2 * (n : Int))) ∧ w = w' := by
  go_enter Try.func28, Try.ntmps28
  go_wp2
  go_loopw [1, 5] (fun q i wr => ∃ k : Nat, k ≤ n ∧ i = .int .i64 k ∧ q = .int .i64 (1 + 2 * (k : Int)) ∧ w = wr) (fun _ i _ => n - (intOf i).toNat)
  case atStart => exact ⟨0, Nat.zero_le _, rfl, by simp, rfl⟩
  case round =>
    obtain ⟨k, hk, rfl, rfl, rfl⟩ := hrel
    by_cases hlt : k < n
    · obtain ⟨g1, i1, rfl, p1, p2, p3, p4, p5⟩ := hA k _ _ (mks_get hlt)
      have f1 := RSS.fat p4 p5
      have hc := laws_heldIntS (some ⟨i1, 0, none⟩) 2 2 (1 + 2 * (k : Int)) w (by rw [marks_two, show 1 + 2 * (k : Int) + 1 = 2 + 2 * (k : Int) by omega]; exact f1) (by omega) (by omega) (by omega)
      unfold slv at p3
      clear p4 p5 f1
      have hneg : ¬ (1 + 2 * (k : Int) + 2 < 0) := by omega
      go_wp2_with fail
      refine hc.mono ?_
      rintro e _ ⟨rfl, rfl⟩
      go_wp2
      go_roundw
      case rel => exact ⟨k + 1, by omega, by go_num, by go_num, by first | rfl | trivial⟩
      case measure => simp [intOf]; omega
    · obtain rfl : k = n := by omega
      go_wp2
      go_ret
      exact ⟨rfl, rfl⟩
end Go.Proofs.Ytianfakgojmnpaa

/- Drawn armies: distinct soldiers near the middle. -/
import Derived.Test.YtianfakgojmnpaaDraw
import Derived.Test.YtianfakgojmnpaaSoldiers
import Derived.Test.YtianfakgojmnpaaHeld
namespace Go.Proofs.Ytianfakgojmnpaa
open Go.RowKit

def goodA (zs : List (Int × Int)) : Prop := zs.Nodup ∧ ∀ s, s ∈ zs → -3 ≤ s.1 ∧ s.1 ≤ 3 ∧ 0 ≤ s.2 ∧ s.2 ≤ 3
theorem goodA_snoc {zs : List (Int × Int)} {p q : Int} (h : goodA zs) (hn : (p, q) ∉ zs) (h1 : -3 ≤ p ∧ p ≤ 3 ∧ 0 ≤ q ∧ q ≤ 3) : goodA (zs ++ [(p, q)]) := by
  refine ⟨?_, ?_⟩
  · rw [List.nodup_append]
    refine ⟨h.1, by simp, ?_⟩
    intro a ha b hb e
    simp at hb
    subst hb e
    exact hn ha
  · intro s hs
    rw [List.mem_append] at hs
    rcases hs with hs | hs
    · exact h.2 s hs
    · simp at hs; subst hs; exact h1
theorem mem_take_succA {zs : List (Int × Int)} {z p : Int × Int} {j : Nat} (h : zs[j]? = some z) : decide (p ∈ zs.take (j + 1)) = (decide (p ∈ zs.take j) || decide (z = p)) := by
  rw [List.take_add_one, h, Bool.eq_iff_iff]
  simp only [decide_eq_true_eq, Bool.or_eq_true, List.mem_append, Option.toList_some, List.mem_singleton]
  exact ⟨fun h => h.imp id Eq.symm, fun h => h.imp id Eq.symm⟩
theorem madeSA {V : World} {s : Nat} (e : TypeId) : (V.alloc (.cells #[] e)).ownsRow V.heap.size e s (.slice (some ⟨V.heap.size, 0, none⟩) 0 0) 0 [] :=
  World.ownsRow_made _ _ _ (Nat.le_refl _) (by simp [maxLen]) (by simp)
theorem own_notg {w : World} {lo e s n g : Nat} {v : Value} {c : List Value} (h : w.ownsRow lo e s v n c) (hg : g < lo) : v.ownBlock = none ∨ v.ownBlock ≠ some g := by
  cases hv : v.ownBlock with
  | none => exact .inl rfl
  | some k => exact .inr fun e => by injection e with e; have := (h.lt k hv).1; omega
theorem gr_own {a b c : World} {g : Nat} {row : Option Nat} (h : a.grownBy b (some g)) (k : b.grownBy c row) (hr : ∀ j, row = some j → a.heap.size ≤ j) : a.grownBy c (some g) :=
  ⟨k.os.trans h.os, k.tape.trans h.tape, k.output.trans h.output, Nat.le_trans h.size k.size, fun i hi hne => (k.block i (Nat.lt_of_lt_of_le hi h.size) (fun e => by have := hr i e.symm; omega)).trans (h.block i hi hne)⟩

/-- one soldier more, appended to a slice of the call's own -/
theorem append_soldierA {ops : Array Oper} {rest : List Oper} {o : Oper} {a : Act} {Q : Exit → Act → World → Prop} {T : TypeId} (hT : Try.prog.underlying T = some (.slice 37)) (lo : Nat) (w : World) (hgd : o.guard = none) (s x : Operand)
    (ho : o.op = .call { callee := .builtin .append, args := #[s, x], argTypes := #[T, T] }) (v : Value) (n : Nat) (zs : List (Int × Int)) (p q : Int) (hs : a.eval s = v)
    (hown : w.ownsRow lo 37 2 v n (ints (sflat zs))) (hx : a.eval x = .slice (some ⟨w.heap.size, 0, none⟩) 1 1) (hn : n ≤ 4294967296) (hlo : lo ≤ w.heap.size)
    (h : ∀ v' w', w'.ownsRow lo 37 2 v' (n + 1) (ints (sflat (zs ++ [(p, q)]))) → (w.alloc (.cells #[.int .i64 p, .int .i64 q] 37)).grownBy w' v.ownBlock → wpList Try.prog ops Q rest (a.put o.dst v') w') :
    wpList Try.prog ops Q (o :: rest) a (w.alloc (.cells #[.int .i64 p, .int .i64 q] 37)) := by
  obtain ⟨i0, hi, hz0, hz1, hz2⟩ := info_parts soldier_info
  refine wpList_append_own _ hgd s x T ho lo 37 i0 (.agg #[.int .i64 0, .int .i64 0]) 2 16 hT hi hz0 hz1 hz2 rfl (by decide) v n (ints (sflat zs)) hs (hown.alloc _) ⟨w.heap.size, 0, none⟩ 1 1 [.int .i64 p, .int .i64 q] hx rfl ?_ ?_ ?_ ?_ ?_ ?_
  · intro j u hj
    match j, hj with
    | 0, hj => simp at hj; subst hj; simp [Addr.add]
    | 1, hj => simp at hj; subst hj; simp [Addr.add]
  · intro u hu; simp at hu; rcases hu with rfl | rfl <;> rfl
  · simp only [maxLen]; omega
  · omega
  · simp; omega
  · intro v' w' hown' hgrow _
    exact h v' w' (by rw [sflat_append, ints_append]; exact hown') hgrow

set_option maxHeartbeats 4000000 in
theorem spec_l13Army (g B : Nat) (w : World) (hc : CurAt B w g) :
    Calls Try.prog 70 #[.pointer (some ⟨g, 0, none⟩)] w fun e w' => ∃ A cap zs, e = .returned (.slice A zs.length cap) ∧ w'.ownsRow w.heap.size 37 2 (.slice A zs.length cap) zs.length (ints (sflat zs)) ∧ goodA zs ∧ zs.length ≤ 23 ∧ CurAt B w' g ∧ w.grownBy w' (some g) := by
  have hg := hc.1
  have hgB := hc.2.1
  have hown := madeSA (V := w) (s := 2) 37
  have hgr : w.grownBy (w.alloc (.cells #[] 37)) (some g) := gr_alloc (gr_refl _ _) _
  have hcA := hc.below (below_one w (.cells #[] 37))
  go_enter Try.func70, Try.ntmps70
  go_wp2_with fail
  refine (spec_l01Below g B _ _ hcA (by omega) (by omega)).mono ?_
  rintro e w1 ⟨nn, rfl, nn0, nn1, hc1, hg1⟩
  replace hown := hown.kept hg1 (own_notg hown hg)
  replace hgr := gr_trans hgr hg1
  clear hcA hg1 hc
  go_wp2
  go_loopw [3, 5] (fun v i wr => ∃ (k : Nat) (zs : List (Int × Int)), (k : Int) ≤ nn ∧ i = .int .i64 k ∧ wr.ownsRow w.heap.size 37 2 v zs.length (ints (sflat zs)) ∧ CurAt B wr g ∧ w.grownBy wr (some g) ∧ goodA zs ∧ zs.length ≤ k) (fun _ i _ => (nn - intOf i).toNat)
  case atStart => exact ⟨0, [], by omega, rfl, by simpa [sflat, ints] using hown, hc1, hgr, ⟨by simp, by simp⟩, by simp⟩
  case round =>
    clear hown hgr hc1
    obtain ⟨k, zs, hk, rfl, hown, hc, hgr, hgood, hlen⟩ := hrel
    have hgood := Lib.hid hgood
    obtain ⟨A, cap, rfl⟩ := own_shape hown
    by_cases hlt : (k : Int) < nn
    · go_wp2_with fail
      refine (spec_l01Below g B _ _ hc (by omega) (by omega)).mono ?_
      rintro e w2 ⟨p, rfl, p0, p1, hc2, hg2⟩
      replace hown := hown.kept hg2 (own_notg hown hg)
      replace hgr := gr_trans hgr hg2
      clear hg2 hc
      go_wp2_with fail
      refine (spec_l01Below g B _ _ hc2 (by omega) (by omega)).mono ?_
      rintro e w3 ⟨q, rfl, q0, q1, hc3, hg3⟩
      replace hown := hown.kept hg3 (own_notg hown hg)
      replace hgr := gr_trans hgr hg3
      clear hg3 hc2
      go_wp2
      generalize hU : w3.alloc (.cells #[.int .i64 (p - 3), .int .i64 q] 37) = U
      have hcU : CurAt B U g := by subst hU; exact hc3.below (below_one _ _)
      have hgU : w.grownBy U (some g) := by subst hU; exact gr_alloc hgr _
      have hoU := by have := hown.alloc (.cells #[.int .i64 (p - 3), .int .i64 q] 37); rw [hU] at this; exact this
      have zU : w3.heap.size < U.heap.size := by subst hU; simp
      have s0 : U.cell? ⟨w3.heap.size, 0, none⟩ = some (.int .i64 (p - 3)) := by subst hU; simp
      have s1 : U.cell? ⟨w3.heap.size, 1, none⟩ = some (.int .i64 q) := by subst hU; simp
      clear hU hown hgr hc3
      obtain ⟨P, hP⟩ : ∃ P, p - 3 = P := ⟨_, rfl⟩
      rw [hP] at s0
      have HP := Lib.hid hP
      clear hP
      go_loopw [7, 8] (fun sm i wr => ∃ j : Nat, j ≤ zs.length ∧ i = .int .i64 j ∧ sm = .bool (decide ((P, q) ∈ zs.take j)) ∧ Below U.heap.size U wr) (fun _ i _ => zs.length - (intOf i).toNat)
      case atStart => exact ⟨0, Nat.zero_le _, rfl, by simp, Below.refl _ _⟩
      case round =>
        obtain ⟨j, hj, rfl, rfl, hb⟩ := hrel
        by_cases hjl : j < zs.length
        · obtain ⟨⟨x, y⟩, hz⟩ : ∃ z, zs[j]? = some z := ⟨_, List.getElem?_eq_getElem hjl⟩
          obtain ⟨g1, g2⟩ := sflat_get hz
          have hF := FAt_of_own hoU
          obtain ⟨b, off, rfl, hx1⟩ := hF _ _ g1
          obtain ⟨_, _, e2, hx2⟩ := hF _ _ g2
          injection e2 with e2; injection e2 with e3 e4; subst e3 e4
          rw [← Nat.add_assoc] at hx2
          have hb0 := World.block_lt_of_cell? U _ hx1
          have K2 : Hid (∀ w', Below U.heap.size U w' → Below U.heap.size U w' ∧ w'.cell? ⟨w3.heap.size, 0, none⟩ = some (.int .i64 P) ∧ w'.cell? ⟨w3.heap.size, 1, none⟩ = some (.int .i64 q) ∧ w'.cell? ⟨b, off + j * 2, none⟩ = some (.int .i64 x) ∧ w'.cell? ⟨b, off + j * 2 + 1, none⟩ = some (.int .i64 y)) := fun w' hB => ⟨hB, bel_cell hB zU s0, bel_cell hB zU s1, bel_cell hB hb0 hx1, bel_cell hB hb0 hx2⟩
          have HZ := Lib.hid (mem_take_succA (p := (P, q)) hz)
          clear hz g1 g2 hF hx1 hx2
          obtain ⟨r, hr⟩ : ∃ r, decide ((P, q) ∈ zs.take j) = r := ⟨_, rfl⟩
          rw [hr]
          have HR := Lib.hid hr
          clear hr
          cases r
          · go_wp2_with fail
            refine wp_region_held_drew (S := (fun w' => Below U.heap.size U w' ∧ w'.cell? ⟨w3.heap.size, 0, none⟩ = some (.int .i64 P) ∧ w'.cell? ⟨w3.heap.size, 1, none⟩ = some (.int .i64 q) ∧ w'.cell? ⟨b, off + j * 2, none⟩ = some (.int .i64 x) ∧ w'.cell? ⟨b, off + j * 2 + 1, none⟩ = some (.int .i64 y))) (by kernel_rfl) ?_ (fun hHd0 => ?_)
            · (refine K2.out _ ?_; exact hb.drew)
            refine heldT (i := 0) rfl (by kernel_rfl) (by kernel_rfl) (by kernel_rfl) (fun _ _ _ h => h) (by rfl) (v := ?_) ?_ (by assumption) ?_
            rotate_left
            · (intro w hSw; (try dsimp only at hSw); go_simp; try (with_reducible rfl))
            (try simp only [Act.put, List.setIfInBounds_toArray, List.set_cons_zero, List.set_cons_succ])
            refine heldT (i := 1) rfl (by kernel_rfl) (by kernel_rfl) (by kernel_rfl) (fun _ _ _ h => h) (by rfl) (v := ?_) ?_ (by assumption) ?_
            rotate_left
            · (intro w hSw; (try dsimp only at hSw); go_simp; try (with_reducible rfl))
            (try simp only [Act.put, List.setIfInBounds_toArray, List.set_cons_zero, List.set_cons_succ])
            refine heldT (i := 2) rfl (by kernel_rfl) (by kernel_rfl) (by kernel_rfl) (fun _ _ _ h => h) (by rfl) (v := ?_) ?_ (by assumption) ?_
            rotate_left
            · (intro w hSw; (try dsimp only at hSw); go_simp; try (with_reducible rfl))
            (try simp only [Act.put, List.setIfInBounds_toArray, List.set_cons_zero, List.set_cons_succ])
            refine heldT (i := 3) rfl (by kernel_rfl) (by kernel_rfl) (by kernel_rfl) (fun _ _ _ h => h) (by rfl) (v := ?_) ?_ (by assumption) ?_
            rotate_left
            · (intro w hSw; (try dsimp only at hSw); go_simp; try (with_reducible rfl))
            (try simp only [Act.put, List.setIfInBounds_toArray, List.set_cons_zero, List.set_cons_succ])
            refine heldT (i := 4) rfl (by kernel_rfl) (by kernel_rfl) (by kernel_rfl) (fun _ _ _ h => h) (by rfl) (v := ?_) ?_ (by assumption) ?_
            rotate_left
            · (intro w hSw; (try dsimp only at hSw); go_simp; try (with_reducible rfl))
            (try simp only [Act.put, List.setIfInBounds_toArray, List.set_cons_zero, List.set_cons_succ])
            refine heldT (i := 5) rfl (by kernel_rfl) (by kernel_rfl) (by kernel_rfl) (fun _ _ _ h => h) (by rfl) (v := ?_) ?_ (by assumption) ?_
            rotate_left
            · (intro w hSw; (try dsimp only at hSw); go_simp; try (with_reducible rfl))
            (try simp only [Act.put, List.setIfInBounds_toArray, List.set_cons_zero, List.set_cons_succ])
            refine heldT (i := 6) rfl (by kernel_rfl) (by kernel_rfl) (by kernel_rfl) (fun _ _ _ h => h) (by rfl) (v := ?_) ?_ (by assumption) ?_
            rotate_left
            · (intro w hSw; (try dsimp only at hSw); go_simp; try (with_reducible rfl))
            (try simp only [Act.put, List.setIfInBounds_toArray, List.set_cons_zero, List.set_cons_succ])
            refine heldT (i := 7) rfl (by kernel_rfl) (by kernel_rfl) (by kernel_rfl) (fun _ _ _ h => h) (by rfl) (v := .bool (decide (x = P) && decide (y = q))) ?_ (by assumption) ?_
            · (intro w hSw; (try dsimp only at hSw); go_simp; (by_cases h1 : x = P <;> by_cases h2 : y = q <;> simp [h1, h2]))
            (try simp only [Act.put, List.setIfInBounds_toArray, List.set_cons_zero, List.set_cons_succ])
            refine heldT (i := 8) rfl (by kernel_rfl) (by kernel_rfl) (by kernel_rfl) (fun _ _ _ h => h) (by rfl) (v := ?_) ?_ (by assumption) ?_
            rotate_left
            · (intro w hSw; (try dsimp only at hSw); go_simp; try (with_reducible rfl))
            (try simp only [Act.put, List.setIfInBounds_toArray, List.set_cons_zero, List.set_cons_succ])
            refine heldT (i := 9) rfl (by kernel_rfl) (by kernel_rfl) (by kernel_rfl) (fun _ _ _ h => h) (by rfl) (v := ?_) ?_ (by assumption) ?_
            rotate_left
            · (intro w hSw; (try dsimp only at hSw); go_simp; try (with_reducible rfl))
            (try simp only [Act.put, List.setIfInBounds_toArray, List.set_cons_zero, List.set_cons_succ])
            refine wpAnyH_done (by kernel_rfl) ?_ _
            go_wp2
            go_roundw
            case rel => exact ⟨j + 1, by omega, by go_num, by rw [HZ.out, HR.out]; simp, hb.drew⟩
            case measure => simp [intOf]; omega
          · go_wp2_with fail
            refine wp_region_held_drew (S := (fun w' => Below U.heap.size U w' ∧ w'.cell? ⟨w3.heap.size, 0, none⟩ = some (.int .i64 P) ∧ w'.cell? ⟨w3.heap.size, 1, none⟩ = some (.int .i64 q) ∧ w'.cell? ⟨b, off + j * 2, none⟩ = some (.int .i64 x) ∧ w'.cell? ⟨b, off + j * 2 + 1, none⟩ = some (.int .i64 y))) (by kernel_rfl) ?_ (fun hHd0 => ?_)
            · (refine K2.out _ ?_; exact hb.drew)
            refine heldT (i := 0) rfl (by kernel_rfl) (by kernel_rfl) (by kernel_rfl) (fun _ _ _ h => h) (by rfl) (v := ?_) ?_ (by assumption) ?_
            rotate_left
            · (intro w hSw; (try dsimp only at hSw); go_simp; try (with_reducible rfl))
            (try simp only [Act.put, List.setIfInBounds_toArray, List.set_cons_zero, List.set_cons_succ])
            refine heldT (i := 1) rfl (by kernel_rfl) (by kernel_rfl) (by kernel_rfl) (fun _ _ _ h => h) (by rfl) (v := ?_) ?_ (by assumption) ?_
            rotate_left
            · (intro w hSw; (try dsimp only at hSw); go_simp; try (with_reducible rfl))
            (try simp only [Act.put, List.setIfInBounds_toArray, List.set_cons_zero, List.set_cons_succ])
            refine heldU (i := 2) rfl (by kernel_rfl) (by kernel_rfl) (by kernel_rfl) (fun _ _ _ h => h) (by rfl) (by assumption) ?_
            (try simp only [Act.put, List.setIfInBounds_toArray, List.set_cons_zero, List.set_cons_succ])
            refine heldU (i := 3) rfl (by kernel_rfl) (by kernel_rfl) (by kernel_rfl) (fun _ _ _ h => h) (by rfl) (by assumption) ?_
            (try simp only [Act.put, List.setIfInBounds_toArray, List.set_cons_zero, List.set_cons_succ])
            refine heldU (i := 4) rfl (by kernel_rfl) (by kernel_rfl) (by kernel_rfl) (fun _ _ _ h => h) (by rfl) (by assumption) ?_
            (try simp only [Act.put, List.setIfInBounds_toArray, List.set_cons_zero, List.set_cons_succ])
            refine heldU (i := 5) rfl (by kernel_rfl) (by kernel_rfl) (by kernel_rfl) (fun _ _ _ h => h) (by rfl) (by assumption) ?_
            (try simp only [Act.put, List.setIfInBounds_toArray, List.set_cons_zero, List.set_cons_succ])
            refine heldU (i := 6) rfl (by kernel_rfl) (by kernel_rfl) (by kernel_rfl) (fun _ _ _ h => h) (by rfl) (by assumption) ?_
            (try simp only [Act.put, List.setIfInBounds_toArray, List.set_cons_zero, List.set_cons_succ])
            refine heldU (i := 7) rfl (by kernel_rfl) (by kernel_rfl) (by kernel_rfl) (fun _ _ _ h => h) (by rfl) (by assumption) ?_
            (try simp only [Act.put, List.setIfInBounds_toArray, List.set_cons_zero, List.set_cons_succ])
            refine heldT (i := 8) rfl (by kernel_rfl) (by kernel_rfl) (by kernel_rfl) (fun _ _ _ h => h) (by rfl) (v := ?_) ?_ (by assumption) ?_
            rotate_left
            · (intro w hSw; (try dsimp only at hSw); go_simp; try (with_reducible rfl))
            (try simp only [Act.put, List.setIfInBounds_toArray, List.set_cons_zero, List.set_cons_succ])
            refine heldT (i := 9) rfl (by kernel_rfl) (by kernel_rfl) (by kernel_rfl) (fun _ _ _ h => h) (by rfl) (v := ?_) ?_ (by assumption) ?_
            rotate_left
            · (intro w hSw; (try dsimp only at hSw); go_simp; try (with_reducible rfl))
            (try simp only [Act.put, List.setIfInBounds_toArray, List.set_cons_zero, List.set_cons_succ])
            refine wpAnyH_done (by kernel_rfl) ?_ _
            go_wp2
            go_roundw
            case rel => exact ⟨j + 1, by omega, by go_num, by rw [HZ.out, HR.out]; simp, hb.drew⟩
            case measure => simp [intOf]; omega
        · obtain rfl : j = zs.length := by omega
          rw [List.take_length]
          have hcW := hcU.below hb
          have hoW := own_below hoU hb
          have hgW := gr_below hgU hb
          have t0 := bel_cell hb zU s0
          have t1 := bel_cell hb zU s1
          have zW := Nat.lt_of_lt_of_le zU hb.size
          by_cases hm : (P, q) ∈ zs
          · have hd : decide ((P, q) ∈ zs) = true := by simp [hm]
            rw [hd]
            clear hd
            go_wp2
            go_roundw
            case rel => exact ⟨k + 1, zs, by omega, by go_num, hoW, hcW, hgW, hgood.out, by omega⟩
            case measure => simp [intOf]; omega
          · have hd : decide ((P, q) ∈ zs) = false := by simp [hm]
            rw [hd]
            clear hd
            go_wp2_with (at_builtin; refine append_soldierA Try.underlying24 w.heap.size _ rfl _ _ rfl _ zs.length zs P q (by rfl) hoW (by rfl) (by omega) (by have := hgW.size; omega) ?_; intro v' w' hown' hgrow')
            have hc' := (hcW.below (below_one _ _)).grown hgrow' (fun i hi => by have := (hoW.lt i hi).1; omega)
            have hgr' := gr_own (gr_alloc hgW _) hgrow' (fun i hi => (hoW.lt i hi).1)
            have HM := Lib.hid hm
            go_wp2
            go_roundw
            case rel => exact ⟨k + 1, zs ++ [(P, q)], by omega, by go_num, by rw [List.length_append]; exact hown', hc', hgr', goodA_snoc hgood.out HM.out (by have := HP.out; omega), by simp; omega⟩
            case measure => simp [intOf]; omega
    · go_wp2
      go_ret
      exact ⟨A, cap, zs, rfl, hown, hgood.out, by omega, hc, hgr⟩
set_option maxHeartbeats 1000000 in
theorem spec_DrawArmy (A : Option Addr) (n cap : Nat) (w : World) (hc : Bytes w A n) (hn : n ≤ 4294967296) :
    Calls Try.prog 11 #[.slice A n cap] w fun e w' => ∃ D c zs, e = .returned (.slice D zs.length c) ∧ w'.ownsRow w.heap.size 37 2 (.slice D zs.length c) zs.length (ints (sflat zs)) ∧ goodA zs ∧ zs.length ≤ 23 ∧ Below w.heap.size w w' := by
  go_enter Try.func11, Try.ntmps11
  go_wp2_with fail
  refine (spec_l01New _ _ _ _ hc hn).mono ?_
  rintro e w1 ⟨g, rfl, hgV, hc1, hb1⟩
  go_wp2_with fail
  refine (spec_l13Army g _ _ hc1).mono ?_
  rintro e w2 ⟨D, c, zs, rfl, ho, hgood, hl, hc2, hg2⟩
  have hb2 := below_gr hb1 hb1.size hg2 hgV
  replace ho := own_lower ho hb1.size
  go_wp2
  go_ret
  exact ⟨D, c, zs, rfl, ho, hgood, hl, hb2⟩
end Go.Proofs.Ytianfakgojmnpaa

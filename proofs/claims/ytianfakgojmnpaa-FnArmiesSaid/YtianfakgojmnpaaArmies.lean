/- No army reaches the fifth row: the walk. -/
import Derived.Test.YtianfakgojmnpaaArmyM
import Derived.Test.YtianfakgojmnpaaLiftC
import Derived.Deep.DeepCutAuto
namespace Go.Proofs.Ytianfakgojmnpaa
open Go.RowKit
attribute [local go_sem ↓] Go.wp_at_zero Go.wp_at_succ

theorem own_capA {w : World} {lo e s n cap : Nat} {A : Option Addr} {cs : List Value} (h : w.ownsRow lo e s (.slice A n cap) n cs) : n ≤ cap := by
  rcases h.2 with ⟨_, rfl⟩ | ⟨g, cap', cur, h, _, _, hle, _⟩
  · exact Nat.zero_le _
  · injection h with _ _ h; omega
theorem calls_isI {P : Program} {f : FuncId} {args : Array Value} {w : World} {a b : Int} {R : World → Prop} (h : Calls P f args w fun e w' => e = .returned (.int .i64 a) ∧ R w') (e1 : a = b) :
    Calls P f args w fun e w' => e = .returned (.int .i64 b) ∧ R w' := by subst e1; exact h
theorem calls_isG {P : Program} {f : FuncId} {args : Array Value} {w : World} {a b p q : Int} {R : World → Prop} (h : Calls P f args w fun e w' => e = .returned (.agg #[.int .i64 a, .int .i64 b]) ∧ R w') (e1 : a = p) (e2 : b = q) :
    Calls P f args w fun e w' => e = .returned (.agg #[.int .i64 p, .int .i64 q]) ∧ R w' := by subst e1 e2; exact h
theorem calls_isT {P : Program} {f : FuncId} {args : Array Value} {w : World} {a b p q : Int} {r : Bool} {R : World → Prop} (h : Calls P f args w fun e w' => e = .returned (.tuple #[.agg #[.int .i64 a, .int .i64 b], .bool r]) ∧ R w') (e1 : a = p) (e2 : b = q) :
    Calls P f args w fun e w' => e = .returned (.tuple #[.agg #[.int .i64 p, .int .i64 q], .bool r]) ∧ R w' := by subst e1 e2; exact h
section
variable {P : Program} {l : List Oper} {Q : Exit → Act → World → Prop} {md : Region.Mode} {S : World → Prop}
theorem heldC2 {i j : Nat} {oi oj : Oper} {fuel : Nat} {listed : Array Bool} {a : Act} {w : World} (hi : l[i]? = some oi) (hj : l[j]? = some oj)
    (hr : Region.ready md l.toArray listed = [i, j])
    (h : ∀ K' : Act → World → Prop, Shut (∀ a w, S w → (S w → wpAnyH P md l.toArray Q S fuel (listed.setIfInBounds i true) a w) → K' a w) → if Region.wanted oi (yielded l.toArray a.tmps) = true then Oper.wp P oi a w K' Q else K' (a.put oi.dst undef) w)
    (h2 : ∀ K' : Act → World → Prop, Shut (∀ a w, S w → (S w → wpAnyH P md l.toArray Q S fuel (listed.setIfInBounds j true) a w) → K' a w) → if Region.wanted oj (yielded l.toArray a.tmps) = true then Oper.wp P oj a w K' Q else K' (a.put oj.dst undef) w) :
    wpAnyH P md l.toArray Q S (fuel + 1) listed a w :=
  wpAnyH_ready hr (by simp) (AllReadyH.cons (by rw [List.getElem?_toArray]; exact hi) h (AllReadyH.cons (by rw [List.getElem?_toArray]; exact hj) h2 AllReadyH.nil))
end
theorem cellb_lt4 {w : World} {b o : Nat} {v : Value} (h : w.cell? ⟨b, o, none⟩ = some v) : b < w.heap.size := World.block_lt_of_cell? w _ h
theorem gr_frozenA {w w' : World} {g b o : Nat} (h : w.grownBy w' (some g)) (hb : b < w.heap.size) (hne : b ≠ g) : w'.frozen? ⟨b, o, none⟩ = w.frozen? ⟨b, o, none⟩ :=
  World.frozen?_of_block (h.block b hb (by simpa using hne))
theorem gr_setOwn {a w : World} {g : Nat} (h : a.grownBy w (some g)) (x y : Value) : a.grownBy ((w.setCell ⟨g, 0, none⟩ x).setCell ⟨g, 1, none⟩ y) (some g) := gr_set (gr_set h _ _) _ _
theorem set2A {w : World} {g : Nat} {x y u v : Value} (h0 : w.cell? ⟨g, 0, none⟩ = some u) (h1 : w.cell? ⟨g, 1, none⟩ = some v) :
    ((w.setCell ⟨g, 0, none⟩ x).setCell ⟨g, 1, none⟩ y).cell? ⟨g, 0, none⟩ = some x ∧ ((w.setCell ⟨g, 0, none⟩ x).setCell ⟨g, 1, none⟩ y).cell? ⟨g, 1, none⟩ = some y := by
  have e : (w.setCell ⟨g, 0, none⟩ x).cell? ⟨g, 1, none⟩ = some v := by rw [World.cell?_setCell_other _ _ _ _ (by simp)]; exact h1
  exact ⟨by rw [World.cell?_setCell_other _ _ _ _ (by simp)]; exact World.cell?_setCell_same _ _ _ h0, World.cell?_setCell_same _ _ _ e⟩
theorem own_lowg {w w' : World} {lo e s n g : Nat} {v : Value} {c : List Value} (h : w.ownsRow lo e s v n c) (hk : ∀ k, v.ownBlock = some k → k < g) (hg : w.grownBy w' (some g)) : w'.ownsRow lo e s v n c := by
  refine h.kept hg ?_
  cases hv : v.ownBlock with
  | none => exact .inl rfl
  | some k => exact .inr fun e => by injection e with e; have := hk k hv; omega

/-- what FnArmies asks of a drawn army -/
structure Armies (zs : List (Int × Int)) (l n t : Int) (r : Bool) (s1 s2 : Int) : Prop where
  ok : armyOk zs = true
  m5 : mayReach zs 5 = false
  ml : mayReach zs l = r
  ln : leastArmy l = n
  m1 : r = true → n ≤ zs.length
  m2 : r = true → 1 < l → mayReach zs (l - 1) = true
  u1 : (armySum zs l).1 = s1
  u2 : (armySum zs l).2 = s2
  ct : compareGold s1 s2 1 0 = t
  rt : decide (0 ≤ t) = r
  f1 : (afold l zs).1 = s1
  f2 : (afold l zs).2 = s2
theorem armies_of {zs : List (Int × Int)} {l : Int} (h : goodA zs) (hl : zs.length ≤ 23) (l0 : 1 ≤ l) (l1 : l ≤ 4) : ∃ n t r s1 s2, Armies zs l n t r s1 s2 := by
  have hok := good_army h hl
  have hin : inB l 1 5 = true := inB_iff.2 (by omega)
  have hs : armySum zs l = afold l zs := by unfold armySum; rw [if_pos hok]
  refine ⟨_, _, _, _, _, hok, may5 h hl, rfl, rfl, may_least h hl l0 l1, fun hm h1 => may_before h hl h1 l1 hm, rfl, rfl, rfl, ?_, by rw [hs], by rw [hs]⟩
  unfold mayReach; rw [hok, hin]; simp
theorem allS_get {k : Nat} (hk : k < 60) : allS[k]? = some (((k % 11 : Nat) : Int) - 5, ((k / 11 : Nat) : Int)) := by simp [allS, hk]
theorem allS_len : allS.length = 60 := by simp [allS]
set_option maxRecDepth 100000 in
set_option maxHeartbeats 8000000 in
theorem law_FnArmies (A : Option Addr) (cap len : Nat) (w : World) (hAm : Bytes w A len ∧ len ≤ maxLen) :
    Calls Try.prog 3 #[.slice A len cap] w fun e w' => e = .returned (.bool true) ∧ Below w.heap.size w w' := by
  obtain ⟨hA, hmax⟩ := hAm
  have hmx : len ≤ 9223372036854775807 := by simp only [maxLen] at hmax; omega
  clear hmax
  by_cases hbig : 1048576 < len
  · have hbd : decide (1048576 < len) = true := by simp [hbig]
    go_enter Try.func3, Try.ntmps3
    go_wp2_with fail
    refine (calls_is (laws_big _ _ _ _ hmx) hbd).mono ?_
    rintro e _ ⟨rfl, rfl⟩
    go_wp2
    go_ret
    exact ⟨rfl, Below.refl _ _⟩
  have hbd : decide (1048576 < len) = false := by simp [hbig]
  have hlen : len ≤ 4294967296 := by omega
  go_enter Try.func3, Try.ntmps3
  have hV := Below.refl w.heap.size w
  go_wp2_with fail
  refine (calls_is (laws_big _ _ _ _ hmx) hbd).mono ?_
  rintro e _ ⟨rfl, rfl⟩
  go_wp2_with fail
  refine (spec_DrawArmy A len cap _ hA hlen).mono ?_
  rintro e w1 ⟨D, c, zs, rfl, oA, hgood, hzl, hb1⟩
  replace hV := below_step hV hb1
  clear hb1
  have hcap := own_capA oA
  have hzn : zs.length ≤ 4294967296 := by omega
  go_wp2_with fail
  refine (laws_at0 A len cap _ (hA.below hV) hlen).mono ?_
  rintro e _ ⟨z, rfl, z0, z1, rfl⟩
  have l0 : 1 ≤ 1 + z % 4 := by omega
  have l1 : 1 + z % 4 ≤ 4 := by omega
  obtain ⟨n, t, r, s1, s2, G⟩ := armies_of hgood hzl l0 l1
  have hgood := Lib.hid hgood
  go_wp2_with fail
  refine (calls_is (impl_MayReach _ _ _ _ _ (FAt_of_own oA) hzn hcap) G.ml).mono ?_
  rintro e w2 ⟨rfl, hb2⟩
  replace hV := below_step hV hb2
  replace oA := own_below oA hb2
  go_wp2_with fail
  refine (calls_isI (impl_LeastArmy _ _) G.ln).mono ?_
  rintro e w3 ⟨rfl, hb3⟩
  replace hV := below_step hV hb3
  replace oA := own_below oA hb3
  clear hb2 hb3
  go_upto_region 7 with fail
  go_cut [60] (fun s60 wx => s60 = .bool false ∧ Below w3.heap.size w3 wx)
  case first =>
    have hrt := G.rt
    have o1 := oA
    cases r
    · go_wp2_with fail
      refine (calls_is (impl_MayReach _ _ _ _ _ (FAt_of_own o1) hzn hcap) G.m5).mono ?_
      rintro e w4 ⟨rfl, hb4⟩
      replace o1 := own_below o1 hb4
      have hU := hb4
      go_wp2_with fail
      refine (calls_is (impl_MayReach _ _ _ _ _ (FAt_of_own o1) hzn hcap) G.ml).mono ?_
      rintro e x1 ⟨rfl, hx1⟩
      replace o1 := own_below o1 hx1
      replace hU := below_step hU hx1
      go_wp2_with fail
      refine (calls_isG (impl_ArmySum _ _ _ _ _ (FAt_of_own o1) hzn hcap) G.u1 G.u2).mono ?_
      rintro e x2 ⟨rfl, hx2⟩
      replace hU := below_step hU hx2
      go_wp2_with fail
      refine (calls_isI (impl_CompareGold _ _ _ _ _) G.ct).mono ?_
      rintro e x3 ⟨rfl, hx3⟩
      replace hU := below_step hU hx3
      go_wp2_with fail
      go_meet
      exact ⟨by first | (simp [hrt]; done) | (simp [hrt]; omega), hU⟩
    · have m1 := G.m1 rfl
      by_cases hl1 : 1 < 1 + z % 4
      · have hl2 : IntKind.i64.wrap (1 + z % 4 - 1) = 1 + z % 4 - 1 := by rw [IntKind.wrap_i64]; omega
        have m2 := G.m2 rfl hl1
        go_wp2_with fail
        refine (calls_is (impl_MayReach _ _ _ _ _ (FAt_of_own o1) hzn hcap) G.m5).mono ?_
        rintro e w4 ⟨rfl, hb4⟩
        replace o1 := own_below o1 hb4
        have hU := hb4
        go_wp2_with fail
        refine (calls_is (impl_MayReach _ _ _ _ _ (FAt_of_own o1) hzn hcap) m2).mono ?_
        rintro e w5 ⟨rfl, hb5⟩
        replace o1 := own_below o1 hb5
        replace hU := below_step hU hb5
        go_wp2_with fail
        refine (calls_is (impl_MayReach _ _ _ _ _ (FAt_of_own o1) hzn hcap) G.ml).mono ?_
        rintro e x1 ⟨rfl, hx1⟩
        replace o1 := own_below o1 hx1
        replace hU := below_step hU hx1
        go_wp2_with fail
        refine (calls_isG (impl_ArmySum _ _ _ _ _ (FAt_of_own o1) hzn hcap) G.u1 G.u2).mono ?_
        rintro e x2 ⟨rfl, hx2⟩
        replace hU := below_step hU hx2
        go_wp2_with fail
        refine (calls_isI (impl_CompareGold _ _ _ _ _) G.ct).mono ?_
        rintro e x3 ⟨rfl, hx3⟩
        replace hU := below_step hU hx3
        go_wp2_with fail
        go_meet
        exact ⟨by first | (simp [hrt]; done) | (simp [hrt]; omega), hU⟩
      · go_wp2_with fail
        refine (calls_is (impl_MayReach _ _ _ _ _ (FAt_of_own o1) hzn hcap) G.m5).mono ?_
        rintro e w4 ⟨rfl, hb4⟩
        replace o1 := own_below o1 hb4
        have hU := hb4
        go_wp2_with fail
        refine (calls_is (impl_MayReach _ _ _ _ _ (FAt_of_own o1) hzn hcap) G.ml).mono ?_
        rintro e x1 ⟨rfl, hx1⟩
        replace o1 := own_below o1 hx1
        replace hU := below_step hU hx1
        go_wp2_with fail
        refine (calls_isG (impl_ArmySum _ _ _ _ _ (FAt_of_own o1) hzn hcap) G.u1 G.u2).mono ?_
        rintro e x2 ⟨rfl, hx2⟩
        replace hU := below_step hU hx2
        go_wp2_with fail
        refine (calls_isI (impl_CompareGold _ _ _ _ _) G.ct).mono ?_
        rintro e x3 ⟨rfl, hx3⟩
        replace hU := below_step hU hx3
        go_wp2_with fail
        go_meet
        exact ⟨by first | (simp [hrt]; done) | (simp [hrt]; omega), hU⟩
  case rest =>
    obtain ⟨rfl, hcut⟩ := hcut
    generalize hwc : wc = C1 at *
    clear hwc
    replace oA := own_below oA hcut
    replace hV := below_step hV hcut
    clear hcut
    go_wp2
    generalize hU : C1.alloc (.cells #[.int .i64 0, .int .i64 0] 31) = U
    have hbU : Below w.heap.size w U := by subst hU; exact below_alloc hV _
    have oU := own_below oA (show Below C1.heap.size C1 U by subst hU; exact below_one _ _)
    have hrow := fun k hk => (oA.lt k hk).2
    have hFC := FAt_of_own oA
    have zU : C1.heap.size < U.heap.size := by subst hU; simp
    have zw : w.heap.size ≤ C1.heap.size := hV.size
    have hCU : Below C1.heap.size C1 U := by subst hU; exact below_one _ _
    have a0 : U.cell? ⟨C1.heap.size, 0, none⟩ = some (.int .i64 0) := by subst hU; simp
    have a1 : U.cell? ⟨C1.heap.size, 1, none⟩ = some (.int .i64 0) := by subst hU; simp
    have f0 : U.frozen? ⟨C1.heap.size, 0, none⟩ = false := by subst hU; simp
    have f1 : U.frozen? ⟨C1.heap.size, 1, none⟩ = false := by subst hU; simp
    clear hU oA hV
    go_loopw [8] (fun i wr => ∃ k : Nat, k ≤ zs.length ∧ i = .int .i64 k ∧ U.grownBy wr (some C1.heap.size) ∧ wr.cell? ⟨C1.heap.size, 0, none⟩ = some (.int .i64 (afold (1 + z % 4) (zs.take k)).1) ∧ wr.cell? ⟨C1.heap.size, 1, none⟩ = some (.int .i64 (afold (1 + z % 4) (zs.take k)).2) ∧ wr.frozen? ⟨C1.heap.size, 0, none⟩ = false ∧ wr.frozen? ⟨C1.heap.size, 1, none⟩ = false) (fun i _ => zs.length - (intOf i).toNat)
    case atStart => exact ⟨0, Nat.zero_le _, rfl, gr_refl _ _, a0, a1, f0, f1⟩
    case round =>
      clear a0 a1 f0 f1
      obtain ⟨k, hk, rfl, hgr, b0, b1, f0, f1⟩ := hrel
      have zR := Nat.lt_of_lt_of_le zU hgr.size
      by_cases hlt : k < zs.length
      · obtain ⟨⟨x, y⟩, hz⟩ : ∃ z, zs[k]? = some z := ⟨_, List.getElem?_eq_getElem hlt⟩
        have e1 : afold (1 + z % 4) (zs.take (k + 1)) = astep (1 + z % 4) (afold (1 + z % 4) (zs.take k)) (x, y) := by
          rw [List.take_add_one, hz, Option.toList_some, afold_snoc]
        have HE1 := Lib.hid (congrArg Prod.fst e1)
        have HE2 := Lib.hid (congrArg Prod.snd e1)
        clear e1
        obtain ⟨g1, g2⟩ := sflat_get hz
        obtain ⟨b, off, rfl, hx1⟩ := hFC _ _ g1
        obtain ⟨_, _, e2, hx2⟩ := hFC _ _ g2
        injection e2 with e2; injection e2 with e3 e4; subst e3 e4
        rw [← Nat.add_assoc] at hx2
        have hb0 := cellb_lt4 hx1
        have hbU2 : b < U.heap.size := by omega
        have hbne : b ≠ C1.heap.size := by omega
        replace hx1 := bel_cell hCU hb0 hx1
        replace hx2 := bel_cell hCU hb0 hx2
        have K2 : Hid (∀ w', U.grownBy w' (some C1.heap.size) → U.grownBy w' (some C1.heap.size) ∧ w'.cell? ⟨b, off + k * 2, none⟩ = some (.int .i64 x) ∧ w'.cell? ⟨b, off + k * 2 + 1, none⟩ = some (.int .i64 y)) := fun w' hB => ⟨hB, (gr_far hB hbU2 hbne).trans hx1, (gr_far hB hbU2 hbne).trans hx2⟩
        generalize afold (1 + z % 4) (zs.take k) = F at *
        generalize hF2 : afold (1 + z % 4) (zs.take (k + 1)) = F2 at *
        have HF2 := Lib.hid hF2
        clear hF2 hx1 hx2 g1 g2 hz
        have G0 := gr_drew hgr
        go_wp2_with fail
        refine wp_region_held_drew (S := (fun w' => U.grownBy w' (some C1.heap.size) ∧ w'.cell? ⟨b, off + k * 2, none⟩ = some (.int .i64 x) ∧ w'.cell? ⟨b, off + k * 2 + 1, none⟩ = some (.int .i64 y))) (by kernel_rfl) ?_ (fun hHd0 => ?_)
        · (refine K2.out _ ?_; exact G0)
        refine heldT (i := 1) rfl (by kernel_rfl) (by kernel_rfl) (by kernel_rfl) (fun _ _ _ h => h) (by rfl) (v := ?_) ?_ (by assumption) ?_
        rotate_left
        · (intro w hSw; (try dsimp only at hSw); go_simp; try (with_reducible rfl))
        (try simp only [Act.put, List.setIfInBounds_toArray, List.set_cons_zero, List.set_cons_succ])
        refine heldT (i := 2) rfl (by kernel_rfl) (by kernel_rfl) (by kernel_rfl) (fun _ _ _ h => h) (by rfl) (v := ?_) ?_ (by assumption) ?_
        rotate_left
        · (intro w hSw; (try dsimp only at hSw); go_simp; try (with_reducible rfl))
        (try simp only [Act.put, List.setIfInBounds_toArray, List.set_cons_zero, List.set_cons_succ])
        refine heldT (i := 3) rfl (by kernel_rfl) (by kernel_rfl) (by kernel_rfl) (fun _ _ _ h => h) (by rfl) (v := ?_) ?_ (by assumption) ?_
        rotate_left
        · (intro w hSw; (try dsimp only at hSw); go_simp; try (with_reducible rfl))
        (try simp only [Act.put, List.setIfInBounds_toArray, List.set_cons_zero, List.set_cons_succ])
        refine heldT (i := 4) rfl (by kernel_rfl) (by kernel_rfl) (by kernel_rfl) (fun _ _ _ h => h) (by rfl) (v := ?_) ?_ (by assumption) ?_
        rotate_left
        · (intro w hSw; (try dsimp only at hSw); go_simp; try (with_reducible rfl))
        (try simp only [Act.put, List.setIfInBounds_toArray, List.set_cons_zero, List.set_cons_succ])
        refine heldT (i := 5) rfl (by kernel_rfl) (by kernel_rfl) (by kernel_rfl) (fun _ _ _ h => h) (by rfl) (v := ?_) ?_ (by assumption) ?_
        rotate_left
        · (intro w hSw; (try dsimp only at hSw); go_simp; try (with_reducible rfl))
        (try simp only [Act.put, List.setIfInBounds_toArray, List.set_cons_zero, List.set_cons_succ])
        refine heldC2 (i := 0) (j := 6) rfl rfl (by kernel_rfl) (fun K' hK => ?_) (fun K' hK => ?_)
        · go_simp
          refine hK.out _ _ ?_ (fun hHd1 => ?_)
          · ((try dsimp only); exact K2.out _ G0)
          clear hK K' hHd0
          (try simp only [Act.put, List.setIfInBounds_toArray, List.set_cons_zero, List.set_cons_succ])
          refine heldC (i := 6) rfl (by kernel_rfl) (fun K' hK => ?_)
          go_simp
          refine (impl_WeightTo _ _ _ _).mono ?_; rintro e w4 ⟨rfl, hb4⟩; have G4 := gr_below G0 hb4; have c0 := bel_cell hb4 zR b0; have c1 := bel_cell hb4 zR b1; have q0 := (hb4.frozen (p := ⟨C1.heap.size, 0, none⟩) zR).trans f0; have q1 := (hb4.frozen (p := ⟨C1.heap.size, 1, none⟩) zR).trans f1; have z4 := Nat.lt_of_lt_of_le zR hb4.size
          (try (go_wp2_with fail))
          refine hK.out _ _ ?_ (fun hHd2 => ?_)
          · ((try dsimp only); (exact K2.out _ G4))
          clear hK K' hHd1
          (try simp only [Act.put, List.setIfInBounds_toArray, List.set_cons_zero, List.set_cons_succ])
          refine heldC (i := 7) rfl (by kernel_rfl) (fun K' hK => ?_)
          go_simp
          refine (calls_isT (spec_AddGold _ _ _ _ _) HE1.out.symm HE2.out.symm).mono ?_; rintro e w5 ⟨rfl, hb5⟩; have G5 := gr_below G4 hb5; have d0 := bel_cell hb5 z4 c0; have d1 := bel_cell hb5 z4 c1; have p0 := (hb5.frozen (p := ⟨C1.heap.size, 0, none⟩) z4).trans q0; have p1 := (hb5.frozen (p := ⟨C1.heap.size, 1, none⟩) z4).trans q1
          (try (go_wp2_with fail))
          refine hK.out _ _ ?_ (fun hHd3 => ?_)
          · ((try dsimp only); (exact K2.out _ G5))
          clear hK K' hHd2
          (try simp only [Act.put, List.setIfInBounds_toArray, List.set_cons_zero, List.set_cons_succ])
          refine heldT (i := 8) rfl (by kernel_rfl) (by kernel_rfl) (by kernel_rfl) (fun _ _ _ h => h) (by rfl) (v := ?_) ?_ (by assumption) ?_
          rotate_left
          · (intro w hSw; (try dsimp only at hSw); go_simp; try (with_reducible rfl))
          (try simp only [Act.put, List.setIfInBounds_toArray, List.set_cons_zero, List.set_cons_succ])
          refine heldT (i := 9) rfl (by kernel_rfl) (by kernel_rfl) (by kernel_rfl) (fun _ _ _ h => h) (by rfl) (v := ?_) ?_ (by assumption) ?_
          rotate_left
          · (intro w hSw; (try dsimp only at hSw); go_simp; try (with_reducible rfl))
          (try simp only [Act.put, List.setIfInBounds_toArray, List.set_cons_zero, List.set_cons_succ])
          refine heldT (i := 10) rfl (by kernel_rfl) (by kernel_rfl) (by kernel_rfl) (fun _ _ _ h => h) (by rfl) (v := ?_) ?_ (by assumption) ?_
          rotate_left
          · (intro w hSw; (try dsimp only at hSw); go_simp; try (with_reducible rfl))
          (try simp only [Act.put, List.setIfInBounds_toArray, List.set_cons_zero, List.set_cons_succ])
          refine heldC (i := 11) rfl (by kernel_rfl) (fun K' hK => ?_)
          go_simp
          skip
          (try (go_wp2_with fail))
          refine hK.out _ _ ?_ (fun hHd4 => ?_)
          · ((try dsimp only); (exact K2.out _ (gr_setOwn G5 _ _)))
          clear hK K' hHd3
          (try simp only [Act.put, List.setIfInBounds_toArray, List.set_cons_zero, List.set_cons_succ])
          refine wpAnyH_done (by kernel_rfl) ?_ _
          go_wp2
          go_roundw
          case rel => exact ⟨k + 1, by omega, by go_num, gr_setOwn G5 _ _, by rw [HF2.out]; exact (set2A d0 d1).1, by rw [HF2.out]; exact (set2A d0 d1).2, by simpa using p0, by simpa using p1⟩
          case measure => simp [intOf]; omega
        · go_simp
          refine (impl_WeightTo _ _ _ _).mono ?_
          rintro e w4 ⟨rfl, hb4⟩
          have G4 := gr_below G0 hb4
          have c0 := bel_cell hb4 zR b0
          have c1 := bel_cell hb4 zR b1
          have q0 := (hb4.frozen (p := ⟨C1.heap.size, 0, none⟩) zR).trans f0
          have q1 := (hb4.frozen (p := ⟨C1.heap.size, 1, none⟩) zR).trans f1
          have z4 := Nat.lt_of_lt_of_le zR hb4.size
          (try (go_wp2_with fail))
          refine hK.out _ _ ?_ (fun hHd1 => ?_)
          · ((try dsimp only); exact K2.out _ G4)
          clear hK K' hHd0
          (try simp only [Act.put, List.setIfInBounds_toArray, List.set_cons_zero, List.set_cons_succ])
          refine heldC (i := 0) rfl (by kernel_rfl) (fun K' hK => ?_)
          go_simp
          skip
          (try (go_wp2_with fail))
          refine hK.out _ _ ?_ (fun hHd2 => ?_)
          · ((try dsimp only); (exact K2.out _ G4))
          clear hK K' hHd1
          (try simp only [Act.put, List.setIfInBounds_toArray, List.set_cons_zero, List.set_cons_succ])
          refine heldC (i := 7) rfl (by kernel_rfl) (fun K' hK => ?_)
          go_simp
          refine (calls_isT (spec_AddGold _ _ _ _ _) HE1.out.symm HE2.out.symm).mono ?_; rintro e w5 ⟨rfl, hb5⟩; have G5 := gr_below G4 hb5; have d0 := bel_cell hb5 z4 c0; have d1 := bel_cell hb5 z4 c1; have p0 := (hb5.frozen (p := ⟨C1.heap.size, 0, none⟩) z4).trans q0; have p1 := (hb5.frozen (p := ⟨C1.heap.size, 1, none⟩) z4).trans q1
          (try (go_wp2_with fail))
          refine hK.out _ _ ?_ (fun hHd3 => ?_)
          · ((try dsimp only); (exact K2.out _ G5))
          clear hK K' hHd2
          (try simp only [Act.put, List.setIfInBounds_toArray, List.set_cons_zero, List.set_cons_succ])
          refine heldT (i := 8) rfl (by kernel_rfl) (by kernel_rfl) (by kernel_rfl) (fun _ _ _ h => h) (by rfl) (v := ?_) ?_ (by assumption) ?_
          rotate_left
          · (intro w hSw; (try dsimp only at hSw); go_simp; try (with_reducible rfl))
          (try simp only [Act.put, List.setIfInBounds_toArray, List.set_cons_zero, List.set_cons_succ])
          refine heldT (i := 9) rfl (by kernel_rfl) (by kernel_rfl) (by kernel_rfl) (fun _ _ _ h => h) (by rfl) (v := ?_) ?_ (by assumption) ?_
          rotate_left
          · (intro w hSw; (try dsimp only at hSw); go_simp; try (with_reducible rfl))
          (try simp only [Act.put, List.setIfInBounds_toArray, List.set_cons_zero, List.set_cons_succ])
          refine heldT (i := 10) rfl (by kernel_rfl) (by kernel_rfl) (by kernel_rfl) (fun _ _ _ h => h) (by rfl) (v := ?_) ?_ (by assumption) ?_
          rotate_left
          · (intro w hSw; (try dsimp only at hSw); go_simp; try (with_reducible rfl))
          (try simp only [Act.put, List.setIfInBounds_toArray, List.set_cons_zero, List.set_cons_succ])
          refine heldC (i := 11) rfl (by kernel_rfl) (fun K' hK => ?_)
          go_simp
          skip
          (try (go_wp2_with fail))
          refine hK.out _ _ ?_ (fun hHd4 => ?_)
          · ((try dsimp only); (exact K2.out _ (gr_setOwn G5 _ _)))
          clear hK K' hHd3
          (try simp only [Act.put, List.setIfInBounds_toArray, List.set_cons_zero, List.set_cons_succ])
          refine wpAnyH_done (by kernel_rfl) ?_ _
          go_wp2
          go_roundw
          case rel => exact ⟨k + 1, by omega, by go_num, gr_setOwn G5 _ _, by rw [HF2.out]; exact (set2A d0 d1).1, by rw [HF2.out]; exact (set2A d0 d1).2, by simpa using p0, by simpa using p1⟩
          case measure => simp [intOf]; omega
      · obtain rfl : k = zs.length := by omega
        rename World => W1
        rw [List.take_length, G.f1] at b0
        rw [List.take_length, G.f2] at b1
        have oR := own_lowg oU hrow hgr
        have hbR : Below w.heap.size w W1 := below_gr hbU hbU.size hgr zw
        clear oU hgr
        have hown := madeSA (V := W1) (s := 2) 37
        have hbel : Below W1.heap.size W1 (W1.alloc (.cells #[] 37)) := below_one _ _
        go_wp2
        go_loopw [9, 10] (fun v i wr => ∃ j : Nat, j ≤ 60 ∧ i = .int .i64 j ∧ wr.ownsRow W1.heap.size 37 2 v j (ints (sflat (allS.take j))) ∧ Below W1.heap.size W1 wr) (fun _ i _ => (60 - intOf i).toNat)
        case atStart => exact ⟨0, by omega, rfl, by simpa [sflat, ints] using hown, hbel⟩
        case round =>
          clear hown hbel
          obtain ⟨j, hj, rfl, hown, hbel⟩ := hrel
          by_cases hlt2 : j < 60
          · have HT : Hid (allS.take (j + 1) = allS.take j ++ [((j : Int) % 11 - 5, (j : Int) / 11)]) := by
              unfold Hid
              rw [List.take_add_one, allS_get hlt2]; rfl
            go_wp2_with (at_builtin; refine append_soldierA Try.underlying24 W1.heap.size _ rfl _ _ rfl _ j (allS.take j) ((j : Int) % 11 - 5) ((j : Int) / 11) (by rfl) hown (by rfl) (by omega) hbel.size ?_; intro v' w' hown' hgrow')
            go_roundw
            case rel => exact ⟨j + 1, by omega, by go_num, by rw [HT.out]; exact hown', (below_alloc hbel _).grown hgrow' (by have := hbel.size; simp; omega) (fun i hi => (hown.lt i hi).1)⟩
            case measure => simp [intOf]; omega
          · obtain rfl : j = 60 := by omega
            rw [show allS.take 60 = allS from by rw [← allS_len]; exact List.take_length] at hown
            have oR2 := own_below oR hbel
            have hF1 := FAt_of_own oR2
            have e60 : allS.length = 60 := allS_len
            obtain ⟨A9, c9, rfl⟩ := own_shape hown
            have cap9 := own_capA hown
            have hF9 := FAt_of_own hown
            have b0' := bel_cell hbel zR b0
            have b1' := bel_cell hbel zR b1
            have zR2 := Nat.lt_of_lt_of_le zR hbel.size
            have hM4 : Hid (∀ w, FAt w A9 (sflat allS) → Calls Try.prog 13 #[.slice A9 60 c9, .int .i64 4] w fun e w' => e = .returned (.bool true) ∧ Below w.heap.size w w') := fun w hF => calls_is (impl_MayReach A9 c9 allS 4 w hF (by rw [allS_len]; omega) (by rw [allS_len]; omega)) all4
            have hM5 : Hid (∀ w, FAt w A9 (sflat allS) → Calls Try.prog 13 #[.slice A9 60 c9, .int .i64 5] w fun e w' => e = .returned (.bool false) ∧ Below w.heap.size w w') := fun w hF => calls_is (impl_MayReach A9 c9 allS 5 w hF (by rw [allS_len]; omega) (by rw [allS_len]; omega)) all5
            clear e60
            have hVV := Below.refl wr.heap.size wr
            have K3 : Hid (∀ w', Below wr.heap.size wr w' → Below wr.heap.size wr w' ∧ w'.cell? ⟨C1.heap.size, 0, none⟩ = some (.int .i64 s1) ∧ w'.cell? ⟨C1.heap.size, 1, none⟩ = some (.int .i64 s2)) := fun w' hB => ⟨hB, bel_cell hB zR2 b0', bel_cell hB zR2 b1'⟩
            go_wp2_with fail
            refine wp_region_held_drew (S := (fun w' => Below wr.heap.size wr w' ∧ w'.cell? ⟨C1.heap.size, 0, none⟩ = some (.int .i64 s1) ∧ w'.cell? ⟨C1.heap.size, 1, none⟩ = some (.int .i64 s2))) (by kernel_rfl) ?_ (fun hHd0 => ?_)
            · (refine K3.out _ ?_; (repeat (first | exact Below.refl _ _ | assumption | refine below_step ?_ (by assumption) | refine below_alloc ?_ _ | refine below_drewN ?_ _ | refine Below.drew ?_ | refine Below.setCell ?_ (by first | (simp; done) | omega | (simp; omega)) _)))
            refine heldT (i := 0) rfl (by kernel_rfl) (by kernel_rfl) (by kernel_rfl) (fun _ _ _ h => h) (by rfl) (v := ?_) ?_ (by assumption) ?_
            rotate_left
            · (intro w hSw; (try dsimp only at hSw); go_simp; try (with_reducible rfl))
            (try simp only [Act.put, List.setIfInBounds_toArray, List.set_cons_zero, List.set_cons_succ])
            refine heldC (i := 1) rfl (by kernel_rfl) (fun K' hK => ?_)
            go_simp
            refine (calls_is (impl_ArmyOk _ _ _ _ (hF1.below (by (repeat (first | exact Below.refl _ _ | assumption | refine below_step ?_ (by assumption) | refine below_alloc ?_ _ | refine below_drewN ?_ _ | refine Below.drew ?_ | refine Below.setCell ?_ (by first | (simp; done) | omega | (simp; omega)) _)))) hzn hcap) G.ok).mono ?_; rintro e y1 ⟨rfl, hy1⟩
            (try (go_wp2_with fail))
            refine hK.out _ _ ?_ (fun hHd1 => ?_)
            · ((try dsimp only); (refine K3.out _ ?_; (repeat (first | exact Below.refl _ _ | assumption | refine below_step ?_ (by assumption) | refine below_alloc ?_ _ | refine below_drewN ?_ _ | refine Below.drew ?_ | refine Below.setCell ?_ (by first | (simp; done) | omega | (simp; omega)) _))))
            clear hK K' hHd0
            (try simp only [Act.put, List.setIfInBounds_toArray, List.set_cons_zero, List.set_cons_succ])
            refine heldT (i := 2) rfl (by kernel_rfl) (by kernel_rfl) (by kernel_rfl) (fun _ _ _ h => h) (by rfl) (v := ?_) ?_ (by assumption) ?_
            rotate_left
            · (intro w hSw; (try dsimp only at hSw); go_simp; try (with_reducible rfl))
            (try simp only [Act.put, List.setIfInBounds_toArray, List.set_cons_zero, List.set_cons_succ])
            refine heldT (i := 3) rfl (by kernel_rfl) (by kernel_rfl) (by kernel_rfl) (fun _ _ _ h => h) (by rfl) (v := ?_) ?_ (by assumption) ?_
            rotate_left
            · (intro w hSw; (try dsimp only at hSw); go_simp; try (with_reducible rfl))
            (try simp only [Act.put, List.setIfInBounds_toArray, List.set_cons_zero, List.set_cons_succ])
            refine heldT (i := 4) rfl (by kernel_rfl) (by kernel_rfl) (by kernel_rfl) (fun _ _ _ h => h) (by rfl) (v := ?_) ?_ (by assumption) ?_
            rotate_left
            · (intro w hSw; (try dsimp only at hSw); go_simp; try (with_reducible rfl))
            (try simp only [Act.put, List.setIfInBounds_toArray, List.set_cons_zero, List.set_cons_succ])
            refine heldT (i := 5) rfl (by kernel_rfl) (by kernel_rfl) (by kernel_rfl) (fun _ _ _ h => h) (by rfl) (v := ?_) ?_ (by assumption) ?_
            rotate_left
            · (intro w hSw; (try dsimp only at hSw); go_simp; try (with_reducible rfl))
            (try simp only [Act.put, List.setIfInBounds_toArray, List.set_cons_zero, List.set_cons_succ])
            refine heldC (i := 6) rfl (by kernel_rfl) (fun K' hK => ?_)
            go_simp
            refine (calls_isG (impl_ArmySum _ _ _ _ _ (hF1.below (by (repeat (first | exact Below.refl _ _ | assumption | refine below_step ?_ (by assumption) | refine below_alloc ?_ _ | refine below_drewN ?_ _ | refine Below.drew ?_ | refine Below.setCell ?_ (by first | (simp; done) | omega | (simp; omega)) _)))) hzn hcap) G.u1 G.u2).mono ?_; rintro e y6 ⟨rfl, hy6⟩
            (try (go_wp2_with fail))
            refine hK.out _ _ ?_ (fun hHd2 => ?_)
            · ((try dsimp only); (refine K3.out _ ?_; (repeat (first | exact Below.refl _ _ | assumption | refine below_step ?_ (by assumption) | refine below_alloc ?_ _ | refine below_drewN ?_ _ | refine Below.drew ?_ | refine Below.setCell ?_ (by first | (simp; done) | omega | (simp; omega)) _))))
            clear hK K' hHd1
            (try simp only [Act.put, List.setIfInBounds_toArray, List.set_cons_zero, List.set_cons_succ])
            refine heldT (i := 7) rfl (by kernel_rfl) (by kernel_rfl) (by kernel_rfl) (fun _ _ _ h => h) (by rfl) (v := ?_) ?_ (by assumption) ?_
            rotate_left
            · (intro w hSw; (try dsimp only at hSw); go_simp; try (with_reducible rfl))
            (try simp only [Act.put, List.setIfInBounds_toArray, List.set_cons_zero, List.set_cons_succ])
            refine heldT (i := 8) rfl (by kernel_rfl) (by kernel_rfl) (by kernel_rfl) (fun _ _ _ h => h) (by rfl) (v := ?_) ?_ (by assumption) ?_
            rotate_left
            · (intro w hSw; (try dsimp only at hSw); go_simp; try (with_reducible rfl))
            (try simp only [Act.put, List.setIfInBounds_toArray, List.set_cons_zero, List.set_cons_succ])
            refine heldT (i := 9) rfl (by kernel_rfl) (by kernel_rfl) (by kernel_rfl) (fun _ _ _ h => h) (by rfl) (v := ?_) ?_ (by assumption) ?_
            rotate_left
            · (intro w hSw; (try dsimp only at hSw); go_simp; try (with_reducible rfl))
            (try simp only [Act.put, List.setIfInBounds_toArray, List.set_cons_zero, List.set_cons_succ])
            refine heldC (i := 10) rfl (by kernel_rfl) (fun K' hK => ?_)
            go_simp
            refine (calls_isI (impl_LeastArmy _ _) (show leastArmy 1 = 2 from rfl)).mono ?_; rintro e y10 ⟨rfl, hy10⟩
            (try (go_wp2_with fail))
            refine hK.out _ _ ?_ (fun hHd3 => ?_)
            · ((try dsimp only); (refine K3.out _ ?_; (repeat (first | exact Below.refl _ _ | assumption | refine below_step ?_ (by assumption) | refine below_alloc ?_ _ | refine below_drewN ?_ _ | refine Below.drew ?_ | refine Below.setCell ?_ (by first | (simp; done) | omega | (simp; omega)) _))))
            clear hK K' hHd2
            (try simp only [Act.put, List.setIfInBounds_toArray, List.set_cons_zero, List.set_cons_succ])
            refine heldT (i := 11) rfl (by kernel_rfl) (by kernel_rfl) (by kernel_rfl) (fun _ _ _ h => h) (by rfl) (v := ?_) ?_ (by assumption) ?_
            rotate_left
            · (intro w hSw; (try dsimp only at hSw); go_simp; try (with_reducible rfl))
            (try simp only [Act.put, List.setIfInBounds_toArray, List.set_cons_zero, List.set_cons_succ])
            refine heldT (i := 12) rfl (by kernel_rfl) (by kernel_rfl) (by kernel_rfl) (fun _ _ _ h => h) (by rfl) (v := ?_) ?_ (by assumption) ?_
            rotate_left
            · (intro w hSw; (try dsimp only at hSw); go_simp; try (with_reducible rfl))
            (try simp only [Act.put, List.setIfInBounds_toArray, List.set_cons_zero, List.set_cons_succ])
            refine heldT (i := 13) rfl (by kernel_rfl) (by kernel_rfl) (by kernel_rfl) (fun _ _ _ h => h) (by rfl) (v := ?_) ?_ (by assumption) ?_
            rotate_left
            · (intro w hSw; (try dsimp only at hSw); go_simp; try (with_reducible rfl))
            (try simp only [Act.put, List.setIfInBounds_toArray, List.set_cons_zero, List.set_cons_succ])
            refine heldC (i := 14) rfl (by kernel_rfl) (fun K' hK => ?_)
            go_simp
            refine (calls_isI (impl_LeastArmy _ _) (show leastArmy 2 = 4 from rfl)).mono ?_; rintro e y14 ⟨rfl, hy14⟩
            (try (go_wp2_with fail))
            refine hK.out _ _ ?_ (fun hHd4 => ?_)
            · ((try dsimp only); (refine K3.out _ ?_; (repeat (first | exact Below.refl _ _ | assumption | refine below_step ?_ (by assumption) | refine below_alloc ?_ _ | refine below_drewN ?_ _ | refine Below.drew ?_ | refine Below.setCell ?_ (by first | (simp; done) | omega | (simp; omega)) _))))
            clear hK K' hHd3
            (try simp only [Act.put, List.setIfInBounds_toArray, List.set_cons_zero, List.set_cons_succ])
            refine heldT (i := 15) rfl (by kernel_rfl) (by kernel_rfl) (by kernel_rfl) (fun _ _ _ h => h) (by rfl) (v := ?_) ?_ (by assumption) ?_
            rotate_left
            · (intro w hSw; (try dsimp only at hSw); go_simp; try (with_reducible rfl))
            (try simp only [Act.put, List.setIfInBounds_toArray, List.set_cons_zero, List.set_cons_succ])
            refine heldT (i := 16) rfl (by kernel_rfl) (by kernel_rfl) (by kernel_rfl) (fun _ _ _ h => h) (by rfl) (v := ?_) ?_ (by assumption) ?_
            rotate_left
            · (intro w hSw; (try dsimp only at hSw); go_simp; try (with_reducible rfl))
            (try simp only [Act.put, List.setIfInBounds_toArray, List.set_cons_zero, List.set_cons_succ])
            refine heldT (i := 17) rfl (by kernel_rfl) (by kernel_rfl) (by kernel_rfl) (fun _ _ _ h => h) (by rfl) (v := ?_) ?_ (by assumption) ?_
            rotate_left
            · (intro w hSw; (try dsimp only at hSw); go_simp; try (with_reducible rfl))
            (try simp only [Act.put, List.setIfInBounds_toArray, List.set_cons_zero, List.set_cons_succ])
            refine heldC (i := 18) rfl (by kernel_rfl) (fun K' hK => ?_)
            go_simp
            refine (calls_isI (impl_LeastArmy _ _) (show leastArmy 3 = 8 from rfl)).mono ?_; rintro e y18 ⟨rfl, hy18⟩
            (try (go_wp2_with fail))
            refine hK.out _ _ ?_ (fun hHd5 => ?_)
            · ((try dsimp only); (refine K3.out _ ?_; (repeat (first | exact Below.refl _ _ | assumption | refine below_step ?_ (by assumption) | refine below_alloc ?_ _ | refine below_drewN ?_ _ | refine Below.drew ?_ | refine Below.setCell ?_ (by first | (simp; done) | omega | (simp; omega)) _))))
            clear hK K' hHd4
            (try simp only [Act.put, List.setIfInBounds_toArray, List.set_cons_zero, List.set_cons_succ])
            refine heldT (i := 19) rfl (by kernel_rfl) (by kernel_rfl) (by kernel_rfl) (fun _ _ _ h => h) (by rfl) (v := ?_) ?_ (by assumption) ?_
            rotate_left
            · (intro w hSw; (try dsimp only at hSw); go_simp; try (with_reducible rfl))
            (try simp only [Act.put, List.setIfInBounds_toArray, List.set_cons_zero, List.set_cons_succ])
            refine heldT (i := 20) rfl (by kernel_rfl) (by kernel_rfl) (by kernel_rfl) (fun _ _ _ h => h) (by rfl) (v := ?_) ?_ (by assumption) ?_
            rotate_left
            · (intro w hSw; (try dsimp only at hSw); go_simp; try (with_reducible rfl))
            (try simp only [Act.put, List.setIfInBounds_toArray, List.set_cons_zero, List.set_cons_succ])
            refine heldT (i := 21) rfl (by kernel_rfl) (by kernel_rfl) (by kernel_rfl) (fun _ _ _ h => h) (by rfl) (v := ?_) ?_ (by assumption) ?_
            rotate_left
            · (intro w hSw; (try dsimp only at hSw); go_simp; try (with_reducible rfl))
            (try simp only [Act.put, List.setIfInBounds_toArray, List.set_cons_zero, List.set_cons_succ])
            refine heldC (i := 22) rfl (by kernel_rfl) (fun K' hK => ?_)
            go_simp
            refine (calls_isI (impl_LeastArmy _ _) (show leastArmy 4 = 19 from rfl)).mono ?_; rintro e y22 ⟨rfl, hy22⟩
            (try (go_wp2_with fail))
            refine hK.out _ _ ?_ (fun hHd6 => ?_)
            · ((try dsimp only); (refine K3.out _ ?_; (repeat (first | exact Below.refl _ _ | assumption | refine below_step ?_ (by assumption) | refine below_alloc ?_ _ | refine below_drewN ?_ _ | refine Below.drew ?_ | refine Below.setCell ?_ (by first | (simp; done) | omega | (simp; omega)) _))))
            clear hK K' hHd5
            (try simp only [Act.put, List.setIfInBounds_toArray, List.set_cons_zero, List.set_cons_succ])
            refine heldT (i := 23) rfl (by kernel_rfl) (by kernel_rfl) (by kernel_rfl) (fun _ _ _ h => h) (by rfl) (v := ?_) ?_ (by assumption) ?_
            rotate_left
            · (intro w hSw; (try dsimp only at hSw); go_simp; try (with_reducible rfl))
            (try simp only [Act.put, List.setIfInBounds_toArray, List.set_cons_zero, List.set_cons_succ])
            refine heldT (i := 24) rfl (by kernel_rfl) (by kernel_rfl) (by kernel_rfl) (fun _ _ _ h => h) (by rfl) (v := ?_) ?_ (by assumption) ?_
            rotate_left
            · (intro w hSw; (try dsimp only at hSw); go_simp; try (with_reducible rfl))
            (try simp only [Act.put, List.setIfInBounds_toArray, List.set_cons_zero, List.set_cons_succ])
            refine heldT (i := 25) rfl (by kernel_rfl) (by kernel_rfl) (by kernel_rfl) (fun _ _ _ h => h) (by rfl) (v := ?_) ?_ (by assumption) ?_
            rotate_left
            · (intro w hSw; (try dsimp only at hSw); go_simp; try (with_reducible rfl))
            (try simp only [Act.put, List.setIfInBounds_toArray, List.set_cons_zero, List.set_cons_succ])
            refine heldT (i := 26) rfl (by kernel_rfl) (by kernel_rfl) (by kernel_rfl) (fun _ _ _ h => h) (by rfl) (v := ?_) ?_ (by assumption) ?_
            rotate_left
            · (intro w hSw; (try dsimp only at hSw); go_simp; try (with_reducible rfl))
            (try simp only [Act.put, List.setIfInBounds_toArray, List.set_cons_zero, List.set_cons_succ])
            refine heldC (i := 27) rfl (by kernel_rfl) (fun K' hK => ?_)
            go_simp
            refine (hM4.out _ (hF9.below (by (repeat (first | exact Below.refl _ _ | assumption | refine below_step ?_ (by assumption) | refine below_alloc ?_ _ | refine below_drewN ?_ _ | refine Below.drew ?_ | refine Below.setCell ?_ (by first | (simp; done) | omega | (simp; omega)) _))))).mono ?_; rintro e y27 ⟨rfl, hy27⟩
            (try (go_wp2_with fail))
            refine hK.out _ _ ?_ (fun hHd7 => ?_)
            · ((try dsimp only); (refine K3.out _ ?_; (repeat (first | exact Below.refl _ _ | assumption | refine below_step ?_ (by assumption) | refine below_alloc ?_ _ | refine below_drewN ?_ _ | refine Below.drew ?_ | refine Below.setCell ?_ (by first | (simp; done) | omega | (simp; omega)) _))))
            clear hK K' hHd6
            (try simp only [Act.put, List.setIfInBounds_toArray, List.set_cons_zero, List.set_cons_succ])
            refine heldT (i := 28) rfl (by kernel_rfl) (by kernel_rfl) (by kernel_rfl) (fun _ _ _ h => h) (by rfl) (v := ?_) ?_ (by assumption) ?_
            rotate_left
            · (intro w hSw; (try dsimp only at hSw); go_simp; try (with_reducible rfl))
            (try simp only [Act.put, List.setIfInBounds_toArray, List.set_cons_zero, List.set_cons_succ])
            refine heldT (i := 29) rfl (by kernel_rfl) (by kernel_rfl) (by kernel_rfl) (fun _ _ _ h => h) (by rfl) (v := ?_) ?_ (by assumption) ?_
            rotate_left
            · (intro w hSw; (try dsimp only at hSw); go_simp; try (with_reducible rfl))
            (try simp only [Act.put, List.setIfInBounds_toArray, List.set_cons_zero, List.set_cons_succ])
            refine heldT (i := 30) rfl (by kernel_rfl) (by kernel_rfl) (by kernel_rfl) (fun _ _ _ h => h) (by rfl) (v := ?_) ?_ (by assumption) ?_
            rotate_left
            · (intro w hSw; (try dsimp only at hSw); go_simp; try (with_reducible rfl))
            (try simp only [Act.put, List.setIfInBounds_toArray, List.set_cons_zero, List.set_cons_succ])
            refine heldC (i := 31) rfl (by kernel_rfl) (fun K' hK => ?_)
            go_simp
            refine (hM5.out _ (hF9.below (by (repeat (first | exact Below.refl _ _ | assumption | refine below_step ?_ (by assumption) | refine below_alloc ?_ _ | refine below_drewN ?_ _ | refine Below.drew ?_ | refine Below.setCell ?_ (by first | (simp; done) | omega | (simp; omega)) _))))).mono ?_; rintro e y31 ⟨rfl, hy31⟩
            (try (go_wp2_with fail))
            refine hK.out _ _ ?_ (fun hHd8 => ?_)
            · ((try dsimp only); (refine K3.out _ ?_; (repeat (first | exact Below.refl _ _ | assumption | refine below_step ?_ (by assumption) | refine below_alloc ?_ _ | refine below_drewN ?_ _ | refine Below.drew ?_ | refine Below.setCell ?_ (by first | (simp; done) | omega | (simp; omega)) _))))
            clear hK K' hHd7
            (try simp only [Act.put, List.setIfInBounds_toArray, List.set_cons_zero, List.set_cons_succ])
            refine heldT (i := 32) rfl (by kernel_rfl) (by kernel_rfl) (by kernel_rfl) (fun _ _ _ h => h) (by rfl) (v := ?_) ?_ (by assumption) ?_
            rotate_left
            · (intro w hSw; (try dsimp only at hSw); go_simp; try (with_reducible rfl))
            (try simp only [Act.put, List.setIfInBounds_toArray, List.set_cons_zero, List.set_cons_succ])
            refine heldT (i := 33) rfl (by kernel_rfl) (by kernel_rfl) (by kernel_rfl) (fun _ _ _ h => h) (by rfl) (v := ?_) ?_ (by assumption) ?_
            rotate_left
            · (intro w hSw; (try dsimp only at hSw); go_simp; try (with_reducible rfl))
            (try simp only [Act.put, List.setIfInBounds_toArray, List.set_cons_zero, List.set_cons_succ])
            refine heldT (i := 34) rfl (by kernel_rfl) (by kernel_rfl) (by kernel_rfl) (fun _ _ _ h => h) (by rfl) (v := ?_) ?_ (by assumption) ?_
            rotate_left
            · (intro w hSw; (try dsimp only at hSw); go_simp; try (with_reducible rfl))
            (try simp only [Act.put, List.setIfInBounds_toArray, List.set_cons_zero, List.set_cons_succ])
            refine wpAnyH_done (by kernel_rfl) ?_ _
            go_wp2
            go_ret
            exact ⟨ret_bool (by simp), below_step hbR (below_step hbel (by (repeat (first | exact Below.refl _ _ | assumption | refine below_step ?_ (by assumption) | refine below_alloc ?_ _ | refine below_drewN ?_ _ | refine Below.drew ?_ | refine Below.setCell ?_ (by first | (simp; done) | omega | (simp; omega)) _))))⟩
end Go.Proofs.Ytianfakgojmnpaa

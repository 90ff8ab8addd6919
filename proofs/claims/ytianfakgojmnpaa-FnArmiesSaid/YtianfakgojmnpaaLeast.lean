/- The least army: contracts. -/
import Derived.Test.YtianfakgojmnpaaMayReach
namespace Go.Proofs.Ytianfakgojmnpaa
open Go.RowKit

def sAt (k j : Nat) : Int × Int := ((j : Int) - 8, (k : Int) - absI ((j : Int) - 8))
def rowTo (k j : Nat) : List (Int × Int) := ((List.range j).map (sAt k)).filter fun s => soldierOk s.1 s.2
def pre (k j : Nat) : List (Int × Int) := ((List.range k).flatMap fun w => rowTo w 17) ++ rowTo k j
theorem pre_next (k : Nat) : pre k 17 = pre (k + 1) 0 := by
  unfold pre
  rw [List.range_succ, List.flatMap_append]
  simp [rowTo]
theorem pre_yes {k j : Nat} (h : soldierOk (sAt k j).1 (sAt k j).2 = true) : pre k (j + 1) = pre k j ++ [sAt k j] := by
  have e : rowTo k (j + 1) = rowTo k j ++ [sAt k j] := by
    unfold rowTo
    rw [List.range_succ, List.map_append, List.filter_append]
    simp [h]
  unfold pre; rw [e, List.append_assoc]
theorem pre_no {k j : Nat} (h : soldierOk (sAt k j).1 (sAt k j).2 = false) : pre k (j + 1) = pre k j := by
  have e : rowTo k (j + 1) = rowTo k j := by
    unfold rowTo
    rw [List.range_succ, List.map_append, List.filter_append]
    simp [h]
  unfold pre; rw [e]
theorem rowTo_len (k j : Nat) : (rowTo k j).length ≤ j := by
  unfold rowTo
  have := List.length_filter_le (fun s : Int × Int => soldierOk s.1 s.2) ((List.range j).map (sAt k))
  simp at this; exact this
theorem pre_len (k j : Nat) : (pre k j).length ≤ k * 17 + j := by
  unfold pre
  rw [List.length_append]
  have h1 := rowTo_len k j
  have h2 : ((List.range k).flatMap fun w => rowTo w 17).length ≤ k * 17 := by
    clear h1
    induction k with
    | zero => simp
    | succ k ih =>
      rw [List.range_succ, List.flatMap_append, List.length_append]
      have := rowTo_len k 17
      simp only [List.flatMap_cons, List.flatMap_nil, List.append_nil]
      omega
  omega
def sumA (l : Int) (zs : List (Int × Int)) : Int := zs.foldl (fun s z => s + weightA z.1 z.2 l) 0
def sumB (l : Int) (zs : List (Int × Int)) : Int := zs.foldl (fun s z => s + weightB z.1 z.2 l) 0
theorem afold_sums (l : Int) (zs : List (Int × Int)) : ∀ n : Nat, n ≤ 60 → zs.length = n → afold l zs = (sumA l zs, sumB l zs) := by
  intro n
  induction n generalizing zs with
  | zero => intro _ h; have : zs = [] := List.length_eq_zero_iff.1 h; subst this; rfl
  | succ n ih =>
    intro hn h
    have hne : zs ≠ [] := by intro e; subst e; simp at h
    obtain ⟨ys, z, rfl⟩ : ∃ ys z, zs = ys ++ [z] := ⟨zs.dropLast, zs.getLast hne, (List.dropLast_concat_getLast hne).symm⟩
    have hy : ys.length = n := by simp at h; omega
    rw [afold_snoc, astep_sum l ys z (by omega), ih ys (by omega) hy]
    simp [sumA, sumB, wAt]
def cmpF (a b : Int) : Bool := decide (0 ≤ compareGold a b 1 0)
def mayF (zs : List (Int × Int)) (l : Int) : Bool := armyOk zs && inB l 1 5 && cmpF (sumA l zs) (sumB l zs)
theorem mayF_eq (zs : List (Int × Int)) (l : Int) : mayReach zs l = mayF zs l := by
  unfold mayReach mayF cmpF
  cases h : armyOk zs
  · rfl
  · have h2 : zs.length ≤ 60 := by simp only [armyOk, Bool.and_eq_true, decide_eq_true_eq] at h; exact h.1
    have h3 : armySum zs l = (sumA l zs, sumB l zs) := by unfold armySum; rw [if_pos h]; exact afold_sums l zs _ h2 rfl
    rw [h3]
def tabI (l : Int) (K J N : Nat) : Bool :=
  ((List.range (K + 1)).all fun k => (List.range 17).all fun j => !(decide (k < K) || decide (j < J)) || !(soldierOk (sAt k j).1 (sAt k j).2) || !(mayF (pre k (j + 1)) l)) &&
    (soldierOk (sAt K J).1 (sAt K J).2 && mayF (pre K (J + 1)) l && decide ((pre K (J + 1)).length = N))
theorem tabI_before {l : Int} {K J N k j : Nat} (h : tabI l K J N = true) (hk : k ≤ K) (hj : j < 17) (hb : k < K ∨ j < J) (hs : soldierOk (sAt k j).1 (sAt k j).2 = true) : mayReach (pre k (j + 1)) l = false := by
  rw [mayF_eq]
  simp only [tabI, Bool.and_eq_true, List.all_eq_true, List.mem_range] at h
  have := h.1 k (by omega) j hj
  simp only [hs, Bool.or_eq_true, Bool.not_eq_true', Bool.not_true, decide_eq_true_eq, Bool.or_eq_false_iff, decide_eq_false_iff_not] at this
  rcases this with (h1 | h1) | h1
  · omega
  · cases h1
  · exact h1
theorem tabI_at {l : Int} {K J N : Nat} (h : tabI l K J N = true) : soldierOk (sAt K J).1 (sAt K J).2 = true ∧ mayReach (pre K (J + 1)) l = true ∧ (pre K (J + 1)).length = N := by
  rw [mayF_eq]
  simp only [tabI, Bool.and_eq_true, decide_eq_true_eq] at h
  exact ⟨h.2.1.1, h.2.1.2, h.2.2⟩
theorem tab1 : tabI 1 1 7 2 = true := by decide +kernel
theorem tab2 : tabI 2 1 9 4 = true := by decide +kernel
theorem tab3 : tabI 3 2 9 8 = true := by decide +kernel
theorem tab4 : tabI 4 4 6 19 = true := by decide +kernel
def leastArmy (l : Int) : Int := if l = 1 then 2 else if l = 2 then 4 else if l = 3 then 8 else if l = 4 then 19 else -1
def bas (l : Int) : Nat → Int × Int
  | 0 => (0, 0)
  | k + 1 => ((bas l k).1 + ((2 * k + 1 : Nat) : Int) * powA (k + l), (bas l k).2 + ((2 * k + 1 : Nat) : Int) * powB (k + l))
def ssum (l : Int) (k i : Nat) : Int × Int := ((bas l k).1 + (i : Int) * powA (k + l), (bas l k).2 + (i : Int) * powB (k + l))
theorem ssum_next (l : Int) (k : Nat) : ssum l k (2 * k + 1) = ssum l (k + 1) 0 := by
  unfold ssum
  simp [bas]
theorem ssum_step (l : Int) (k i : Nat) : ssum l k (i + 1) = ((ssum l k i).1 + powA (k + l), (ssum l k i).2 + powB (k + l)) := by
  unfold ssum
  have e : ((i + 1 : Nat) : Int) = (i : Int) + 1 := by omega
  rw [e, Int.add_mul, Int.add_mul, Int.one_mul, Int.one_mul, ← Int.add_assoc, ← Int.add_assoc]
def okS1 (s : Int × Int) : Bool := decide (-1000000 ≤ s.1) && decide (s.1 ≤ 1000000) && decide (-1000000 ≤ s.2) && decide (s.2 ≤ 1000000)
def tabS (l : Int) (K J N : Nat) : Bool :=
  ((List.range (K + 1)).all fun k => (List.range 10).all fun i => okS1 (ssum l k i) && (!(decide (k < K) || decide (i < J)) || !(decide (i < 2 * k + 1)) || decide (compareGold (ssum l k (i + 1)).1 (ssum l k (i + 1)).2 1 0 < 0))) &&
    (decide (0 ≤ compareGold (ssum l K (J + 1)).1 (ssum l K (J + 1)).2 1 0) && decide (K * K + J + 1 = N))
theorem tabS_ok {l : Int} {K J N k i : Nat} (h : tabS l K J N = true) (hk : k ≤ K) (hi : i < 10) : -1000000 ≤ (ssum l k i).1 ∧ (ssum l k i).1 ≤ 1000000 ∧ -1000000 ≤ (ssum l k i).2 ∧ (ssum l k i).2 ≤ 1000000 := by
  simp only [tabS, Bool.and_eq_true, List.all_eq_true, List.mem_range] at h
  have := (h.1 k (by omega) i hi).1
  simp only [okS1, Bool.and_eq_true, decide_eq_true_eq] at this
  omega
theorem tabS_before {l : Int} {K J N k i : Nat} (h : tabS l K J N = true) (hk : k ≤ K) (hi : i < 10) (hb : k < K ∨ i < J) (h2 : i < 2 * k + 1) : compareGold (ssum l k (i + 1)).1 (ssum l k (i + 1)).2 1 0 < 0 := by
  simp only [tabS, Bool.and_eq_true, List.all_eq_true, List.mem_range] at h
  have := (h.1 k (by omega) i hi).2
  simp only [Bool.or_eq_true, Bool.not_eq_true', decide_eq_true_eq, Bool.or_eq_false_iff, decide_eq_false_iff_not] at this
  omega
theorem tabS_at {l : Int} {K J N : Nat} (h : tabS l K J N = true) : 0 ≤ compareGold (ssum l K (J + 1)).1 (ssum l K (J + 1)).2 1 0 ∧ K * K + J + 1 = N := by
  simp only [tabS, Bool.and_eq_true, decide_eq_true_eq] at h
  exact h.2
theorem tbs1 : tabS 1 1 0 2 = true := by decide +kernel
theorem tbs2 : tabS 2 1 2 4 = true := by decide +kernel
theorem tbs3 : tabS 3 2 3 8 = true := by decide +kernel
theorem tbs4 : tabS 4 4 2 19 = true := by decide +kernel
theorem append_soldier {ops : Array Oper} {rest : List Oper} {o : Oper} {a : Act} {Q : Exit → Act → World → Prop} {T : TypeId} (hT : Try.prog.underlying T = some (.slice 37)) (V w : World) (hgd : o.guard = none) (s x : Operand)
    (ho : o.op = .call { callee := .builtin .append, args := #[s, x], argTypes := #[T, T] }) (v : Value) (n : Nat) (zs : List (Int × Int)) (p q : Int) (hs : a.eval s = v)
    (hown : w.ownsRow V.heap.size 37 2 v n (ints (sflat zs))) (hx : a.eval x = .slice (some ⟨w.heap.size, 0, none⟩) 1 1) (hn : n ≤ 4294967296) (hbel : Below V.heap.size V w)
    (h : ∀ v' w', w'.ownsRow V.heap.size 37 2 v' (n + 1) (ints (sflat (zs ++ [(p, q)]))) → Below V.heap.size V w' → wpList Try.prog ops Q rest (a.put o.dst v') w') :
    wpList Try.prog ops Q (o :: rest) a (w.alloc (.cells #[.int .i64 p, .int .i64 q] 37)) := by
  obtain ⟨i0, hi, hz0, hz1, hz2⟩ := info_parts soldier_info
  refine wpList_append_own _ hgd s x T ho V.heap.size 37 i0 (.agg #[.int .i64 0, .int .i64 0]) 2 16 hT hi hz0 hz1 hz2 rfl (by decide) v n (ints (sflat zs)) hs (hown.alloc _) ⟨w.heap.size, 0, none⟩ 1 1 [.int .i64 p, .int .i64 q] hx rfl ?_ ?_ ?_ ?_ ?_ ?_
  · intro j u hj
    match j, hj with
    | 0, hj => simp at hj; subst hj; simp [Addr.add]
    | 1, hj => simp at hj; subst hj; simp [Addr.add]
  · intro u hu; simp at hu; rcases hu with rfl | rfl <;> rfl
  · simp only [maxLen]; omega
  · omega
  · have := hbel.size; simp; omega
  · intro v' w' hown' hgrow _
    refine h v' w' (by rw [sflat_append, ints_append]; exact hown') ?_
    refine ((below_alloc hbel _).grown hgrow (by have := hbel.size; simp; omega) ?_)
    intro k hk
    exact (hown.lt k hk).1
theorem madeS (w : World) : (w.alloc (.cells #[] 37)).ownsRow w.heap.size 37 2 (.slice (some ⟨w.heap.size, 0, none⟩) 0 0) 0 [] := World.ownsRow_made _ _ _ (Nat.le_refl _) (by simp [maxLen]) (by simp)
theorem own_capS {w : World} {lo e s n cap : Nat} {A : Option Addr} {cs : List Value} (h : w.ownsRow lo e s (.slice A n cap) n cs) : n ≤ cap := by
  rcases h.2 with ⟨_, rfl⟩ | ⟨g, cap', cur, h, _, _, hle, _⟩
  · exact Nat.zero_le _
  · injection h with _ _ h; omega
set_option maxHeartbeats 4000000 in
theorem impl_LeastArmy_in (l : Int) (K J N : Nat) (w : World) (h1 : inB l 1 4 = true) (hT : tabI l K J N = true) (hK : K ≤ 4) (hJ : J < 17) :
    Calls Try.prog 14 #[.int .i64 l] w fun e w' => e = .returned (.int .i64 (N : Nat)) ∧ Below w.heap.size w w' := by
  obtain ⟨t1, t2, t3⟩ := tabI_at hT
  have HT3 := Lib.hid t3
  clear t3
  go_enter Try.func14, Try.ntmps14
  go_wp2_with fail
  refine (calls_is (impl_within _ _ _ _) h1).mono ?_
  rintro e _ ⟨rfl, rfl⟩
  have hO := madeS w
  have hB : Below w.heap.size w (w.alloc (.cells #[] 37)) := by (repeat (first | exact Below.refl _ _ | assumption | refine below_step ?_ (by assumption) | refine below_alloc ?_ _ | refine below_drewN ?_ _ | refine Below.drew ?_ | refine Below.setCell ?_ (by first | (simp; done) | omega | (simp; omega)) _))
  go_wp2_with fail
  go_loopw [3, 4] (fun v i wr => ∃ k : Nat, i = .int .i64 k ∧ k ≤ K ∧ wr.ownsRow w.heap.size 37 2 v (pre k 0).length (ints (sflat (pre k 0))) ∧ Below w.heap.size w wr) (fun _ i _ => 17 - (intOf i).toNat)
  case atStart => exact ⟨0, rfl, Nat.zero_le _, (by simpa [pre, rowTo, sflat, ints] using hO), hB⟩
  case round =>
    clear hO hB
    obtain ⟨k, rfl, hk, hown, hbel⟩ := hrel
    obtain ⟨A, c, rfl⟩ := own_shape hown
    have hk16 : (k : Int) ≤ 16 := by omega
    have hkb : decide ((k : Int) ≤ 16) = true := decide_eq_true hk16
    go_wp2
    go_loopw [3, 5] (fun v i wr => ∃ j : Nat, j ≤ 17 ∧ i = .int .i64 ((j : Int) - 8) ∧ (k < K ∨ j ≤ J) ∧ wr.ownsRow w.heap.size 37 2 v (pre k j).length (ints (sflat (pre k j))) ∧ Below w.heap.size w wr) (fun _ i _ => (9 - intOf i).toNat)
    case atStart => exact ⟨0, Nat.zero_le _, rfl, Or.inr (Nat.zero_le _), hown, hbel⟩
    case round =>
      clear hown hbel
      obtain ⟨j, hj, rfl, hkj, hown, hbel⟩ := hrel
      obtain ⟨A, c, rfl⟩ := own_shape hown
      have hpl := pre_len k j
      by_cases hlt : j < 17
      · have hj8 : (j : Int) - 8 ≤ 8 := by omega
        have hj9 : decide ((j : Int) - 8 ≤ 8) = true := decide_eq_true hj8
        obtain ⟨z, hz⟩ : ∃ z, absI ((j : Int) - 8) = z := ⟨_, rfl⟩
        have hab := absI_bd (n := (j : Int) - 8) (B := 8) (by omega) (by omega)
        rw [hz] at hab
        have hsa : sAt k j = ((j : Int) - 8, (k : Int) - z) := by unfold sAt; rw [hz]
        have HZ := Lib.hid hz
        have HSA := Lib.hid hsa
        clear hz hsa
        cases hok : soldierOk ((j : Int) - 8) ((k : Int) - z)
        · have HN := Lib.hid (pre_no (k := k) (j := j) (by rw [HSA.out]; exact hok))
          have hne : ¬ (k = K ∧ j = J) := by
            rintro ⟨rfl, rfl⟩
            rw [HSA.out] at t1
            simp only at t1
            rw [hok] at t1; cases t1
          go_wp2_with (go_at_call 74; refine (impl_magnitude _ _ (by omega) (by omega)).mono ?_; rintro e _ ⟨rfl, rfl⟩; rw [HZ.out])
          refine (calls_is (impl_standsOk _ _ _) hok).mono ?_
          rintro e w2 ⟨rfl, hb2⟩
          have hw2 : Below wr.heap.size wr w2 := by (repeat (first | exact Below.refl _ _ | assumption | refine below_step ?_ (by assumption) | refine below_alloc ?_ _ | refine below_drewN ?_ _ | refine Below.drew ?_ | refine Below.setCell ?_ (by first | (simp; done) | omega | (simp; omega)) _))
          go_wp2
          go_roundw
          case rel => exact ⟨j + 1, by omega, by go_num, by omega, by rw [HN.out]; exact own_below hown hw2, below_step hbel hw2⟩
          case measure => simp [intOf]; omega
        · have hyes := pre_yes (k := k) (j := j) (by rw [HSA.out]; exact hok)
          have HY := Lib.hid hyes
          clear hyes
          cases hmr : mayReach (pre k (j + 1)) l
          · have hne : ¬ (k = K ∧ j = J) := by
              rintro ⟨rfl, rfl⟩
              rw [hmr] at t2; cases t2
            have HM := Lib.hid hmr
            clear hmr
            go_wp2_with (go_at_call 74; refine (impl_magnitude _ _ (by omega) (by omega)).mono ?_; rintro e _ ⟨rfl, rfl⟩; rw [HZ.out])
            generalize hU : wr.alloc (.cells #[.int .i64 ((j : Int) - 8), .int .i64 ((k : Int) - z)] 37) = U
            have bU : Below wr.heap.size wr U := by subst hU; (repeat (first | exact Below.refl _ _ | assumption | refine below_step ?_ (by assumption) | refine below_alloc ?_ _ | refine below_drewN ?_ _ | refine Below.drew ?_ | refine Below.setCell ?_ (by first | (simp; done) | omega | (simp; omega)) _))
            have zU : wr.heap.size < U.heap.size := by subst hU; simp
            have u0 : U.cell? ⟨wr.heap.size, 0, none⟩ = some (.int .i64 ((j : Int) - 8)) := by subst hU; simp
            have u1 : U.cell? ⟨wr.heap.size, 1, none⟩ = some (.int .i64 ((k : Int) - z)) := by subst hU; simp
            clear hU
            refine (calls_is (impl_standsOk _ _ _) hok).mono ?_
            rintro e w2 ⟨rfl, hb2⟩
            have d0 := bel_cell hb2 zU u0
            have d1 := bel_cell hb2 zU u1
            have zw := Nat.lt_of_lt_of_le zU hb2.size
            have hw2 : Below wr.heap.size wr w2 := below_step bU hb2
            replace hown := own_below hown hw2
            replace hbel := below_step hbel hw2
            go_wp2_with (at_builtin; refine append_soldier Try.underlying24 w _ rfl _ _ rfl _ _ _ ((j : Int) - 8) ((k : Int) - z) (by rfl) hown (by rfl) (by omega) hbel ?_; intro v' w' hown' hbel'; rw [← HSA.out, ← HY.out] at hown'; obtain ⟨A3, c3, rfl⟩ := own_shape hown'; have hle := hown'.1; rw [ints_len, sflat_len] at hle; rw [show (pre k j).length + 1 = (pre k (j + 1)).length from by omega] at hown' ⊢)
            refine (calls_is (impl_MayReach _ _ _ _ _ (FAt_of_own hown') (by omega) (own_capS hown')) HM.out).mono ?_
            rintro e w5 ⟨rfl, hb5⟩
            go_wp2
            go_roundw
            case rel => exact ⟨j + 1, by omega, by go_num, by omega, own_below hown' hb5, below_step hbel' hb5⟩
            case measure => simp [intOf]; omega
          · have hfin : k = K ∧ j = J := by
              by_cases hb : k < K ∨ j < J
              · have := tabI_before hT hk hlt hb (by rw [HSA.out]; exact hok)
                rw [hmr] at this; cases this
              · omega
            obtain ⟨rfl, rfl⟩ := hfin
            have HM := Lib.hid hmr
            clear hmr
            go_wp2_with (go_at_call 74; refine (impl_magnitude _ _ (by omega) (by omega)).mono ?_; rintro e _ ⟨rfl, rfl⟩; rw [HZ.out])
            generalize hU : wr.alloc (.cells #[.int .i64 ((j : Int) - 8), .int .i64 ((k : Int) - z)] 37) = U
            have bU : Below wr.heap.size wr U := by subst hU; (repeat (first | exact Below.refl _ _ | assumption | refine below_step ?_ (by assumption) | refine below_alloc ?_ _ | refine below_drewN ?_ _ | refine Below.drew ?_ | refine Below.setCell ?_ (by first | (simp; done) | omega | (simp; omega)) _))
            have zU : wr.heap.size < U.heap.size := by subst hU; simp
            have u0 : U.cell? ⟨wr.heap.size, 0, none⟩ = some (.int .i64 ((j : Int) - 8)) := by subst hU; simp
            have u1 : U.cell? ⟨wr.heap.size, 1, none⟩ = some (.int .i64 ((k : Int) - z)) := by subst hU; simp
            clear hU
            refine (calls_is (impl_standsOk _ _ _) hok).mono ?_
            rintro e w2 ⟨rfl, hb2⟩
            have d0 := bel_cell hb2 zU u0
            have d1 := bel_cell hb2 zU u1
            have zw := Nat.lt_of_lt_of_le zU hb2.size
            have hw2 : Below wr.heap.size wr w2 := below_step bU hb2
            replace hown := own_below hown hw2
            replace hbel := below_step hbel hw2
            go_wp2_with (at_builtin; refine append_soldier Try.underlying24 w _ rfl _ _ rfl _ _ _ ((j : Int) - 8) ((k : Int) - z) (by rfl) hown (by rfl) (by omega) hbel ?_; intro v' w' hown' hbel'; rw [← HSA.out, ← HY.out] at hown'; obtain ⟨A3, c3, rfl⟩ := own_shape hown'; have hle := hown'.1; rw [ints_len, sflat_len] at hle; rw [show (pre k j).length + 1 = (pre k (j + 1)).length from by omega] at hown' ⊢)
            refine (calls_is (impl_MayReach _ _ _ _ _ (FAt_of_own hown') (by omega) (own_capS hown')) HM.out).mono ?_
            rintro e w5 ⟨rfl, hb5⟩
            have hfw := below_step hbel' hb5
            go_wp2
            go_ret
            exact ⟨ret_int (by rw [HT3.out]), hfw⟩
      · obtain rfl : j = 17 := by omega
        have hkK : k < K := by omega
        have HN := Lib.hid (pre_next k)
        go_wp2
        go_roundw
        case rel => exact ⟨k + 1, by go_num, hkK, by rw [← HN.out]; exact hown, hbel⟩
        case measure => simp [intOf]; omega
set_option maxHeartbeats 1000000 in
theorem impl_LeastArmy_no (l : Int) (w : World) (h1 : inB l 1 4 = false) :
    Calls Try.prog 14 #[.int .i64 l] w fun e w' => e = .returned (.int .i64 (-1)) ∧ Below w.heap.size w w' := by
  go_enter Try.func14, Try.ntmps14
  go_wp2_with fail
  refine (calls_is (impl_within _ _ _ _) h1).mono ?_
  rintro e _ ⟨rfl, rfl⟩
  go_wp2
  go_ret
  exact ⟨rfl, by (repeat (first | exact Below.refl _ _ | assumption | refine below_step ?_ (by assumption) | refine below_alloc ?_ _ | refine below_drewN ?_ _ | refine Below.drew ?_ | refine Below.setCell ?_ (by first | (simp; done) | omega | (simp; omega)) _))⟩
theorem impl_LeastArmy (l : Int) (w : World) : Calls Try.prog 14 #[.int .i64 l] w fun e w' => e = .returned (.int .i64 (leastArmy l)) ∧ Below w.heap.size w w' := by
  cases h1 : inB l 1 4
  · have hn := inB_no.1 h1
    have e : leastArmy l = -1 := by unfold leastArmy; rw [if_neg (by omega), if_neg (by omega), if_neg (by omega), if_neg (by omega)]
    rw [e]; exact impl_LeastArmy_no l w h1
  · obtain ⟨a, b⟩ := inB_iff.1 h1
    have : l = 1 ∨ l = 2 ∨ l = 3 ∨ l = 4 := by omega
    rcases this with rfl | rfl | rfl | rfl
    · exact impl_LeastArmy_in 1 1 7 2 w h1 tab1 (by omega) (by omega)
    · exact impl_LeastArmy_in 2 1 9 4 w h1 tab2 (by omega) (by omega)
    · exact impl_LeastArmy_in 3 2 9 8 w h1 tab3 (by omega) (by omega)
    · exact impl_LeastArmy_in 4 4 6 19 w h1 tab4 (by omega) (by omega)
end Go.Proofs.Ytianfakgojmnpaa

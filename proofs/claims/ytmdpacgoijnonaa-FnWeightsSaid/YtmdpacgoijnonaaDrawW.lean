/- Drawn weights of a sound board: as many as it has cells, each between -1000 and 1000. -/
import Derived.Test.YtmdpacgoijnonaaDrawB
import Derived.Test.YtmdpacgoijnonaaSpread
import Derived.Test.YtmdpacgoijnonaaLinesOf
import Derived.BigQuiet
import Derived.Deep.QuietTactic
namespace Go.Proofs.Ytmdpacgoijnonaa
open Go.RowKit

theorem own_notgW {w : World} {lo e s n g : Nat} {v : Value} {c : List Value} (h : w.ownsRow lo e s v n c) (hg : g < lo) : v.ownBlock = none ∨ v.ownBlock ≠ some g := by
  cases hv : v.ownBlock with
  | none => exact .inl rfl
  | some k => exact .inr fun e => by injection e with e; have := (h.lt k hv).1; omega
theorem gr_ownW {a b c : World} {g : Nat} {row : Option Nat} (h : a.grownBy b (some g)) (k : b.grownBy c row) (hr : ∀ j, row = some j → a.heap.size ≤ j) : a.grownBy c (some g) :=
  ⟨k.os.trans h.os, k.tape.trans h.tape, k.output.trans h.output, Nat.le_trans h.size k.size, fun i hi hne => (k.block i (Nat.lt_of_lt_of_le hi h.size) (fun e => by have := hr i e.symm; omega)).trans (h.block i hi hne)⟩
theorem madeW {V : World} {s : Nat} (e : TypeId) : (V.alloc (.cells #[] e)).ownsRow V.heap.size e s (.slice (some ⟨V.heap.size, 0, none⟩) 0 0) 0 [] :=
  World.ownsRow_made _ _ _ (Nat.le_refl _) (by simp [maxLen]) (by simp)
theorem own_setW {w : World} {lo e s n k j : Nat} {v u : Value} {c : List Value} (h : w.ownsRow lo e s v n c) (hk : k < lo) : (w.setCell ⟨k, j, none⟩ u).ownsRow lo e s v n c :=
  h.kept (row := some k) ⟨rfl, rfl, rfl, by simp, fun i _ hne => heap_setCell_other w ⟨k, j, none⟩ i u (fun e => hne (by simp [e]))⟩ (own_notgW h hk)
theorem own_formW {w : World} {lo e s n : Nat} {v : Value} {cs : List Value} (h : w.ownsRow lo e s v n cs) (hn : 0 < n) : ∃ G cap, v = .slice (some ⟨G, 0, none⟩) n cap ∧ lo ≤ G := by
  rcases h.2 with ⟨_, rfl⟩ | ⟨g, cap, cur, rfl, hlo, _⟩
  · omega
  · exact ⟨g, cap, rfl, hlo⟩
theorem holeW {W H X k : Int} (h : hasHole W H X k = true) : 0 ≤ k ∧ k ≤ W * H - 1 := by
  simp only [hasHole, Bool.and_eq_true] at h
  exact inB_iff.1 h.1.2
theorem ownsRow_leW {w : World} {lo lo' e s n : Nat} {v : Value} {cs : List Value} (h : w.ownsRow lo e s v n cs) (hl : lo' ≤ lo) : w.ownsRow lo' e s v n cs := own_lower h hl
theorem bnd_setW {zs : List Int} {k : Nat} {c : Int} (h : ∀ j z, j < k → zs[j]? = some z → -1000 ≤ z ∧ z ≤ 1000) (hc : -1000 ≤ c ∧ c ≤ 1000) : ∀ j z, j < k + 1 → (zs.set k c)[j]? = some z → -1000 ≤ z ∧ z ≤ 1000 := by
  intro j z hj hz
  by_cases e : j = k
  · subst e
    rw [List.getElem?_set] at hz
    split at hz
    · split at hz
      · injection hz with hz; omega
      · cases hz
    · rename_i h; exact absurd rfl h
  · rw [List.getElem?_set_ne (fun e2 => e e2.symm)] at hz
    exact h j z (by omega) hz
theorem ints_setW (zs : List Int) (j : Nat) (x : Int) : (ints zs).set j (.int .i64 x) = ints (zs.set j x) := by simp [ints, List.map_set]
theorem append_intW {ops : Array Oper} {rest : List Oper} {o : Oper} {a : Act} {Q : Exit → Act → World → Prop} {T : TypeId} (hT : Try.prog.underlying T = some (.slice 3)) (lo : Nat) (w : World) (hgd : o.guard = none) (s x : Operand)
    (ho : o.op = .call { callee := .builtin .append, args := #[s, x], argTypes := #[T, T] }) (v : Value) (n : Nat) (zs : List Int) (z : Int) (hs : a.eval s = v)
    (hown : w.ownsRow lo 3 1 v n (ints zs)) (hx : a.eval x = .slice (some ⟨w.heap.size, 0, none⟩) 1 1) (hn : n ≤ 4294967296) (hlo : lo ≤ w.heap.size)
    (h : ∀ v' w', w'.ownsRow lo 3 1 v' (n + 1) (ints (zs ++ [z])) → (w.alloc (.cells #[.int .i64 z] 3)).grownBy w' v.ownBlock → wpList Try.prog ops Q rest (a.put o.dst v') w') :
    wpList Try.prog ops Q (o :: rest) a (w.alloc (.cells #[.int .i64 z] 3)) := by
  obtain ⟨i0, hi, hz0, hz1, hz2⟩ := info_parts int_info
  refine wpList_append_own _ hgd s x T ho lo 3 i0 (.int .i64 0) 1 8 hT hi hz0 hz1 hz2 rfl (by decide) v n (ints zs) hs (hown.alloc _) ⟨w.heap.size, 0, none⟩ 1 1 [.int .i64 z] hx rfl ?_ ?_ ?_ ?_ ?_ ?_
  · intro j u hj
    match j, hj with
    | 0, hj => simp at hj; subst hj; simp [Addr.add]
  · intro u hu; simp at hu; subst hu; rfl
  · simp only [maxLen]; omega
  · omega
  · simp; omega
  · intro v' w' hown' hgrow _
    exact h v' w' (by rw [ints_append]; exact hown') hgrow

set_option maxHeartbeats 1000000 in
theorem spec_l01PickInt (g B : Nat) (b off cap : Nat) (zs : List Int) (w : World) (hc : CurAt B w g) (h0 : 0 < zs.length) (h1 : zs.length ≤ 256) (hb : b ≠ g) (hlt : b < w.heap.size)
    (hz : ∀ j z, zs[j]? = some z → w.cell? ⟨b, off + j, none⟩ = some (.int .i64 z)) :
    Calls Try.prog 73 #[.pointer (some ⟨g, 0, none⟩), .slice (some ⟨b, off, none⟩) zs.length cap] w fun e w' => ∃ x : Int, e = .returned (.int .i64 x) ∧ CurAt B w' g ∧ w.grownBy w' (some g) := by
  go_enter Try.func73, Try.ntmps73
  go_wp2_with fail
  refine (spec_l01Below g B _ _ hc (by omega) (by omega)).mono ?_
  rintro e w1 ⟨i, rfl, i0, i1, hc1, hg1⟩
  obtain ⟨i, rfl⟩ : ∃ n : Nat, i = (n : Int) := ⟨i.toNat, by omega⟩
  obtain ⟨x, hx⟩ : ∃ x, zs[i]? = some x := ⟨_, List.getElem?_eq_getElem (by omega)⟩
  have c1 := (gr_far hg1 hlt hb).trans (hz _ _ hx)
  have HZ := Lib.hid hz
  clear hz hx
  go_wp2
  go_ret
  exact ⟨x, rfl, hc1, hg1⟩
set_option maxRecDepth 100000 in
set_option maxHeartbeats 8000000 in
theorem spec_l09Weights (g B : Nat) (W H X : Int) (w : World) (hc : CurAt B w g) (hok : boardOk W H X = true) :
    Calls Try.prog 45 #[.pointer (some ⟨g, 0, none⟩), .agg #[.int .i64 W, .int .i64 H, .int .i64 X]] w fun e w' => ∃ A cap ws, e = .returned (.slice A ws.length cap) ∧ w'.ownsRow w.heap.size 3 1 (.slice A ws.length cap) ws.length (ints ws) ∧ ws.length = (W * H).toNat ∧ (∀ z, z ∈ ws → -1000 ≤ z ∧ z ≤ 1000) ∧ CurAt B w' g ∧ w.grownBy w' (some g) := by
  have hg := hc.1
  have hgB := hc.2.1
  have F := boardOk_facts hok
  have m1 := F.m1
  have m2 := F.m2
  have fw1 := F.w1
  have fw2 := F.w2
  have fh1 := F.h1
  have fh2 := F.h2
  obtain ⟨m, hm⟩ : ∃ m : Nat, (m : Int) = W * H := ⟨(W * H).toNat, by omega⟩
  have hmW : IntKind.i64.wrap (W * H) = W * H := by rw [IntKind.wrap_i64]; omega
  have HM := Lib.hid hm
  go_enter Try.func45, Try.ntmps45
  go_wp2_with fail
  generalize hV : w.alloc (.cells #[.int .i64 W, .int .i64 H, .int .i64 X] 40) = V
  have Bd : Cells3 V w.heap.size W H X := by subst hV; exact new3
  have hcV : CurAt B V g := by subst hV; exact hc.below (below_one _ _)
  have hgV : w.grownBy V (some g) := by subst hV; exact gr_alloc (gr_refl _ _) _
  have zV : w.heap.size < V.heap.size := by subst hV; simp
  have hVs : V.heap.size = w.heap.size + 1 := by subst hV; simp
  clear hV hc
  have hown := madeW (V := V) (s := 1) 3
  rw [hVs] at hown
  replace Bd := Bd.below (below_one V (.cells #[] 3))
  replace hcV := hcV.below (below_one V (.cells #[] 3))
  replace hgV := gr_alloc hgV (.cells #[] 3)
  have hbg : w.heap.size ≠ g := by omega
  have hgl : g < w.heap.size + 1 := by omega
  go_loopw [5, 6] (fun v s6 wr => ∃ (k : Nat) (zs : List Int), (k : Int) ≤ W * H ∧ s6 = .int .i64 k ∧ wr.ownsRow (w.heap.size + 1) 3 1 v k (ints zs) ∧ CurAt B wr g ∧ w.grownBy wr (some g) ∧ Cells3 wr w.heap.size W H X) (fun _ s6 _ => (W * H - intOf s6).toNat)
  case atStart => exact ⟨0, [], by omega, rfl, by simpa [ints] using hown, hcV, hgV, Bd⟩
  case round =>
    clear hown hcV hgV Bd
    obtain ⟨k, zs, hk, rfl, hown, hc, hgr, Bd⟩ := hrel
    have hbd := Bd
    obtain ⟨hbs, ⟨b0, b1, b2⟩, _, _, _⟩ := hbd
    by_cases hlt : (k : Int) < W * H
    · go_wp2_with fail
      refine (calls_is (spec_BoardOk _ _ _ _) hok).mono ?_
      rintro e w2 ⟨rfl, hb2⟩
      replace hown := own_below hown hb2
      replace hc := hc.below hb2
      replace hgr := gr_below hgr hb2
      replace Bd := Bd.below hb2
      clear b0 b1 b2 hbs hb2
      go_wp2_with fail
      refine (spec_l01PickInt g B _ 0 _ [0, 0, 1, 1, 2, 3, -1] _ (hc.below (below_one _ _)) (by decide) (by decide) (by have := hc.1; omega) (by simp) (by intro j z hj; match j, hj with | 0, hj => (simp at hj; subst hj; simp) | 1, hj => (simp at hj; subst hj; simp) | 2, hj => (simp at hj; subst hj; simp) | 3, hj => (simp at hj; subst hj; simp) | 4, hj => (simp at hj; subst hj; simp) | 5, hj => (simp at hj; subst hj; simp) | 6, hj => (simp at hj; subst hj; simp) | (n + 7), hj => simp at hj)).mono ?_
      rintro e w3 ⟨x, rfl, hc3, hg3⟩
      have hoA := hown.alloc (.cells #[.int .i64 0, .int .i64 0, .int .i64 1, .int .i64 1, .int .i64 2, .int .i64 3, .int .i64 (-1)] 3)
      replace hown := hoA.kept hg3 (own_notgW hoA hgl)
      clear hoA
      replace hgr := gr_trans (gr_alloc hgr _) hg3
      replace Bd := (Bd.below (below_one _ _)).grown hg3 (by simp; omega)
      clear hc hg3
      go_wp2_with (at_builtin; refine append_intW Try.underlying46 (w.heap.size + 1) _ rfl _ _ rfl _ k zs x (by rfl) hown (by rfl) (by omega) (by have := Bd.1; omega) ?_; intro v' w' hown' hgrow')
      go_roundw
      case rel => exact ⟨k + 1, zs ++ [x], by omega, by go_num, hown', (hc3.below (below_one _ _)).grown hgrow' (fun i hi => by have := (hown.lt i hi).1; omega), gr_ownW (gr_alloc hgr _) hgrow' (fun i hi => by have := (hown.lt i hi).1; omega), (Bd.below (below_one _ _)).grown hgrow' (fun e => by have := (hown.lt _ e.symm).1; omega)⟩
      case measure => simp [intOf]; omega
    · obtain rfl : k = m := by have := HM.out; omega
      rename World => W0
      have hown0 := hown
      go_wp2_with fail
      refine (spec_LinesOf _ _ _ _).mono ?_
      rintro e w2 ⟨AL, capL, rfl, oL, hb2⟩
      replace hown := own_below hown hb2
      replace hc := hc.below hb2
      replace hgr := gr_below hgr hb2
      have hW0 := Bd.1
      have hgW0 : g < W0.heap.size := by omega
      clear b0 b1 b2 hbs Bd
      have hk0 : 0 < k := by have := HM.out; omega
      have hGt : ∀ G, _ → G < W0.heap.size := fun G h => (hown0.lt G h).2
      obtain ⟨G, cap, rfl, hGlo⟩ := own_formW hown hk0
      have hGlt : G < W0.heap.size := hGt G rfl
      have hll := linesOf_len W H X
      go_wp2
      go_loopw [8] (fun s8 wr => ∃ (n : Int) (zs : List Int), s8 = .int .i64 n ∧ 0 ≤ n ∧ n ≤ 60 ∧ wr.ownsRow (w.heap.size + 1) 3 1 (.slice (some ⟨G, 0, none⟩) k cap) k (ints zs) ∧ CurAt B wr g ∧ w.grownBy wr (some g) ∧ wr.ownsRow W0.heap.size 42 3 (.slice AL (linesOf W H X).length capL) (linesOf W H X).length (ints (lflat (linesOf W H X)))) (fun s8 _ => (60 - intOf s8).toNat)
      case atStart => exact ⟨0, zs, rfl, by omega, by omega, hown, hc, hgr, oL⟩
      case round =>
        clear hown hc hgr oL hown0 hb2
        obtain ⟨n, zs, rfl, n0, n1, hown, hc, hgr, oL⟩ := hrel
        by_cases hn : n < 60
        · go_wp2_with fail
          refine (spec_l01Below g B _ _ hc (by omega) (by omega)).mono ?_
          rintro e w3 ⟨x, rfl, x0, x1, hc3, hg3⟩
          have ho3 := hown.kept hg3 (own_notgW hown hgl)
          have oL3 := oL.kept hg3 (own_notgW oL hgW0)
          have hgr3 := gr_trans hgr hg3
          clear hown hc hgr oL hg3
          by_cases hx : x < 250
          · go_wp2
            go_loopw [9, 10] (fun s9 s10 wr => ∃ (bd : Bool) (i : Nat) (zs : List Int), s9 = .bool bd ∧ s10 = .int .i64 i ∧ i ≤ (linesOf W H X).length ∧ wr.ownsRow (w.heap.size + 1) 3 1 (.slice (some ⟨G, 0, none⟩) k cap) k (ints zs) ∧ CurAt B wr g ∧ w.grownBy wr (some g) ∧ wr.ownsRow W0.heap.size 42 3 (.slice AL (linesOf W H X).length capL) (linesOf W H X).length (ints (lflat (linesOf W H X)))) (fun _ s10 _ => (linesOf W H X).length - (intOf s10).toNat)
            case atStart => exact ⟨false, 0, zs, rfl, rfl, Nat.zero_le _, ho3, hc3, hgr3, oL3⟩
            case round =>
              clear ho3 hc3 hgr3 oL3
              obtain ⟨bd, i, ys, rfl, rfl, hi, ho, hc4, hg4, oL4⟩ := hrel
              by_cases hil : i < (linesOf W H X).length
              · skip
                obtain ⟨⟨f, o, t⟩, hl⟩ : ∃ l, (linesOf W H X)[i]? = some l := ⟨_, List.getElem?_eq_getElem hil⟩
                have LFs := lines_facts (List.mem_of_getElem? hl)
                have q1 := holeW LFs.f
                have q2 := holeW LFs.o
                have q3 := holeW LFs.t
                have ap := LFs.apart
                simp only [apart3] at q1 q2 q3 ap
                clear LFs
                obtain ⟨c1, c2, c3⟩ := lflat_get hl
                have hF := FAt_of_own oL4
                obtain ⟨b, off, rfl, l1⟩ := hF _ _ c1
                obtain ⟨_, _, e2, l2⟩ := hF _ _ c2
                injection e2 with e2; injection e2 with e3 e4; subst e3 e4
                obtain ⟨_, _, e2, l3⟩ := hF _ _ c3
                injection e2 with e2; injection e2 with e3 e4; subst e3 e4
                rw [← Nat.add_assoc] at l2 l3
                obtain ⟨f, rfl⟩ : ∃ n : Nat, f = (n : Int) := ⟨f.toNat, by omega⟩
                obtain ⟨o, rfl⟩ : ∃ n : Nat, o = (n : Int) := ⟨o.toNat, by omega⟩
                obtain ⟨t, rfl⟩ : ∃ n : Nat, t = (n : Int) := ⟨t.toNat, by omega⟩
                have hkk := HM.out
                have lf : (f : Int) < k := by omega
                have lo : (o : Int) < k := by omega
                have lt : (t : Int) < k := by omega
                have lf2 : (f : Int) < W * H := by omega
                have lo2 : (o : Int) < W * H := by omega
                have lt2 : (t : Int) < W * H := by omega
                have hlen : ys.length = k := by have := ho.1; simpa [ints] using this
                obtain ⟨x, hx⟩ : ∃ x, ys[f]? = some x := ⟨_, List.getElem?_eq_getElem (by omega)⟩
                obtain ⟨y, hy⟩ : ∃ y, ys[o]? = some y := ⟨_, List.getElem?_eq_getElem (by omega)⟩
                obtain ⟨z, hz⟩ : ∃ z, ys[t]? = some z := ⟨_, List.getElem?_eq_getElem (by omega)⟩
                have k1 : wr.cell? ⟨G, f, none⟩ = some (.int .i64 x) := (ho.cellAt f (by omega)).trans (by simp [ints, hx])
                have k2 : wr.cell? ⟨G, o, none⟩ = some (.int .i64 y) := (ho.cellAt o (by omega)).trans (by simp [ints, hy])
                have k3 : wr.cell? ⟨G, t, none⟩ = some (.int .i64 z) := (ho.cellAt t (by omega)).trans (by simp [ints, hz])
                have kf : wr.frozen? ⟨G, o, none⟩ = false := ho.frozenAt o
                have HLE := Lib.hid hlen
                clear hx hy hz c1 c2 c3 hF hl hlen hkk
                obtain ⟨s, hs⟩ : ∃ s, IntKind.i64.wrap (x + y) = s := ⟨_, rfl⟩
                have hs2 : wrap64 (x + y) = s := by rw [← hs]; exact (IntWalk.i64_left _).symm
                by_cases hsz : s < z
                · obtain ⟨D, hd⟩ : ∃ D, IntKind.i64.wrap (z - x) = D := ⟨_, rfl⟩
                  have hd2 : wrap64 (z - x) = D := by rw [← hd]; exact (IntWalk.i64_left _).symm
                  have hbG : b ≠ G := by have := (oL4.lt b rfl).1; omega
                  have hto : t ≠ o := by omega
                  have hfo : f ≠ o := by omega
                  have K2 : Hid (∀ (w' : World), w'.heap = wr.heap → w'.cell? ⟨b, off + i * 3, none⟩ = some (.int .i64 f) ∧ w'.cell? ⟨b, off + i * 3 + 1, none⟩ = some (.int .i64 o) ∧ w'.cell? ⟨b, off + i * 3 + 2, none⟩ = some (.int .i64 t) ∧ w'.cell? ⟨G, t, none⟩ = some (.int .i64 z) ∧ w'.cell? ⟨G, f, none⟩ = some (.int .i64 x)) := fun w' h => ⟨(World.cell?_of_block (by rw [h])).trans l1, (World.cell?_of_block (by rw [h])).trans l2, (World.cell?_of_block (by rw [h])).trans l3, (World.cell?_of_block (by rw [h])).trans k3, (World.cell?_of_block (by rw [h])).trans k1⟩
                  have KS : Hid (∀ (w' : World) (v : Value), w'.heap = wr.heap → (w'.setCell ⟨G, o, none⟩ v).cell? ⟨b, off + i * 3, none⟩ = some (.int .i64 f) ∧ (w'.setCell ⟨G, o, none⟩ v).cell? ⟨b, off + i * 3 + 1, none⟩ = some (.int .i64 o) ∧ (w'.setCell ⟨G, o, none⟩ v).cell? ⟨b, off + i * 3 + 2, none⟩ = some (.int .i64 t) ∧ (w'.setCell ⟨G, o, none⟩ v).cell? ⟨G, t, none⟩ = some (.int .i64 z) ∧ (w'.setCell ⟨G, o, none⟩ v).cell? ⟨G, f, none⟩ = some (.int .i64 x)) := by
                    intro w' v h
                    obtain ⟨a1, a2, a3, a4, a5⟩ := K2.out w' h
                    refine ⟨?_, ?_, ?_, ?_, ?_⟩
                    · rw [World.cell?_setCell_other _ _ _ _ (by simp [hbG])]; exact a1
                    · rw [World.cell?_setCell_other _ _ _ _ (by simp [hbG])]; exact a2
                    · rw [World.cell?_setCell_other _ _ _ _ (by simp [hbG])]; exact a3
                    · rw [World.cell?_setCell_other _ _ _ _ (by simp [hto])]; exact a4
                    · rw [World.cell?_setCell_other _ _ _ _ (by simp [hfo])]; exact a5
                  go_wp2_with fail
                  go_quiet (fail)
                  go_wp2_with fail
                  refine wp_region_held_drew (S := (fun w' => w'.cell? ⟨b, off + i * 3, none⟩ = some (.int .i64 f) ∧ w'.cell? ⟨b, off + i * 3 + 1, none⟩ = some (.int .i64 o) ∧ w'.cell? ⟨b, off + i * 3 + 2, none⟩ = some (.int .i64 t) ∧ w'.cell? ⟨G, t, none⟩ = some (.int .i64 z) ∧ w'.cell? ⟨G, f, none⟩ = some (.int .i64 x))) (by kernel_rfl) ?_ (fun hHd0 => ?_)
                  · (exact K2.out _ rfl)
                  refine heldT (i := 0) rfl (by kernel_rfl) (by kernel_rfl) (by kernel_rfl) (fun _ _ _ h => h) (by rfl) (v := ?_) ?_ (by assumption) ?_
                  rotate_left
                  · (intro w hSw; (try dsimp only at hSw); go_simp; try (with_reducible rfl))
                  (try simp only [Act.put, List.setIfInBounds_toArray, List.set_cons_zero, List.set_cons_succ])
                  refine heldT (i := 1) rfl (by kernel_rfl) (by kernel_rfl) (by kernel_rfl) (fun _ _ _ h => h) (by rfl) (v := ?_) ?_ (by assumption) ?_
                  rotate_left
                  · (intro w hSw; (try dsimp only at hSw); go_simp; try (with_reducible rfl))
                  (try simp only [Act.put, List.setIfInBounds_toArray, List.set_cons_zero, List.set_cons_succ])
                  refine heldT (i := 2) rfl (by kernel_rfl) (by kernel_rfl) (by kernel_rfl) (fun _ _ _ h => h) (by rfl) (v := ?_) ?_ (by assumption) ?_
                  rotate_left
                  · (intro w hSw; (try dsimp only at hSw); go_simp; try (with_reducible rfl))
                  (try simp only [Act.put, List.setIfInBounds_toArray, List.set_cons_zero, List.set_cons_succ])
                  refine heldT (i := 3) rfl (by kernel_rfl) (by kernel_rfl) (by kernel_rfl) (fun _ _ _ h => h) (by rfl) (v := ?_) ?_ (by assumption) ?_
                  rotate_left
                  · (intro w hSw; (try dsimp only at hSw); go_simp; try (with_reducible rfl))
                  (try simp only [Act.put, List.setIfInBounds_toArray, List.set_cons_zero, List.set_cons_succ])
                  refine heldT (i := 4) rfl (by kernel_rfl) (by kernel_rfl) (by kernel_rfl) (fun _ _ _ h => h) (by rfl) (v := ?_) ?_ (by assumption) ?_
                  rotate_left
                  · (intro w hSw; (try dsimp only at hSw); go_simp; try (with_reducible rfl))
                  (try simp only [Act.put, List.setIfInBounds_toArray, List.set_cons_zero, List.set_cons_succ])
                  refine heldT (i := 5) rfl (by kernel_rfl) (by kernel_rfl) (by kernel_rfl) (fun _ _ _ h => h) (by rfl) (v := ?_) ?_ (by assumption) ?_
                  rotate_left
                  · (intro w hSw; (try dsimp only at hSw); go_simp; try (with_reducible rfl))
                  (try simp only [Act.put, List.setIfInBounds_toArray, List.set_cons_zero, List.set_cons_succ])
                  refine heldT (i := 6) rfl (by kernel_rfl) (by kernel_rfl) (by kernel_rfl) (fun _ _ _ h => h) (by rfl) (v := ?_) ?_ (by assumption) ?_
                  rotate_left
                  · (intro w hSw; (try dsimp only at hSw); go_simp; try (with_reducible rfl))
                  (try simp only [Act.put, List.setIfInBounds_toArray, List.set_cons_zero, List.set_cons_succ])
                  refine heldT (i := 7) rfl (by kernel_rfl) (by kernel_rfl) (by kernel_rfl) (fun _ _ _ h => h) (by rfl) (v := ?_) ?_ (by assumption) ?_
                  rotate_left
                  · (intro w hSw; (try dsimp only at hSw); go_simp; try (with_reducible rfl))
                  (try simp only [Act.put, List.setIfInBounds_toArray, List.set_cons_zero, List.set_cons_succ])
                  refine heldT (i := 8) rfl (by kernel_rfl) (by kernel_rfl) (by kernel_rfl) (fun _ _ _ h => h) (by rfl) (v := ?_) ?_ (by assumption) ?_
                  rotate_left
                  · (intro w hSw; (try dsimp only at hSw); go_simp; try (with_reducible rfl))
                  (try simp only [Act.put, List.setIfInBounds_toArray, List.set_cons_zero, List.set_cons_succ])
                  refine heldT (i := 9) rfl (by kernel_rfl) (by kernel_rfl) (by kernel_rfl) (fun _ _ _ h => h) (by rfl) (v := ?_) ?_ (by assumption) ?_
                  rotate_left
                  · (intro w hSw; (try dsimp only at hSw); go_simp; try (with_reducible rfl))
                  (try simp only [Act.put, List.setIfInBounds_toArray, List.set_cons_zero, List.set_cons_succ])
                  refine heldT (i := 10) rfl (by kernel_rfl) (by kernel_rfl) (by kernel_rfl) (fun _ _ _ h => h) (by rfl) (v := ?_) ?_ (by assumption) ?_
                  rotate_left
                  · (intro w hSw; (try dsimp only at hSw); go_simp; try (with_reducible rfl))
                  (try simp only [Act.put, List.setIfInBounds_toArray, List.set_cons_zero, List.set_cons_succ])
                  refine heldT (i := 11) rfl (by kernel_rfl) (by kernel_rfl) (by kernel_rfl) (fun _ _ _ h => h) (by rfl) (v := ?_) ?_ (by assumption) ?_
                  rotate_left
                  · (intro w hSw; (try dsimp only at hSw); go_simp; try (with_reducible rfl))
                  (try simp only [Act.put, List.setIfInBounds_toArray, List.set_cons_zero, List.set_cons_succ])
                  refine heldT (i := 12) rfl (by kernel_rfl) (by kernel_rfl) (by kernel_rfl) (fun _ _ _ h => h) (by rfl) (v := ?_) ?_ (by assumption) ?_
                  rotate_left
                  · (intro w hSw; (try dsimp only at hSw); go_simp; try (with_reducible rfl))
                  (try simp only [Act.put, List.setIfInBounds_toArray, List.set_cons_zero, List.set_cons_succ])
                  refine heldT (i := 13) rfl (by kernel_rfl) (by kernel_rfl) (by kernel_rfl) (fun _ _ _ h => h) (by rfl) (v := ?_) ?_ (by assumption) ?_
                  rotate_left
                  · (intro w hSw; (try dsimp only at hSw); go_simp; try (with_reducible rfl))
                  (try simp only [Act.put, List.setIfInBounds_toArray, List.set_cons_zero, List.set_cons_succ])
                  refine heldT (i := 14) rfl (by kernel_rfl) (by kernel_rfl) (by kernel_rfl) (fun _ _ _ h => h) (by rfl) (v := ?_) ?_ (by assumption) ?_
                  rotate_left
                  · (intro w hSw; (try dsimp only at hSw); go_simp; try (with_reducible rfl))
                  (try simp only [Act.put, List.setIfInBounds_toArray, List.set_cons_zero, List.set_cons_succ])
                  refine heldT (i := 15) rfl (by kernel_rfl) (by kernel_rfl) (by kernel_rfl) (fun _ _ _ h => h) (by rfl) (v := ?_) ?_ (by assumption) ?_
                  rotate_left
                  · (intro w hSw; (try dsimp only at hSw); go_simp; try (with_reducible rfl))
                  (try simp only [Act.put, List.setIfInBounds_toArray, List.set_cons_zero, List.set_cons_succ])
                  refine heldT (i := 16) rfl (by kernel_rfl) (by kernel_rfl) (by kernel_rfl) (fun _ _ _ h => h) (by rfl) (v := ?_) ?_ (by assumption) ?_
                  rotate_left
                  · (intro w hSw; (try dsimp only at hSw); go_simp; try (with_reducible rfl))
                  (try simp only [Act.put, List.setIfInBounds_toArray, List.set_cons_zero, List.set_cons_succ])
                  refine heldT (i := 17) rfl (by kernel_rfl) (by kernel_rfl) (by kernel_rfl) (fun _ _ _ h => h) (by rfl) (v := ?_) ?_ (by assumption) ?_
                  rotate_left
                  · (intro w hSw; (try dsimp only at hSw); go_simp; try (with_reducible rfl))
                  (try simp only [Act.put, List.setIfInBounds_toArray, List.set_cons_zero, List.set_cons_succ])
                  refine heldT (i := 18) rfl (by kernel_rfl) (by kernel_rfl) (by kernel_rfl) (fun _ _ _ h => h) (by rfl) (v := ?_) ?_ (by assumption) ?_
                  rotate_left
                  · (intro w hSw; (try dsimp only at hSw); go_simp; try (with_reducible rfl))
                  (try simp only [Act.put, List.setIfInBounds_toArray, List.set_cons_zero, List.set_cons_succ])
                  refine heldT (i := 19) rfl (by kernel_rfl) (by kernel_rfl) (by kernel_rfl) (fun _ _ _ h => h) (by rfl) (v := ?_) ?_ (by assumption) ?_
                  rotate_left
                  · (intro w hSw; (try dsimp only at hSw); go_simp; try (with_reducible rfl))
                  (try simp only [Act.put, List.setIfInBounds_toArray, List.set_cons_zero, List.set_cons_succ])
                  refine heldT (i := 20) rfl (by kernel_rfl) (by kernel_rfl) (by kernel_rfl) (fun _ _ _ h => h) (by rfl) (v := ?_) ?_ (by assumption) ?_
                  rotate_left
                  · (intro w hSw; (try dsimp only at hSw); go_simp; try (with_reducible rfl))
                  (try simp only [Act.put, List.setIfInBounds_toArray, List.set_cons_zero, List.set_cons_succ])
                  refine heldT (i := 21) rfl (by kernel_rfl) (by kernel_rfl) (by kernel_rfl) (fun _ _ _ h => h) (by rfl) (v := ?_) ?_ (by assumption) ?_
                  rotate_left
                  · (intro w hSw; (try dsimp only at hSw); go_simp; try (with_reducible rfl))
                  (try simp only [Act.put, List.setIfInBounds_toArray, List.set_cons_zero, List.set_cons_succ])
                  refine heldT (i := 22) rfl (by kernel_rfl) (by kernel_rfl) (by kernel_rfl) (fun _ _ _ h => h) (by rfl) (v := ?_) ?_ (by assumption) ?_
                  rotate_left
                  · (intro w hSw; (try dsimp only at hSw); go_simp; try (with_reducible rfl))
                  (try simp only [Act.put, List.setIfInBounds_toArray, List.set_cons_zero, List.set_cons_succ])
                  refine heldT (i := 23) rfl (by kernel_rfl) (by kernel_rfl) (by kernel_rfl) (fun _ _ _ h => h) (by rfl) (v := ?_) ?_ (by assumption) ?_
                  rotate_left
                  · (intro w hSw; (try dsimp only at hSw); go_simp; try (with_reducible rfl))
                  (try simp only [Act.put, List.setIfInBounds_toArray, List.set_cons_zero, List.set_cons_succ])
                  refine heldC (i := 24) rfl (by kernel_rfl) (fun K' hK => ?_)
                  go_simp
                  skip
                  (try (go_wp2_with fail))
                  refine hK.out _ _ ?_ (fun hHd1 => ?_)
                  · (exact KS.out _ _ rfl)
                  clear hK K' hHd0
                  (try simp only [Act.put, List.setIfInBounds_toArray, List.set_cons_zero, List.set_cons_succ])
                  refine wpAnyH_done (by kernel_rfl) ?_ _
                  go_wp2
                  go_roundw
                  case rel => exact ⟨true, i + 1, ys.set o D, rfl, by go_num, by omega, by rw [← ints_setW]; exact (ho.stored o _).1, CurAt.set hc4 (by omega) (by omega), gr_set3 (gr_drew (gr_drewN hg4 _)) (by omega) _ _, own_setW oL4 (by omega)⟩
                  case measure => simp [intOf]; omega
                · go_wp2_with fail
                  go_quiet (fail)
                  go_wp2
                  go_roundw
                  case rel => exact ⟨bd, i + 1, ys, rfl, by go_num, by omega, ho, hc4, gr_drewN hg4 _, oL4⟩
                  case measure => simp [intOf]; omega
              · obtain rfl : i = (linesOf W H X).length := by omega
                cases bd
                · skip
                  go_wp2
                  go_loopw [11] (fun s11 wr => ∃ (j : Nat) (zs : List Int), j ≤ k ∧ s11 = .int .i64 j ∧ wr.ownsRow (w.heap.size + 1) 3 1 (.slice (some ⟨G, 0, none⟩) k cap) k (ints zs) ∧ CurAt B wr g ∧ w.grownBy wr (some g) ∧ (∀ j' z, j' < j → zs[j']? = some z → -1000 ≤ z ∧ z ≤ 1000)) (fun s11 _ => k - (intOf s11).toNat)
                  case atStart => exact ⟨0, ys, Nat.zero_le _, rfl, ho, hc4, hg4, fun j z h => absurd h (by omega)⟩
                  case round =>
                    obtain ⟨j, ys, hj, rfl, ho, hc4, hg4, hbd⟩ := hrel
                    have HB := Lib.hid hbd
                    clear hbd
                    have hlen : ys.length = k := by have := ho.1; simpa [ints] using this
                    have HL := Lib.hid hlen
                    clear hlen
                    have hgs := Nat.lt_of_lt_of_le hGlt (show W0.heap.size ≤ W0.heap.size from Nat.le_refl _)
                    by_cases hjl : j < k
                    · obtain ⟨y, hy⟩ : ∃ y, ys[j]? = some y := ⟨_, List.getElem?_eq_getElem (by have := HL.out; omega)⟩
                      have hcell : wr.cell? ⟨G, j, none⟩ = some (.int .i64 y) := (ho.cellAt j (by omega)).trans (by simp [ints, hy])
                      have hfz : wr.frozen? ⟨G, j, none⟩ = false := ho.frozenAt j
                      clear hy
                      by_cases y1 : y < -1000
                      · skip
                        go_wp2
                        go_roundw
                        case rel => exact ⟨j + 1, ys.set j (-1000), by omega, by go_num, by rw [← ints_setW]; exact (ho.stored j _).1, hc4.set (by omega) (by omega), gr_set3 hg4 (by omega) _ _, bnd_setW HB.out (by omega)⟩
                        case measure => simp [intOf]; omega
                      · by_cases y2 : 1000 < y
                        · skip
                          go_wp2
                          go_roundw
                          case rel => exact ⟨j + 1, ys.set j 1000, by omega, by go_num, by rw [← ints_setW]; exact (ho.stored j _).1, hc4.set (by omega) (by omega), gr_set3 hg4 (by omega) _ _, bnd_setW HB.out (by omega)⟩
                          case measure => simp [intOf]; omega
                        · skip
                          go_wp2
                          go_roundw
                          case rel => exact ⟨j + 1, ys.set j y, by omega, by go_num, by rw [← ints_setW]; exact (ho.stored j _).1, hc4.set (by omega) (by omega), gr_set3 hg4 (by omega) _ _, bnd_setW HB.out (by omega)⟩
                          case measure => simp [intOf]; omega
                    · obtain rfl : j = k := by omega
                      go_wp2
                      go_ret
                      have hl := HL.out
                      refine ⟨some ⟨G, 0, none⟩, cap, ys, by rw [hl]; rfl, ?_, by rw [hl]; have := HM.out; omega, ?_, hc4, hg4⟩
                      · rw [hl]; exact ownsRow_leW ho (by omega)
                      · intro z hz
                        obtain ⟨i, hi⟩ := List.getElem?_of_mem hz
                        exact HB.out i z (by have := (List.getElem?_eq_some_iff.1 hi).1; omega) hi
                · go_wp2
                  go_roundw
                  case rel => exact ⟨n + 1, ys, by go_num, by omega, by omega, ho, hc4, hg4, oL4⟩
                  case measure => simp [intOf]; omega
          · skip
            go_wp2
            go_loopw [11] (fun s11 wr => ∃ (j : Nat) (zs : List Int), j ≤ k ∧ s11 = .int .i64 j ∧ wr.ownsRow (w.heap.size + 1) 3 1 (.slice (some ⟨G, 0, none⟩) k cap) k (ints zs) ∧ CurAt B wr g ∧ w.grownBy wr (some g) ∧ (∀ j' z, j' < j → zs[j']? = some z → -1000 ≤ z ∧ z ≤ 1000)) (fun s11 _ => k - (intOf s11).toNat)
            case atStart => exact ⟨0, zs, Nat.zero_le _, rfl, ho3, hc3, hgr3, fun j z h => absurd h (by omega)⟩
            case round =>
              obtain ⟨j, ys, hj, rfl, ho, hc4, hg4, hbd⟩ := hrel
              have HB := Lib.hid hbd
              clear hbd
              have hlen : ys.length = k := by have := ho.1; simpa [ints] using this
              have HL := Lib.hid hlen
              clear hlen
              have hgs := Nat.lt_of_lt_of_le hGlt (show W0.heap.size ≤ W0.heap.size from Nat.le_refl _)
              by_cases hjl : j < k
              · obtain ⟨y, hy⟩ : ∃ y, ys[j]? = some y := ⟨_, List.getElem?_eq_getElem (by have := HL.out; omega)⟩
                have hcell : wr.cell? ⟨G, j, none⟩ = some (.int .i64 y) := (ho.cellAt j (by omega)).trans (by simp [ints, hy])
                have hfz : wr.frozen? ⟨G, j, none⟩ = false := ho.frozenAt j
                clear hy
                by_cases y1 : y < -1000
                · skip
                  go_wp2
                  go_roundw
                  case rel => exact ⟨j + 1, ys.set j (-1000), by omega, by go_num, by rw [← ints_setW]; exact (ho.stored j _).1, hc4.set (by omega) (by omega), gr_set3 hg4 (by omega) _ _, bnd_setW HB.out (by omega)⟩
                  case measure => simp [intOf]; omega
                · by_cases y2 : 1000 < y
                  · skip
                    go_wp2
                    go_roundw
                    case rel => exact ⟨j + 1, ys.set j 1000, by omega, by go_num, by rw [← ints_setW]; exact (ho.stored j _).1, hc4.set (by omega) (by omega), gr_set3 hg4 (by omega) _ _, bnd_setW HB.out (by omega)⟩
                    case measure => simp [intOf]; omega
                  · skip
                    go_wp2
                    go_roundw
                    case rel => exact ⟨j + 1, ys.set j y, by omega, by go_num, by rw [← ints_setW]; exact (ho.stored j _).1, hc4.set (by omega) (by omega), gr_set3 hg4 (by omega) _ _, bnd_setW HB.out (by omega)⟩
                    case measure => simp [intOf]; omega
              · obtain rfl : j = k := by omega
                go_wp2
                go_ret
                have hl := HL.out
                refine ⟨some ⟨G, 0, none⟩, cap, ys, by rw [hl]; rfl, ?_, by rw [hl]; have := HM.out; omega, ?_, hc4, hg4⟩
                · rw [hl]; exact ownsRow_leW ho (by omega)
                · intro z hz
                  obtain ⟨i, hi⟩ := List.getElem?_of_mem hz
                  exact HB.out i z (by have := (List.getElem?_eq_some_iff.1 hi).1; omega) hi
        · skip
          go_wp2
          go_loopw [11] (fun s11 wr => ∃ (j : Nat) (zs : List Int), j ≤ k ∧ s11 = .int .i64 j ∧ wr.ownsRow (w.heap.size + 1) 3 1 (.slice (some ⟨G, 0, none⟩) k cap) k (ints zs) ∧ CurAt B wr g ∧ w.grownBy wr (some g) ∧ (∀ j' z, j' < j → zs[j']? = some z → -1000 ≤ z ∧ z ≤ 1000)) (fun s11 _ => k - (intOf s11).toNat)
          case atStart => exact ⟨0, zs, Nat.zero_le _, rfl, hown, hc, hgr, fun j z h => absurd h (by omega)⟩
          case round =>
            obtain ⟨j, ys, hj, rfl, ho, hc4, hg4, hbd⟩ := hrel
            have HB := Lib.hid hbd
            clear hbd
            have hlen : ys.length = k := by have := ho.1; simpa [ints] using this
            have HL := Lib.hid hlen
            clear hlen
            have hgs := Nat.lt_of_lt_of_le hGlt (show W0.heap.size ≤ W0.heap.size from Nat.le_refl _)
            by_cases hjl : j < k
            · obtain ⟨y, hy⟩ : ∃ y, ys[j]? = some y := ⟨_, List.getElem?_eq_getElem (by have := HL.out; omega)⟩
              have hcell : wr.cell? ⟨G, j, none⟩ = some (.int .i64 y) := (ho.cellAt j (by omega)).trans (by simp [ints, hy])
              have hfz : wr.frozen? ⟨G, j, none⟩ = false := ho.frozenAt j
              clear hy
              by_cases y1 : y < -1000
              · skip
                go_wp2
                go_roundw
                case rel => exact ⟨j + 1, ys.set j (-1000), by omega, by go_num, by rw [← ints_setW]; exact (ho.stored j _).1, hc4.set (by omega) (by omega), gr_set3 hg4 (by omega) _ _, bnd_setW HB.out (by omega)⟩
                case measure => simp [intOf]; omega
              · by_cases y2 : 1000 < y
                · skip
                  go_wp2
                  go_roundw
                  case rel => exact ⟨j + 1, ys.set j 1000, by omega, by go_num, by rw [← ints_setW]; exact (ho.stored j _).1, hc4.set (by omega) (by omega), gr_set3 hg4 (by omega) _ _, bnd_setW HB.out (by omega)⟩
                  case measure => simp [intOf]; omega
                · skip
                  go_wp2
                  go_roundw
                  case rel => exact ⟨j + 1, ys.set j y, by omega, by go_num, by rw [← ints_setW]; exact (ho.stored j _).1, hc4.set (by omega) (by omega), gr_set3 hg4 (by omega) _ _, bnd_setW HB.out (by omega)⟩
                  case measure => simp [intOf]; omega
            · obtain rfl : j = k := by omega
              go_wp2
              go_ret
              have hl := HL.out
              refine ⟨some ⟨G, 0, none⟩, cap, ys, by rw [hl]; rfl, ?_, by rw [hl]; have := HM.out; omega, ?_, hc4, hg4⟩
              · rw [hl]; exact ownsRow_leW ho (by omega)
              · intro z hz
                obtain ⟨i, hi⟩ := List.getElem?_of_mem hz
                exact HB.out i z (by have := (List.getElem?_eq_some_iff.1 hi).1; omega) hi
end Go.Proofs.Ytmdpacgoijnonaa

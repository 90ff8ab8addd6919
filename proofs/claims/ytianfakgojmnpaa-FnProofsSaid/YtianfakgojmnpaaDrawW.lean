/- Drawn weights of a sound board: as many as it has cells, each between -1000 and 1000. -/
import Derived.Test.YtianfakgojmnpaaDrawB
import Derived.Test.YtianfakgojmnpaaSpread
import Derived.Test.YtianfakgojmnpaaLinesOf
import Derived.BigQuiet
import Derived.Deep.QuietTactic
namespace Go.Proofs.Ytianfakgojmnpaa
open Go.RowKit

theorem own_notgW {w : World} {lo e s n g : Nat} {v : Value} {c : List Value} (h : w.ownsRow lo e s v n c) (hg : g < lo) : v.ownBlock = none ∨ v.ownBlock ≠ some g := by
  cases hv : v.ownBlock with
  | none => exact .inl rfl
  | some k => exact .inr fun e => by injection e with e; have := (h.lt k hv).1; omega
theorem gr_ownW {a b c : World} {g : Nat} {row : Option Nat} (h : a.grownBy b (some g)) (k : b.grownBy c row) (hr : ∀ j, row = some j → a.heap.size ≤ j) : a.grownBy c (some g) :=
  ⟨k.os.trans h.os, k.tape.trans h.tape, k.output.trans h.output, Nat.le_trans h.size k.size, fun i hi hne => (k.block i (Nat.lt_of_lt_of_le hi h.size) (fun e => by have := hr i e.symm; omega)).trans (h.block i hi hne)⟩
theorem madeW {V : World} {s : Nat} (e : TypeId) : (V.alloc (.cells #[] e)).ownsRow V.heap.size e s (.slice (some ⟨V.heap.size, 0, none⟩) 0 0) 0 [] :=
  World.ownsRow_made _ _ _ (Nat.le_refl _) (by simp [maxLen]) (by simp)
theorem own_setW {w : World} {lo e s n k j : Nat} {v u : Value} {c : List Value} (h : w.ownsRow lo e s v n c) (hk : k < lo) : (w.setCell ⟨k, j, none⟩ u).ownsRow lo e s v n c :=
  h.kept (row := some k) ⟨rfl, rfl, rfl, by simp, fun i _ hne => heap_setCell_other w ⟨k, j, none⟩ i u (fun e => hne (by simp [e]))⟩ (own_notgW h hk)
theorem own_formW {w : World} {lo e s n : Nat} {v : Value} {cs : List Value} (h : w.ownsRow lo e s v n cs) (hn : 0 < n) : ∃ G cap, v = .slice (some ⟨G, 0, none⟩) n cap ∧ lo ≤ G := by
  rcases h.2 with ⟨_, rfl⟩ | ⟨g, cap, cur, rfl, hlo, _⟩
  · omega
  · exact ⟨g, cap, rfl, hlo⟩
theorem holeW {W H X k : Int} (h : hasHole W H X k = true) : 0 ≤ k ∧ k ≤ W * H - 1 := by
  simp only [hasHole, Bool.and_eq_true] at h
  exact inB_iff.1 h.1.2
theorem ownsRow_leW {w : World} {lo lo' e s n : Nat} {v : Value} {cs : List Value} (h : w.ownsRow lo e s v n cs) (hl : lo' ≤ lo) : w.ownsRow lo' e s v n cs := own_lower h hl
theorem bnd_setW {zs : List Int} {k : Nat} {c : Int} (h : ∀ j z, j < k → zs[j]? = some z → -1000 ≤ z ∧ z ≤ 1000) (hc : -1000 ≤ c ∧ c ≤ 1000) : ∀ j z, j < k + 1 → (zs.set k c)[j]? = some z → -1000 ≤ z ∧ z ≤ 1000 := by
  intro j z hj hz
  by_cases e : j = k
  · subst e
    rw [List.getElem?_set] at hz
    split at hz
    · split at hz
      · injection hz with hz; omega
      · cases hz
    · rename_i h; exact absurd rfl h
  · rw [List.getElem?_set_ne (fun e2 => e e2.symm)] at hz
    exact h j z (by omega) hz
theorem ints_setW (zs : List Int) (j : Nat) (x : Int) : (ints zs).set j (.int .i64 x) = ints (zs.set j x) := by simp [ints, List.map_set]
theorem append_intW {ops : Array Oper} {rest : List Oper} {o : Oper} {a : Act} {Q : Exit → Act → World → Prop} {T : TypeId} (hT : Try.prog.underlying T = some (.slice 3)) (lo : Nat) (w : World) (hgd : o.guard = none) (s x : Operand)
    (ho : o.op = .call { callee := .builtin .append, args := #[s, x], argTypes := #[T, T] }) (v : Value) (n : Nat) (zs : List Int) (z : Int) (hs : a.eval s = v)
    (hown : w.ownsRow lo 3 1 v n (ints zs)) (hx : a.eval x = .slice (some ⟨w.heap.size, 0, none⟩) 1 1) (hn : n ≤ 4294967296) (hlo : lo ≤ w.heap.size)
    (h : ∀ v' w', w'.ownsRow lo 3 1 v' (n + 1) (ints (zs ++ [z])) → (w.alloc (.cells #[.int .i64 z] 3)).grownBy w' v.ownBlock → wpList Try.prog ops Q rest (a.put o.dst v') w') :
    wpList Try.prog ops Q (o :: rest) a (w.alloc (.cells #[.int .i64 z] 3)) := by
  obtain ⟨i0, hi, hz0, hz1, hz2⟩ := info_parts int_info
  refine wpList_append_own _ hgd s x T ho lo 3 i0 (.int .i64 0) 1 8 hT hi hz0 hz1 hz2 rfl (by decide) v n (ints zs) hs (hown.alloc _) ⟨w.heap.size, 0, none⟩ 1 1 [.int .i64 z] hx rfl ?_ ?_ ?_ ?_ ?_ ?_
  · intro j u hj
    match j, hj with
    | 0, hj => simp at hj; subst hj; simp [Addr.add]
  · intro u hu; simp at hu; subst hu; rfl
  · simp only [maxLen]; omega
  · omega
  · simp; omega
  · intro v' w' hown' hgrow _
    exact h v' w' (by rw [ints_append]; exact hown') hgrow

set_option maxHeartbeats 1000000 in
theorem spec_l01PickInt (g B : Nat) (b off cap : Nat) (zs : List Int) (w : World) (hc : CurAt B w g) (h0 : 0 < zs.length) (h1 : zs.length ≤ 256) (hb : b ≠ g) (hlt : b < w.heap.size)
    (hz : ∀ j z, zs[j]? = some z → w.cell? ⟨b, off + j, none⟩ = some (.int .i64 z)) :
    Calls Try.prog 143 #[.pointer (some ⟨g, 0, none⟩), .slice (some ⟨b, off, none⟩) zs.length cap] w fun e w' => ∃ x : Int, e = .returned (.int .i64 x) ∧ CurAt B w' g ∧ w.grownBy w' (some g) := by
  go_enter Try.func143, Try.ntmps143
  go_wp2_with fail
  refine (spec_l01Below g B _ _ hc (by omega) (by omega)).mono ?_
  rintro e w1 ⟨i, rfl, i0, i1, hc1, hg1⟩
  obtain ⟨i, rfl⟩ : ∃ n : Nat, i = (n : Int) := ⟨i.toNat, by omega⟩
  obtain ⟨x, hx⟩ : ∃ x, zs[i]? = some x := ⟨_, List.getElem?_eq_getElem (by omega)⟩
  have c1 := (gr_far hg1 hlt hb).trans (hz _ _ hx)
  have HZ := Lib.hid hz
  clear hz hx
  go_wp2
  go_ret
  exact ⟨x, rfl, hc1, hg1⟩
end Go.Proofs.Ytianfakgojmnpaa

/- The lines of a board: mathematics and contracts. -/
import Derived.Test.YtnobnahngjbmfaaLines
namespace Go.Proofs.Ytnobnahngjbmfaa
open Go.RowKit

def lflat (l : List (Int × Int × Int)) : List Int := l.flatMap fun x => [x.1, x.2.1, x.2.2]
theorem lflat_append (a b : List (Int × Int × Int)) : lflat (a ++ b) = lflat a ++ lflat b := by simp [lflat]
theorem lflat_len (a : List (Int × Int × Int)) : (lflat a).length = a.length * 3 := by
  induction a with
  | nil => rfl
  | cons x a ih => simp only [lflat, List.flatMap_cons, List.length_append, List.length_cons, List.length_nil] at ih ⊢; omega
theorem lflat_get : ∀ {a : List (Int × Int × Int)} {k : Nat} {f o t : Int}, a[k]? = some (f, o, t) → (lflat a)[k * 3]? = some f ∧ (lflat a)[k * 3 + 1]? = some o ∧ (lflat a)[k * 3 + 2]? = some t := by
  intro a
  induction a with
  | nil => intro k f o t h; simp at h
  | cons x a ih =>
    intro k f o t h
    cases k with
    | zero =>
      simp at h; subst h
      simp [lflat]
    | succ k =>
      simp at h
      have := ih h
      rw [show (k + 1) * 3 = k * 3 + 3 from by omega]
      have e : ∀ j, (lflat (x :: a))[j + 3]? = (lflat a)[j]? := fun j => by simp [lflat]
      exact ⟨by rw [e]; exact this.1, by rw [show k * 3 + 3 + 1 = k * 3 + 1 + 3 from by omega, e]; exact this.2.1, by rw [show k * 3 + 3 + 2 = k * 3 + 2 + 3 from by omega, e]; exact this.2.2⟩

def lineAt (W H X k : Int) (way : Nat) : List (Int × Int × Int) :=
  if 0 ≤ stepAt W H X (stepAt W H X k way) way then [(k, stepAt W H X k way, stepAt W H X (stepAt W H X k way) way)] else []
def linesFrom (W H X k : Int) (m : Nat) : List (Int × Int × Int) := (List.range m).flatMap (lineAt W H X k)
def linesTo (W H X : Int) (hs : List Nat) : List (Int × Int × Int) := hs.flatMap fun (k : Nat) => linesFrom W H X (k : Int) 4
def linesOf (W H X : Int) : List (Int × Int × Int) := linesTo W H X (holes W H X)

theorem linesFrom_succ (W H X k : Int) (m : Nat) : linesFrom W H X k (m + 1) = linesFrom W H X k m ++ lineAt W H X k m := by simp [linesFrom, List.range_succ]
theorem linesTo_snoc (W H X : Int) (hs : List Nat) (k : Nat) : linesTo W H X (hs ++ [k]) = linesTo W H X hs ++ linesFrom W H X (k : Int) 4 := by simp [linesTo]
theorem lineAt_len (W H X k : Int) (way : Nat) : (lineAt W H X k way).length ≤ 1 := by unfold lineAt; split <;> simp
theorem linesFrom_len (W H X k : Int) (m : Nat) : (linesFrom W H X k m).length ≤ m := by
  induction m with
  | zero => simp [linesFrom]
  | succ m ih => rw [linesFrom_succ, List.length_append]; have := lineAt_len W H X k m; omega
theorem linesTo_len (W H X : Int) (hs : List Nat) : (linesTo W H X hs).length ≤ hs.length * 4 := by
  induction hs with
  | nil => simp [linesTo]
  | cons k hs ih => simp only [linesTo, List.flatMap_cons, List.length_append, List.length_cons] at ih ⊢; have := linesFrom_len W H X (k : Int) 4; omega
theorem linesOf_len (W H X : Int) : (linesOf W H X).length ≤ 196 := by
  have := linesTo_len W H X (holes W H X); have := holes_small W H X; unfold linesOf; omega

theorem stepTo_hole {W H X x y : Int} (hb : boardOk W H X = true) (h : 0 ≤ stepTo W H X x y) : hasHole W H X (stepTo W H X x y) = true := by
  have F := boardOk_facts hb
  unfold stepTo at h ⊢
  split at h
  · rename_i hh
    rw [if_pos hh]
    obtain ⟨r1, r2, r3, r4⟩ := row_bd F.w1 F.w2 F.h2 hh.1 hh.2.1
    simp [hasHole, hb, inB_iff, hh.2.2, r3, r4]
  · omega
theorem holes_hole {W H X : Int} {j : Nat} (h : j ∈ holes W H X) : hasHole W H X j = true ∧ inB (j : Int) 0 (W * H - 1) = true ∧ boardOk W H X = true := by
  unfold holes at h
  split at h
  · rename_i hb
    obtain ⟨h1, h2⟩ := bitsTo_mem.1 h
    have h3 : inB (j : Int) 0 (W * H - 1) = true := inB_iff.2 ⟨by omega, by omega⟩
    exact ⟨by simp [hasHole, hb, h3, bitI, h2], h3, hb⟩
  · simp at h
theorem stepAt_none (W H X way : Int) : stepAt W H X (-1) way = -1 := by
  have : hasHole W H X (-1) = false := by simp [hasHole, inB]
  simp [stepAt, this]
theorem stepAt_ge (W H X k way : Int) : -1 ≤ stepAt W H X k way := by
  unfold stepAt stepIn stepTo
  split
  · split
    · rename_i h1 h2
      have h3 : boardOk W H X = true := by simp only [hasHole, Bool.and_eq_true] at h1; exact h1.1.1
      have F := boardOk_facts h3
      have := row_bd F.w1 F.w2 F.h2 h2.1 h2.2.1
      omega
    · omega
  · omega

theorem stepAt_hole {W H X k way : Int} (h : 0 ≤ stepAt W H X k way) : hasHole W H X (stepAt W H X k way) = true := by
  unfold stepAt at h ⊢
  split at h
  · rename_i h1
    rw [if_pos h1]
    have h3 : boardOk W H X = true := by simp only [hasHole, Bool.and_eq_true] at h1; exact h1.1.1
    unfold stepIn at h ⊢
    exact stepTo_hole h3 h
  · omega

theorem line_info : (Try.prog.info? 61).map (fun i => (i.zero, i.size, i.bytes)) = some (some (.agg #[.int .i64 0, .int .i64 0, .int .i64 0]), 3, 24) := by kernel_rfl

theorem own_types {w : World} {lo1 lo2 e1 e2 s1 s2 n1 n2 : Nat} {v1 v2 : Value} {c1 c2 : List Value} (h1 : w.ownsRow lo1 e1 s1 v1 n1 c1) (h2 : w.ownsRow lo2 e2 s2 v2 n2 c2) (hne : e1 ≠ e2) :
    v1.ownBlock = none ∨ v1.ownBlock ≠ v2.ownBlock := by
  rcases h1.2 with ⟨rfl, _⟩ | ⟨g, cap, cur, rfl, _, hg, _⟩
  · exact .inl rfl
  · refine .inr fun e => ?_
    rcases h2.2 with ⟨rfl, _⟩ | ⟨g', cap', cur', rfl, _, hg', _⟩
    · simp [Value.ownBlock] at e
    · simp [Value.ownBlock] at e
      subst e
      rw [hg] at hg'
      injection hg' with hg'
      injection hg' with _ ht
      exact hne ht

/-- one line more, appended to a slice of the call's own; what other slices hold stays -/
theorem append_line {ops : Array Oper} {rest : List Oper} {o : Oper} {a : Act} {Q : Exit → Act → World → Prop} {T : TypeId} (hT : Try.prog.underlying T = some (.slice 61)) (V w : World) (hgd : o.guard = none) (s x : Operand)
    (ho : o.op = .call { callee := .builtin .append, args := #[s, x], argTypes := #[T, T] }) (v : Value) (n : Nat) (zs : List (Int × Int × Int)) (p q r : Int) (hs : a.eval s = v)
    (hown : w.ownsRow V.heap.size 61 3 v n (ints (lflat zs))) (hx : a.eval x = .slice (some ⟨w.heap.size, 0, none⟩) 1 1) (hn : n ≤ 4294967296) (hbel : Below V.heap.size V w)
    (h : ∀ v' w', w'.ownsRow V.heap.size 61 3 v' (n + 1) (ints (lflat (zs ++ [(p, q, r)]))) → Below V.heap.size V w' → (w.alloc (.cells #[.int .i64 p, .int .i64 q, .int .i64 r] 61)).grownBy w' v.ownBlock → wpList Try.prog ops Q rest (a.put o.dst v') w') :
    wpList Try.prog ops Q (o :: rest) a (w.alloc (.cells #[.int .i64 p, .int .i64 q, .int .i64 r] 61)) := by
  obtain ⟨i0, hi, hz0, hz1, hz2⟩ := info_parts line_info
  refine wpList_append_own _ hgd s x T ho V.heap.size 61 i0 (.agg #[.int .i64 0, .int .i64 0, .int .i64 0]) 3 24 hT hi hz0 hz1 hz2 rfl (by decide) v n (ints (lflat zs)) hs (hown.alloc _) ⟨w.heap.size, 0, none⟩ 1 1 [.int .i64 p, .int .i64 q, .int .i64 r] hx rfl ?_ ?_ ?_ ?_ ?_ ?_
  · intro j u hj
    match j, hj with
    | 0, hj => simp at hj; subst hj; simp [Addr.add]
    | 1, hj => simp at hj; subst hj; simp [Addr.add]
    | 2, hj => simp at hj; subst hj; simp [Addr.add]
  · intro u hu; simp at hu; rcases hu with rfl | rfl | rfl <;> rfl
  · simp only [maxLen]; omega
  · omega
  · have := hbel.size; simp; omega
  · intro v' w' hown' hgrow _
    refine h v' w' (by rw [lflat_append, ints_append]; exact hown') ?_ hgrow
    refine ((below_alloc hbel _).grown hgrow (by have := hbel.size; simp; omega) ?_)
    intro k hk
    exact (hown.lt k hk).1

end Go.Proofs.Ytnobnahngjbmfaa

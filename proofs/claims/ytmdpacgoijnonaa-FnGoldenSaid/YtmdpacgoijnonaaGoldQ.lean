/- Golden numbers: what FnGolden reckons with. -/
import Derived.Test.YtmdpacgoijnonaaDrawG
import Derived.Test.YtmdpacgoijnonaaGoldD
import Derived.Test.YtmdpacgoijnonaaGoldE
import Derived.Test.YtmdpacgoijnonaaGoldZ
namespace Go.Proofs.Ytmdpacgoijnonaa
open Go.RowKit

theorem cellb_lt3 {w : World} {b o : Nat} {v : Value} (h : w.cell? ⟨b, o, none⟩ = some v) : b < w.heap.size := by
  rcases Nat.lt_or_ge b w.heap.size with h1 | h1
  · exact h1
  · simp [World.cell?, Array.getElem?_eq_none h1] at h
theorem calls_is3 {P : Program} {f : FuncId} {args : Array Value} {w : World} {a b p q : Int} {r s : Bool} {R : World → Prop} (h : Calls P f args w fun e w' => e = .returned (.tuple #[.agg #[.int .i64 a, .int .i64 b], .bool r]) ∧ R w') (e1 : a = p) (e2 : b = q) (e3 : r = s) :
    Calls P f args w fun e w' => e = .returned (.tuple #[.agg #[.int .i64 p, .int .i64 q], .bool s]) ∧ R w' := by subst e1 e2 e3; exact h
theorem calls_isI {P : Program} {f : FuncId} {args : Array Value} {w : World} {a b : Int} {R : World → Prop} (h : Calls P f args w fun e w' => e = .returned (.int .i64 a) ∧ R w') (e1 : a = b) :
    Calls P f args w fun e w' => e = .returned (.int .i64 b) ∧ R w' := by subst e1; exact h
theorem calls_isG {P : Program} {f : FuncId} {args : Array Value} {w : World} {a b p q : Int} {R : World → Prop} (h : Calls P f args w fun e w' => e = .returned (.agg #[.int .i64 a, .int .i64 b]) ∧ R w') (e1 : a = p) (e2 : b = q) :
    Calls P f args w fun e w' => e = .returned (.agg #[.int .i64 p, .int .i64 q]) ∧ R w' := by subst e1 e2; exact h

/-- what the draw gives, and what is reckoned of it -/
structure Golden (a b c d x y P Q : Int) (one : Bool) (s1 s2 t : Int) (eq : Bool) (Y1 Y2 : Int) (five : Bool) (U1 U2 : Int) (six : Bool) (V1 V2 : Int) (seven : Bool) (Z1 Z2 : Int) (ok : Bool) : Prop where
  pA : mulA a b c d = P
  pB : mulB a b c d = Q
  pK : mulOk a b c d = one
  qA : mulA c d a b = P
  qB : mulB c d a b = Q
  qK : mulOk c d a b = one
  sA : addA a b c d = a + c
  sB : addB a b c d = b + d
  sK : addK a b c d = true
  m1 : one = true → signOf P Q = s1 * s2
  m2 : signOf a b = s1
  m3 : signOf c d = s2
  mb : -4 ≤ s1 * s2 ∧ s1 * s2 ≤ 4
  yA : mulA (a + c) (b + d) x y = Y1
  yB : mulB (a + c) (b + d) x y = Y2
  yK : mulOk (a + c) (b + d) x y = five
  uA : mulA a b x y = U1
  uB : mulB a b x y = U2
  uK : mulOk a b x y = six
  vA : mulA c d x y = V1
  vB : mulB c d x y = V2
  vK : mulOk c d x y = seven
  zA : addA U1 U2 V1 V2 = Z1
  zB : addB U1 U2 V1 V2 = Z2
  zK : addK U1 U2 V1 V2 = ok
  ze : five = true → six = true → seven = true → ok = true → Z1 = Y1 ∧ Z2 = Y2
  c1 : compareGold a b c d = t
  c2 : compareGold c d a b = -t
  tb : -1 ≤ t ∧ t ≤ 1
  eqt : (t == 0) = eq
  eqg : (decide (a = c) && decide (b = d)) = eq
  g1 : goldOk a b = true
structure GoldenN (n k1 k2 e1 e2 f1 f2 : Int) : Prop where
  w1 : powA (n + 1) = e1
  w2 : powB (n + 1) = e2
  w3 : powA (n + 2) = f1
  w4 : powB (n + 2) = f2
  w5 : powA n = k1
  w6 : powB n = k2
  aA : addA e1 e2 f1 f2 = k1
  aB : addB e1 e2 f1 f2 = k2
  aK : addK e1 e2 f1 f2 = true
  sg : signOf k1 k2 = 1
  cp : compareGold e1 e2 k1 k2 = -1

theorem goldenN {n : Int} (h0 : 0 ≤ n) (h1 : n ≤ 18) : ∃ k1 k2 e1 e2 f1 f2, GoldenN n k1 k2 e1 e2 f1 f2 := by
  refine ⟨_, _, _, _, _, _, rfl, rfl, rfl, rfl, rfl, rfl, ?_, ?_, ?_, ?_, ?_⟩
  all_goals
    obtain ⟨m, rfl⟩ : ∃ m : Nat, n = m := ⟨n.toNat, by omega⟩
    have : m ∈ List.range 19 := by simp; omega
    clear h0 h1
    revert m
    decide
theorem wrap_small {m : Int} (h1 : -4 ≤ m) (h2 : m ≤ 4) : IntKind.i64.wrap m = m := by
  have : m = -4 ∨ m = -3 ∨ m = -2 ∨ m = -1 ∨ m = 0 ∨ m = 1 ∨ m = 2 ∨ m = 3 ∨ m = 4 := by omega
  rcases this with h | h | h | h | h | h | h | h | h <;> subst h <;> decide
theorem golden_of {a b c d x y : Int} (hg : smallG a b) (hh : smallG c d) (hx : smallG x y) :
    ∃ P Q one s1 s2 t eq Y1 Y2 five U1 U2 six V1 V2 seven Z1 Z2 ok, Golden a b c d x y P Q one s1 s2 t eq Y1 Y2 five U1 U2 six V1 V2 seven Z1 Z2 ok := by
  obtain ⟨a1, a2, b1, b2⟩ := hg
  obtain ⟨c1, c2, d1, d2⟩ := hh
  have gk1 : goldOk a b = true := goldOk_iff.2 ⟨⟨by omega, by omega⟩, ⟨by omega, by omega⟩⟩
  have gk2 : goldOk c d = true := goldOk_iff.2 ⟨⟨by omega, by omega⟩, ⟨by omega, by omega⟩⟩
  have gk3 : goldOk (a + c) (b + d) = true := goldOk_iff.2 ⟨⟨by omega, by omega⟩, ⟨by omega, by omega⟩⟩
  obtain ⟨m1, m2, m3, m4, m5, m6, m7, m8, m9, m10, m11, m12⟩ := golden_math (x := x) (y := y) gk1 gk2 gk3
  exact ⟨_, _, _, _, _, _, _, _, _, _, _, _, _, _, _, _, _, _, _, rfl, rfl, rfl, m1, m2, m3, m4, m5, m6, m7, rfl, rfl, m8, rfl, rfl, rfl, rfl, rfl, rfl, rfl, rfl, rfl, rfl, rfl, rfl, m9, rfl, m10, m11, rfl, m12, gk1⟩

end Go.Proofs.Ytmdpacgoijnonaa

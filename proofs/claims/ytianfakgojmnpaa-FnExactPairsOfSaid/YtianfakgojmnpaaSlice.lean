/- Slices of integers and of structs of integers, as flat lists: what reads, what is owned; the laws' helpers. -/
import Derived.Test.YtianfakgojmnpaaBase
import Derived.Laws.AppendOwn
import Derived.OwnWalk
import Derived.WalkSmall
namespace Go.Proofs.Ytianfakgojmnpaa
open Go.RowKit

/-- the numbers zs lie, one behind the other, at A -/
def FAt (w : World) (A : Option Addr) (zs : List Int) : Prop :=
  ∀ j z, zs[j]? = some z → ∃ b off, A = some ⟨b, off, none⟩ ∧ w.cell? ⟨b, off + j, none⟩ = some (.int .i64 z)

def ints (zs : List Int) : List Value := zs.map (Value.int .i64)

theorem ints_get {zs : List Int} {j : Nat} {z : Int} (h : zs[j]? = some z) : (ints zs)[j]? = some (.int .i64 z) := by simp [ints, h]
theorem ints_len (zs : List Int) : (ints zs).length = zs.length := by simp [ints]
theorem ints_append (a b : List Int) : ints (a ++ b) = ints a ++ ints b := by simp [ints]
theorem ints_one {zs : List Int} : ∀ u ∈ ints zs, u.oneCell' = true := by
  intro u hu
  simp only [ints, List.mem_map] at hu
  obtain ⟨z, _, rfl⟩ := hu
  rfl

theorem FAt.below {w w' : World} {A : Option Addr} {zs : List Int} (h : FAt w A zs) (hb : Below w.heap.size w w') : FAt w' A zs := by
  intro j z hz
  obtain ⟨b, off, hA, hc⟩ := h j z hz
  exact ⟨b, off, hA, (hb.cell (p := ⟨b, off + j, none⟩) (World.block_lt_of_cell? w _ hc)).trans hc⟩

section
variable {w w' : World} {lo : Nat} {e : TypeId} {s : Nat} {A : Option Addr} {n cap : Nat} {zs : List Int} {v : Value} {cs : List Value}

theorem own_shape (h : w.ownsRow lo e s v n cs) : ∃ A cap, v = .slice A n cap := by
  rcases h.2 with ⟨rfl, rfl⟩ | ⟨g, cap, cur, rfl, _⟩
  · exact ⟨none, 0, rfl⟩
  · exact ⟨_, _, rfl⟩

theorem FAt_of_own (h : w.ownsRow lo e s (.slice A n cap) n (ints zs)) : FAt w A zs := by
  intro j z hz
  rcases h.2 with ⟨hv, hn⟩ | ⟨g, cap', cur, hv, _⟩
  · have h1 := h.1
    rw [ints_len, hn] at h1
    have := (List.getElem?_eq_some_iff.1 hz).1
    omega
  · have hA : A = some ⟨g, 0, none⟩ := by injection hv
    refine ⟨g, 0, hA, ?_⟩
    have := h.cells (g := g) (by rw [hA]; rfl) j _ (ints_get hz)
    have ha : (⟨g, 0, none⟩ : Addr).add j = ⟨g, 0 + j, none⟩ := by unfold Addr.add; split <;> simp_all
    rwa [ha] at this

theorem own_below (h : w.ownsRow lo e s v n cs) (hb : Below w.heap.size w w') : w'.ownsRow lo e s v n cs :=
  h.kept (row := none) ⟨hb.os, hb.tape, hb.output, hb.size, fun k hk _ => hb.block k hk⟩ (by cases hv : v.ownBlock <;> simp)

theorem own_lower {lo' : Nat} (h : w.ownsRow lo e s v n cs) (hl : lo' ≤ lo) : w.ownsRow lo' e s v n cs := by
  refine ⟨h.1, ?_⟩
  rcases h.2 with hn | ⟨g, cap, cur, hv, hb, r⟩
  · exact .inl hn
  · exact .inr ⟨g, cap, cur, hv, by omega, r⟩

theorem own_top (h : w.ownsRow lo e s v n cs) : ∀ k, v.ownBlock = some k → k < w.heap.size := fun k hk => (h.lt k hk).2
theorem own_apart {v1 : Value} {B : Nat} (Q : ∀ k, v1.ownBlock = some k → k < B) (h : w.ownsRow B e s v n cs) : v1.ownBlock = none ∨ v1.ownBlock ≠ v.ownBlock := by
  cases hv : v1.ownBlock with
  | none => exact .inl rfl
  | some k =>
    refine .inr fun e => ?_
    have h1 := Q k hv
    have h2 := (h.lt k e.symm).1
    omega
theorem own_apart' {v1 : Value} {B : Nat} (Q : ∀ k, v1.ownBlock = some k → k < B) (h : w.ownsRow B e s v n cs) : v.ownBlock = none ∨ v.ownBlock ≠ v1.ownBlock := by
  cases hv : v.ownBlock with
  | none => exact .inl rfl
  | some k =>
    refine .inr fun e => ?_
    have h1 := Q k e.symm
    have h2 := (h.lt k hv).1
    omega

theorem own_drewN (h : w.ownsRow lo e s v n cs) (k : Nat) : (w.drewN k).ownsRow lo e s v n cs := h

end

/-- what a call that makes a slice hands back -/
def RetOwn (ty : TypeId) (s : Nat) (w : World) (n : Nat) (zs : List Int) (e : Ending) (w' : World) : Prop :=
  ∃ A cap, e = .returned (.slice A n cap) ∧ w'.ownsRow w.heap.size ty s (.slice A n cap) n (ints zs) ∧ Below w.heap.size w w'

/-- and where a Bool comes with it -/
def RetOwnB (ty : TypeId) (s : Nat) (w : World) (n : Nat) (zs : List Int) (b : Bool) (e : Ending) (w' : World) : Prop :=
  ∃ A cap, e = .returned (.tuple #[.slice A n cap, .bool b]) ∧ w'.ownsRow w.heap.size ty s (.slice A n cap) n (ints zs) ∧ Below w.heap.size w w'

theorem int_info : (Try.prog.info? 3).map (fun i => (i.zero, i.size, i.bytes)) = some (some (.int .i64 0), 1, 8) := by kernel_rfl

/-- the row begun: the first k numbers of zs, the rest whatever -/
theorem take_set {zs : List Int} {cs : List Value} {k : Nat} {z : Int} (h : ∀ j, j < k → cs[j]? = (ints zs)[j]?) (hz : zs[k]? = some z) (hl : k < cs.length) :
    ∀ j, j < k + 1 → (cs.set k (.int .i64 z))[j]? = (ints zs)[j]? := by
  intro j hj
  by_cases e : j = k
  · subst e
    rw [List.getElem?_set_self hl, ints_get hz]
  · rw [List.getElem?_set_ne (by omega)]
    exact h j (by omega)
theorem all_set {zs : List Int} {cs : List Value} (h : ∀ j, j < zs.length → cs[j]? = (ints zs)[j]?) (hl : cs.length = zs.length) : cs = ints zs := by
  apply List.ext_getElem?
  intro j
  by_cases hj : j < zs.length
  · exact h j hj
  · rw [List.getElem?_eq_none (by omega), List.getElem?_eq_none (by rw [ints_len]; omega)]

/-- the marks that the laws lay: m, m + 1, .. -/
def marks (m : Int) (n : Nat) : List Int := (List.range n).map fun (i : Nat) => m + (i : Int)
theorem marks_len (m : Int) (n : Nat) : (marks m n).length = n := by simp [marks]
theorem marks_get {m : Int} {n j : Nat} (h : j < n) : (marks m n)[j]? = some (m + j) := by simp [marks, h]


set_option maxHeartbeats 1000000 in
theorem laws_eqIntS (A B : Option Addr) (cap cap2 : Nat) (zs : List Int) (w : World) (hA : FAt w A zs) (hB : FAt w B zs) (hn : zs.length ≤ 4294967296) :
    Calls Try.prog 85 #[.slice A zs.length cap, .slice B zs.length cap2] w fun e w' => e = .returned (.bool true) ∧ Below w.heap.size w w' := by
  go_enter Try.func85, Try.ntmps85
  go_wp2
  go_loopw [5] (fun i wr => ∃ k : Nat, k ≤ zs.length ∧ i = .int .i64 k ∧ Below w.heap.size w wr) (fun i _ => zs.length - (intOf i).toNat)
  case atStart => exact ⟨0, Nat.zero_le _, rfl, Below.refl _ _⟩
  case round =>
    obtain ⟨k, hk, rfl, hbel⟩ := hrel
    by_cases hlt : k < zs.length
    · obtain ⟨z, hz⟩ : ∃ z, zs[k]? = some z := ⟨_, List.getElem?_eq_getElem hlt⟩
      obtain ⟨b, off, rfl, hc⟩ := (hA.below hbel) k z hz
      obtain ⟨b2, off2, rfl, hc2⟩ := (hB.below hbel) k z hz
      have hk1 : (0 : Int) ≤ (k : Int) := by omega
      have hk2 : (k : Int) < (zs.length : Int) := by omega
      clear hz
      go_wp2_with fail
      go_quiet (fail)
      go_wp2
      go_roundw
      case rel => exact ⟨k + 1, by omega, by go_num, by (repeat (first | exact Below.refl _ _ | assumption | refine below_step ?_ (by assumption) | refine below_alloc ?_ _ | refine below_drewN ?_ _ | refine Below.drew ?_ | refine Below.setCell ?_ (by first | (simp; done) | omega | (simp; omega)) _))⟩
      case measure => simp [intOf]; omega
    · obtain rfl : k = zs.length := by omega
      go_wp2
      go_ret
      exact ⟨rfl, hbel⟩
set_option maxHeartbeats 1000000 in
theorem laws_markIntS (A : Option Addr) (lo cap : Nat) (zs : List Int) (m : Int) (w : World) (ho : w.ownsRow lo 3 1 (.slice A zs.length cap) zs.length (ints zs)) (hn : zs.length ≤ 4294967296) (m0 : 0 ≤ m) (m1 : m ≤ 1000000000000) :
    Calls Try.prog 86 #[.slice A zs.length cap, .int .i64 m] w fun e w' => e = .returned (.int .i64 (m + zs.length)) ∧ w'.ownsRow lo 3 1 (.slice A zs.length cap) zs.length (ints (marks m zs.length)) ∧ w.grownBy w' (Value.slice A zs.length cap).ownBlock := by
  go_enter Try.func86, Try.ntmps86
  go_wp2
  go_loopw [1, 5] (fun q i wr => ∃ k : Nat, k ≤ zs.length ∧ i = .int .i64 k ∧ q = .int .i64 (m + k) ∧ ∃ cs, wr.ownsRow lo 3 1 (.slice A zs.length cap) zs.length cs ∧ (∀ j, j < k → cs[j]? = (ints (marks m zs.length))[j]?) ∧ w.grownBy wr (Value.slice A zs.length cap).ownBlock) (fun _ i _ => zs.length - (intOf i).toNat)
  case atStart => exact ⟨0, Nat.zero_le _, rfl, by simp, _, ho, fun j hj => absurd hj (Nat.not_lt_zero _), World.grownBy.refl _ _⟩
  case round =>
    obtain ⟨k, hk, rfl, rfl, cs, hrow, hpre, hgr⟩ := hrel
    have hlen := hrow.1
    by_cases hlt : k < zs.length
    · obtain ⟨g, rfl⟩ : ∃ g, A = some ⟨g, 0, none⟩ := by
        rcases hrow.2 with ⟨hv, h0⟩ | ⟨g, _, _, hv, _⟩
        · omega
        · exact ⟨g, by injection hv⟩
      obtain ⟨u, hu⟩ : ∃ u, cs[k]? = some u := ⟨_, List.getElem?_eq_getElem (by omega)⟩
      have hd : wr.cell? ⟨g, k, none⟩ = some u := (hrow.cellAt k (by omega)).trans hu
      have hf : wr.frozen? ⟨g, k, none⟩ = false := hrow.frozenAt k
      have HP := Lib.hid hpre
      have HL := Lib.hid hlen
      clear hpre hu hlen
      go_wp2
      go_roundw
      case rel => exact ⟨k + 1, by omega, by go_num, by go_num, _, (hrow.stored k _).1, take_set HP.out (marks_get hlt) (by rw [HL.out]; omega), hgr.trans (hrow.stored k _).2⟩
      case measure => simp [intOf]; omega
    · obtain rfl : k = zs.length := by omega
      obtain rfl := all_set (zs := marks m zs.length) (by rw [marks_len]; exact hpre) (by rw [marks_len]; omega)
      clear hpre hlen
      go_wp2
      go_ret
      exact ⟨rfl, hrow, hgr⟩
set_option maxHeartbeats 1000000 in
theorem laws_heldIntS (A : Option Addr) (cap n : Nat) (m : Int) (w : World) (h : FAt w A (marks m n)) (hn : n ≤ 4294967296) (m0 : 0 ≤ m) (m1 : m ≤ 1000000000000) :
    Calls Try.prog 87 #[.slice A n cap, .int .i64 m] w fun e w' => e = .returned (.int .i64 (m + n)) ∧ w = w' := by
  go_enter Try.func87, Try.ntmps87
  go_wp2
  go_loop [1, 5] (fun q i => ∃ k : Nat, k ≤ n ∧ i = .int .i64 k ∧ q = .int .i64 (m + k)) (fun _ i => n - (intOf i).toNat)
  case atStart => exact ⟨0, Nat.zero_le _, rfl, by simp⟩
  case round =>
    obtain ⟨k, hk, rfl, rfl⟩ := hrel
    by_cases hlt : k < n
    · obtain ⟨b, off, rfl, hc⟩ := h k _ (marks_get hlt)
      go_wp2
      go_round
      case rel => exact ⟨k + 1, by omega, by go_num, by go_num⟩
      case measure => simp [intOf]; omega
    · obtain rfl : k = n := by omega
      go_wp2
      go_ret
      exact ⟨rfl, rfl⟩
end Go.Proofs.Ytianfakgojmnpaa

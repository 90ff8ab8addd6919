/- Games: contracts. -/
import Derived.Test.YtianfakgojmnpaaDoJump
import Derived.Test.YtianfakgojmnpaaSpoil0
import Derived.Test.YtianfakgojmnpaaLinesOf
import Derived.Test.YtianfakgojmnpaaLineS
namespace Go.Proofs.Ytianfakgojmnpaa
open Go.RowKit

/-- where a game leads, if it can be played -/
def playFrom (W H X : Int) : Int → List (Int × Int × Int) → Option Int
  | p, [] => some p
  | p, l :: ls => if doOk W H X p l.1 l.2.1 l.2.2 = true then playFrom W H X (doTo W H X p l.1 l.2.1 l.2.2) ls else none
def playAll (W H X p : Int) (ls : List (Int × Int × Int)) : Option Int := if positionOk W H X p = true ∧ ls.length ≤ 60 then playFrom W H X p ls else none
theorem playFrom_append (W H X : Int) : ∀ (a b : List (Int × Int × Int)) (p : Int), playFrom W H X p (a ++ b) = (playFrom W H X p a).bind fun q => playFrom W H X q b := by
  intro a
  induction a with
  | nil => intro b p; rfl
  | cons l a ih =>
    intro b p
    simp only [List.cons_append, playFrom]
    split
    · exact ih b _
    · rfl
theorem playFrom_snoc {W H X p q f o t : Int} {ls : List (Int × Int × Int)} {k : Nat} (h : playFrom W H X p (ls.take k) = some q) (hl : ls[k]? = some (f, o, t)) (hd : doOk W H X q f o t = true) :
    playFrom W H X p (ls.take (k + 1)) = some (doTo W H X q f o t) := by
  rw [List.take_add_one, hl, Option.toList_some, playFrom_append, h]
  simp [playFrom, hd]
theorem playFrom_no {W H X p q f o t : Int} {ls : List (Int × Int × Int)} {k : Nat} (h : playFrom W H X p (ls.take k) = some q) (hl : ls[k]? = some (f, o, t)) (hd : doOk W H X q f o t = false) :
    playFrom W H X p ls = none := by
  have hk := (List.getElem?_eq_some_iff.1 hl).1
  have e : ls = ls.take k ++ (f, o, t) :: ls.drop (k + 1) := by
    have h1 : ls.drop k = ls[k] :: ls.drop (k + 1) := List.drop_eq_getElem_cons hk
    have h2 : ls[k] = (f, o, t) := (List.getElem?_eq_some_iff.1 hl).2
    rw [h2] at h1
    rw [← h1, List.take_append_drop]
  rw [e, playFrom_append, h]
  simp [playFrom, hd]
theorem playFrom_pos {W H X : Int} : ∀ {ls : List (Int × Int × Int)} {p q : Int}, p ≤ 9223372036854775807 → playFrom W H X p ls = some q → q ≤ 9223372036854775807 := by
  intro ls
  induction ls with
  | nil => intro p q hp h; simp [playFrom] at h; omega
  | cons l ls ih =>
    intro p q hp h
    simp only [playFrom] at h
    split at h
    · exact ih (doTo_pos hp) h
    · cases h
def playTo (W H X p : Int) (ls : List (Int × Int × Int)) : Int := (playAll W H X p ls).getD p
def playOk (W H X p : Int) (ls : List (Int × Int × Int)) : Bool := (playAll W H X p ls).isSome
theorem playTo_pos {W H X p : Int} {ls : List (Int × Int × Int)} (hp : p ≤ 9223372036854775807) : playTo W H X p ls ≤ 9223372036854775807 := by
  unfold playTo
  cases h : playAll W H X p ls with
  | none => simpa using hp
  | some q =>
    unfold playAll at h
    split at h
    · exact playFrom_pos hp h
    · cases h


theorem play_none {W H X p : Int} {ls : List (Int × Int × Int)} (h : playFrom W H X p ls = none) : playTo W H X p ls = p ∧ playOk W H X p ls = false := by
  have e : playAll W H X p ls = none := by unfold playAll; split; exact h; rfl
  simp [playTo, playOk, e]
theorem play_long {W H X p : Int} {ls : List (Int × Int × Int)} (h : ¬ ls.length ≤ 60) : playTo W H X p ls = p ∧ playOk W H X p ls = false := by
  have e : playAll W H X p ls = none := by unfold playAll; rw [if_neg (fun q => h q.2)]
  simp [playTo, playOk, e]
theorem play_bad {W H X p : Int} {ls : List (Int × Int × Int)} (h : positionOk W H X p = false) : playTo W H X p ls = p ∧ playOk W H X p ls = false := by
  have e : playAll W H X p ls = none := by unfold playAll; rw [if_neg (fun q => by rw [h] at q; cases q.1)]
  simp [playTo, playOk, e]
theorem play_some {W H X p q : Int} {ls : List (Int × Int × Int)} (h1 : positionOk W H X p = true) (h2 : ls.length ≤ 60) (h : playFrom W H X p ls = some q) : playTo W H X p ls = q ∧ playOk W H X p ls = true := by
  have e : playAll W H X p ls = some q := by unfold playAll; rw [if_pos ⟨h1, h2⟩]; exact h
  simp [playTo, playOk, e]

set_option maxHeartbeats 4000000 in
theorem spec_PlayAll (W H X p : Int) (A : Option Addr) (cap : Nat) (ls : List (Int × Int × Int)) (w : World) (hp : p ≤ 9223372036854775807) (hA : FAt w A (lflat ls)) (hn : ls.length ≤ 4294967296) :
    Calls Try.prog 109 #[.agg #[.int .i64 W, .int .i64 H, .int .i64 X], .int .i64 p, .slice A ls.length cap] w fun e w' => e = .returned (.tuple #[.int .i64 (playTo W H X p ls), .bool (playOk W H X p ls)]) ∧ Below w.heap.size w w' := by
  go_enter Try.func109, Try.ntmps109
  go_wp2_with fail
  generalize hV : w.alloc (.cells #[.int .i64 W, .int .i64 H, .int .i64 X] 44) = V
  have v0 : Below w.heap.size w V := by subst hV; (repeat (first | exact Below.refl _ _ | assumption | refine below_step ?_ (by assumption) | refine below_alloc ?_ _ | refine below_drewN ?_ _ | refine Below.drew ?_ | refine Below.setCell ?_ (by first | (simp; done) | omega | (simp; omega)) _))
  have z0 : w.heap.size < V.heap.size := by subst hV; simp <;> omega
  have v0_0 : V.cell? ⟨w.heap.size, 0, none⟩ = some (.int .i64 W) := by subst hV; simp
  have v0_1 : V.cell? ⟨w.heap.size, 1, none⟩ = some (.int .i64 H) := by subst hV; simp
  have v0_2 : V.cell? ⟨w.heap.size, 2, none⟩ = some (.int .i64 X) := by subst hV; simp
  have K : Hid (∀ w', Below V.heap.size V w' → Below V.heap.size V w' ∧ w'.cell? ⟨w.heap.size, 0, none⟩ = some (.int .i64 W) ∧ w'.cell? ⟨w.heap.size, 1, none⟩ = some (.int .i64 H) ∧ w'.cell? ⟨w.heap.size, 2, none⟩ = some (.int .i64 X)) := fun w' hB => ⟨hB, bel_cell hB z0 v0_0, bel_cell hB z0 v0_1, bel_cell hB z0 v0_2⟩
  have ZV : Hid (w.heap.size + 1 = V.heap.size) := by subst hV; unfold Hid; simp
  clear hV
  have hAV := Lib.hid (hA.below v0)
  have hbel := Below.refl V.heap.size V
  go_loopw [8, 9] (fun now i wr => ∃ (k : Nat) (q : Int), k ≤ ls.length ∧ i = .int .i64 k ∧ now = .int .i64 q ∧ playFrom W H X p (ls.take k) = some q ∧ Below V.heap.size V wr ∧ (0 < k → ls.length ≤ 60)) (fun _ i _ => ls.length - (intOf i).toNat)
  case atStart => exact ⟨0, p, Nat.zero_le _, rfl, rfl, by simp [playFrom], hbel, fun h => absurd h (by omega)⟩
  case round =>
    obtain ⟨k, q, hk, rfl, rfl, hpl, hb, h60⟩ := hrel
    have hq := playFrom_pos hp hpl
    have HPL := Lib.hid hpl
    have H60 := Lib.hid h60
    clear hpl h60
    have c0 := bel_cell hb z0 v0_0
    have c1 := bel_cell hb z0 v0_1
    have c2 := bel_cell hb z0 v0_2
    by_cases hlt : k < ls.length
    · skip
      obtain ⟨⟨f, o, t⟩, hz⟩ : ∃ z, ls[k]? = some z := ⟨_, List.getElem?_eq_getElem hlt⟩
      obtain ⟨g1, g2, g3⟩ := lflat_get hz
      obtain ⟨b, off, rfl, hc1⟩ := hAV.out _ _ g1
      obtain ⟨_, _, e2, hc2⟩ := hAV.out _ _ g2
      injection e2 with e2; injection e2 with e3 e4; subst e3 e4
      obtain ⟨_, _, e2, hc3⟩ := hAV.out _ _ g3
      injection e2 with e2; injection e2 with e3 e4; subst e3 e4
      rw [← Nat.add_assoc] at hc2 hc3
      clear g1 g2 g3
      have hz := Lib.hid hz
      have hb0 := cellb_lt hc1
      have K2 : Hid (∀ w', Below V.heap.size V w' → Below V.heap.size V w' ∧ w'.cell? ⟨w.heap.size, 0, none⟩ = some (.int .i64 W) ∧ w'.cell? ⟨w.heap.size, 1, none⟩ = some (.int .i64 H) ∧ w'.cell? ⟨w.heap.size, 2, none⟩ = some (.int .i64 X) ∧ w'.cell? ⟨b, off + k * 3, none⟩ = some (.int .i64 f) ∧ w'.cell? ⟨b, off + k * 3 + 1, none⟩ = some (.int .i64 o) ∧ w'.cell? ⟨b, off + k * 3 + 2, none⟩ = some (.int .i64 t)) := fun w' hB => ⟨hB, bel_cell hB z0 v0_0, bel_cell hB z0 v0_1, bel_cell hB z0 v0_2, bel_cell hB hb0 hc1, bel_cell hB hb0 hc2, bel_cell hB hb0 hc3⟩
      clear hc1 hc2 hc3 c0 c1 c2
      obtain ⟨r, hr⟩ : ∃ r, doTo W H X q f o t = r := ⟨_, rfl⟩
      have HR := Lib.hid hr
      cases hd : doOk W H X q f o t
      · obtain ⟨e1, e2⟩ := play_none (playFrom_no HPL.out hz.out hd)
        go_wp2_with fail
        have tok2 : True := trivial
        go_region_held3 (fun w' => Below V.heap.size V w' ∧ w'.cell? ⟨w.heap.size, 0, none⟩ = some (.int .i64 W) ∧ w'.cell? ⟨w.heap.size, 1, none⟩ = some (.int .i64 H) ∧ w'.cell? ⟨w.heap.size, 2, none⟩ = some (.int .i64 X) ∧ w'.cell? ⟨b, off + k * 3, none⟩ = some (.int .i64 f) ∧ w'.cell? ⟨b, off + k * 3 + 1, none⟩ = some (.int .i64 o) ∧ w'.cell? ⟨b, off + k * 3 + 2, none⟩ = some (.int .i64 t))
          ((refine K2.out _ ?_; (repeat (first | exact Below.refl _ _ | assumption | refine below_step ?_ (by assumption) | refine below_alloc ?_ _ | refine below_drewN ?_ _ | refine Below.drew ?_ | refine Below.setCell ?_ (by first | (simp; done) | omega | (simp; omega)) _))))
          (first | (have _t := tok2; go_at_call 38; refine (calls_is2 (spec_DoJump _ _ _ _ _ _ _ _ hq) hr hd).mono ?_; rintro e w2 ⟨rfl, hb2⟩; clear _t tok2; obtain ⟨hc2, hf2, hs2⟩ := bcell3 hb2; have hz2 := hb2.size; (try simp at hz2)))
        go_wp2
        exact bodyPost_ret (v := .tuple #[.int .i64 (p), .bool false]) (by simp [results, Try.results109, go_sem]) rfl ⟨by rw [e1, e2], by (repeat (first | exact Below.refl _ _ | assumption | refine below_step ?_ (by assumption) | refine below_alloc ?_ _ | refine below_drewN ?_ _ | refine Below.drew ?_ | refine Below.setCell ?_ (by first | (simp; done) | omega | (simp; omega)) _))⟩
      · by_cases h60 : ls.length ≤ 60
        · have HD := Lib.hid hd
          go_wp2_with fail
          have tok2 : True := trivial
          go_region_held3 (fun w' => Below V.heap.size V w' ∧ w'.cell? ⟨w.heap.size, 0, none⟩ = some (.int .i64 W) ∧ w'.cell? ⟨w.heap.size, 1, none⟩ = some (.int .i64 H) ∧ w'.cell? ⟨w.heap.size, 2, none⟩ = some (.int .i64 X) ∧ w'.cell? ⟨b, off + k * 3, none⟩ = some (.int .i64 f) ∧ w'.cell? ⟨b, off + k * 3 + 1, none⟩ = some (.int .i64 o) ∧ w'.cell? ⟨b, off + k * 3 + 2, none⟩ = some (.int .i64 t))
            ((refine K2.out _ ?_; (repeat (first | exact Below.refl _ _ | assumption | refine below_step ?_ (by assumption) | refine below_alloc ?_ _ | refine below_drewN ?_ _ | refine Below.drew ?_ | refine Below.setCell ?_ (by first | (simp; done) | omega | (simp; omega)) _))))
            (first | (have _t := tok2; go_at_call 38; refine (calls_is2 (spec_DoJump _ _ _ _ _ _ _ _ hq) hr hd).mono ?_; rintro e w2 ⟨rfl, hb2⟩; clear _t tok2; obtain ⟨hc2, hf2, hs2⟩ := bcell3 hb2; have hz2 := hb2.size; (try simp at hz2)))
          go_wp2
          go_roundw
          case rel => exact ⟨k + 1, _, by omega, by go_num, rfl, by rw [← HR.out]; exact playFrom_snoc HPL.out hz.out HD.out, by (repeat (first | exact Below.refl _ _ | assumption | refine below_step ?_ (by assumption) | refine below_alloc ?_ _ | refine below_drewN ?_ _ | refine Below.drew ?_ | refine Below.setCell ?_ (by first | (simp; done) | omega | (simp; omega)) _)), fun _ => h60⟩
          case measure => simp [intOf]; omega
        · obtain ⟨e1, e2⟩ := play_long (W := W) (H := H) (X := X) (p := p) h60
          go_wp2_with fail
          have tok2 : True := trivial
          go_region_held3 (fun w' => Below V.heap.size V w' ∧ w'.cell? ⟨w.heap.size, 0, none⟩ = some (.int .i64 W) ∧ w'.cell? ⟨w.heap.size, 1, none⟩ = some (.int .i64 H) ∧ w'.cell? ⟨w.heap.size, 2, none⟩ = some (.int .i64 X) ∧ w'.cell? ⟨b, off + k * 3, none⟩ = some (.int .i64 f) ∧ w'.cell? ⟨b, off + k * 3 + 1, none⟩ = some (.int .i64 o) ∧ w'.cell? ⟨b, off + k * 3 + 2, none⟩ = some (.int .i64 t))
            ((refine K2.out _ ?_; (repeat (first | exact Below.refl _ _ | assumption | refine below_step ?_ (by assumption) | refine below_alloc ?_ _ | refine below_drewN ?_ _ | refine Below.drew ?_ | refine Below.setCell ?_ (by first | (simp; done) | omega | (simp; omega)) _))))
            (first | (have _t := tok2; go_at_call 38; refine (calls_is2 (spec_DoJump _ _ _ _ _ _ _ _ hq) hr hd).mono ?_; rintro e w2 ⟨rfl, hb2⟩; clear _t tok2; obtain ⟨hc2, hf2, hs2⟩ := bcell3 hb2; have hz2 := hb2.size; (try simp at hz2)))
          go_wp2
          exact bodyPost_ret (v := .tuple #[.int .i64 (p), .bool false]) (by simp [results, Try.results109, go_sem]) rfl ⟨by rw [e1, e2], by (repeat (first | exact Below.refl _ _ | assumption | refine below_step ?_ (by assumption) | refine below_alloc ?_ _ | refine below_drewN ?_ _ | refine Below.drew ?_ | refine Below.setCell ?_ (by first | (simp; done) | omega | (simp; omega)) _))⟩
    · obtain rfl : k = ls.length := by omega
      cases h1 : positionOk W H X p
      · obtain ⟨e1, e2⟩ := play_bad (ls := ls) h1
        go_wp2_with fail
        refine (calls_is (spec_PositionOk _ _ _ _ _ hp) h1).mono ?_
        rintro e w2 ⟨rfl, hb2⟩
        go_wp2
        exact bodyPost_ret (v := .tuple #[.int .i64 (p), .bool false]) (by simp [results, Try.results109, go_sem]) rfl ⟨by rw [e1, e2], by (repeat (first | exact Below.refl _ _ | assumption | refine below_step ?_ (by assumption) | refine below_alloc ?_ _ | refine below_drewN ?_ _ | refine Below.drew ?_ | refine Below.setCell ?_ (by first | (simp; done) | omega | (simp; omega)) _))⟩
      · have hl : ls.length ≤ 60 := by
          rcases Nat.eq_zero_or_pos ls.length with h | h
          · omega
          · exact H60.out h
        obtain ⟨e1, e2⟩ := play_some h1 hl (by simpa using HPL.out)
        clear hl
        go_wp2_with fail
        refine (calls_is (spec_PositionOk _ _ _ _ _ hp) h1).mono ?_
        rintro e w2 ⟨rfl, hb2⟩
        go_wp2
        exact bodyPost_ret (v := .tuple #[.int .i64 (q), .bool true]) (by simp [results, Try.results109, go_sem]) rfl ⟨by rw [e1, e2], by (repeat (first | exact Below.refl _ _ | assumption | refine below_step ?_ (by assumption) | refine below_alloc ?_ _ | refine below_drewN ?_ _ | refine Below.drew ?_ | refine Below.setCell ?_ (by first | (simp; done) | omega | (simp; omega)) _))⟩
end Go.Proofs.Ytianfakgojmnpaa

/-
  Contracts of leaf's alike.
-/
import Derived.Test.YtalkonicppbgdaaLeaf2
import Derived.Test.YtalkonicppbgdaaRef4
namespace Go.Proofs.Ytalkonicppbgdaa
open Go.RowKit Go.PB

set_option maxHeartbeats 1000000 in
theorem alike1_any (x y : Chap) (p q : Option Addr) (c d : Nat) (w : World) :
    Calls Try.prog 21 #[.agg #[.int .i64 x.id, .slice p x.lines.length c], .agg #[.int .i64 y.id, .slice q y.lines.length d]] w fun e w' => e = .returned (.bool (chapAlike x y)) ∧ Below w.heap.size w w' := by
  cases h : eqB x.id y.id
  · have h1 : (x.id == y.id) = false := by simpa [eqB] using h
    go_enter Try.func21, Try.ntmps21
    go_wp2
    go_ret
    exact ⟨ret_bool (by simp [chapAlike, h]), (by repeat (first | exact Below.refl _ _ | assumption | refine Below.drew ?_ | refine below_drewN ?_ _ | refine Below.alloc ?_ (by first | exact Nat.le_refl _ | omega | (simp; done) | (simp; omega) | (simp at *; omega)) _ | refine Below.setCell ?_ (by first | exact Nat.le_refl _ | omega | (simp; done) | (simp; omega) | (simp at *; omega)) _ | refine Below.grown ?_ (by assumption) (by first | exact Nat.le_refl _ | omega | (simp; done) | (simp; omega) | (simp at *; omega)) (by first | assumption | (intro _ hk; simp [Value.ownBlock] at hk; omega))))⟩
  · have h1 : (x.id == y.id) = true := by simpa [eqB] using h
    cases h2 : eqB x.lines.length y.lines.length
    · have h3 : ((x.lines.length : Int) == (y.lines.length : Int)) = false := by
        have := of_decide_eq_false h2
        rw [beq_eq_false_iff_ne]; omega
      go_enter Try.func21, Try.ntmps21
      go_wp2
      go_ret
      exact ⟨ret_bool (by simp [chapAlike, h, h2]), (by repeat (first | exact Below.refl _ _ | assumption | refine Below.drew ?_ | refine below_drewN ?_ _ | refine Below.alloc ?_ (by first | exact Nat.le_refl _ | omega | (simp; done) | (simp; omega) | (simp at *; omega)) _ | refine Below.setCell ?_ (by first | exact Nat.le_refl _ | omega | (simp; done) | (simp; omega) | (simp at *; omega)) _ | refine Below.grown ?_ (by assumption) (by first | exact Nat.le_refl _ | omega | (simp; done) | (simp; omega) | (simp at *; omega)) (by first | assumption | (intro _ hk; simp [Value.ownBlock] at hk; omega))))⟩
    · have h3 : ((x.lines.length : Int) == (y.lines.length : Int)) = true := by
        have := of_eqB h2
        rw [beq_iff_eq]; omega
      go_enter Try.func21, Try.ntmps21
      go_wp2
      go_ret
      exact ⟨ret_bool (by simp [chapAlike, h, h2]), (by repeat (first | exact Below.refl _ _ | assumption | refine Below.drew ?_ | refine below_drewN ?_ _ | refine Below.alloc ?_ (by first | exact Nat.le_refl _ | omega | (simp; done) | (simp; omega) | (simp at *; omega)) _ | refine Below.setCell ?_ (by first | exact Nat.le_refl _ | omega | (simp; done) | (simp; omega) | (simp at *; omega)) _ | refine Below.grown ?_ (by assumption) (by first | exact Nat.le_refl _ | omega | (simp; done) | (simp; omega) | (simp at *; omega)) (by first | assumption | (intro _ hk; simp [Value.ownBlock] at hk; omega))))⟩

set_option maxHeartbeats 1000000 in
theorem EqualFunc_any (t u : TextD) (va vb : Value) (w : World) (ha : Rd w [va] t) (hb : Rd w [vb] u) :
    Calls Try.prog 20 #[va, vb, .func (.func 21) #[] #[]] w fun e w' => e = .returned (.bool (alikeB t u)) ∧ Below w.heap.size w w' := by
  obtain ⟨pa, ca, rfl, m1, m2⟩ := rd_open ha
  obtain ⟨pb, cb, rfl, m3, m4⟩ := rd_open hb
  by_cases hl : t.length = u.length
  · have hl1 : ((t.length : Int) != (u.length : Int)) = false := by simp [hl]
    have HL := Lib.hid hl; clear hl
    go_enter Try.func20, Try.ntmps20
    go_wp2_with (fail)
    go_loopg [17] (t.length + 1) (fun g i wr => ∃ k : Nat, k ≤ t.length ∧ g = t.length + 1 - k ∧ i = .int .i64 k ∧ ((t.take k).zip (u.take k)).all (fun p => chapAlike p.1 p.2) = true ∧ Below w.heap.size w wr)
    case atStart => exact ⟨0, Nat.zero_le _, by simp, rfl, by simp, (by repeat (first | exact Below.refl _ _ | assumption | refine Below.drew ?_ | refine below_drewN ?_ _ | refine Below.alloc ?_ (by first | exact Nat.le_refl _ | omega | (simp; done) | (simp; omega) | (simp at *; omega)) _ | refine Below.setCell ?_ (by first | exact Nat.le_refl _ | omega | (simp; done) | (simp; omega) | (simp at *; omega)) _ | refine Below.grown ?_ (by assumption) (by first | exact Nat.le_refl _ | omega | (simp; done) | (simp; omega) | (simp at *; omega)) (by first | assumption | (intro _ hk; simp [Value.ownBlock] at hk; omega))))⟩
    case round =>
      obtain ⟨w1, rfl⟩ : ∃ x : World, x = wr := ⟨_, rfl⟩
      obtain ⟨k, hk, rfl, rfl, hp, hB⟩ := hrel
      have HP := Lib.hid hp; clear hp
      obtain ⟨hc1, hf1⟩ := bcell hB
      by_cases hlt : k < t.length
      · obtain ⟨x, hx⟩ := some_of_lt hlt
        have hlt' : k < u.length := HL.out ▸ hlt
        obtain ⟨y, hy⟩ := some_of_lt hlt'
        obtain ⟨b1, o1, rfl, hb1, d1, _, p1, q1, hd1, hr1⟩ := ha.chap hx
        obtain ⟨b2, o2, rfl, hb2, d2, _, p2, q2, hd2, hr2⟩ := hb.chap hy
        have HX := Lib.hid hx; have HY := Lib.hid hy; clear hx hy
        have hz1 := hB.size
        have hb1' : b1 < w1.heap.size := Nat.lt_of_lt_of_le hb1 hB.size
        have hb2' : b2 < w1.heap.size := Nat.lt_of_lt_of_le hb2 hB.size
        cases hal : chapAlike x y
        · go_wp2_with (fail)
          refine Calls.mono (alike1_any x y p1 p2 q1 q2 _) ?_
          rintro e w2 ⟨rfl, hB2⟩
          rw [hal]
          go_wp2_with (fail)
          go_ret
          exact ⟨ret_bool (by
            have := zip_false_of (p := chapAlike) HX.out HY.out hal
            simp [alikeB, this]), hB.trans (Below.trans (by repeat (first | exact Below.refl _ _ | assumption | refine Below.drew ?_ | refine below_drewN ?_ _ | refine Below.alloc ?_ (by first | exact Nat.le_refl _ | omega | (simp; done) | (simp; omega) | (simp at *; omega)) _ | refine Below.setCell ?_ (by first | exact Nat.le_refl _ | omega | (simp; done) | (simp; omega) | (simp at *; omega)) _ | refine Below.grown ?_ (by assumption) (by first | exact Nat.le_refl _ | omega | (simp; done) | (simp; omega) | (simp at *; omega)) (by first | assumption | (intro _ hk; simp [Value.ownBlock] at hk; omega)))) (hB2.mono (by have := hB.size; simp; omega)))⟩
        · go_wp2_with (fail)
          refine Calls.mono (alike1_any x y p1 p2 q1 q2 _) ?_
          rintro e w2 ⟨rfl, hB2⟩
          rw [hal]
          go_wp2_with (fail)
          go_roundg (t.length + 1 - (k + 1))
          case rel => exact ⟨k + 1, by omega, rfl, by go_num, by rw [zip_take (p := chapAlike) HX.out HY.out, HP.out, hal]; rfl, hB.trans (Below.trans (by repeat (first | exact Below.refl _ _ | assumption | refine Below.drew ?_ | refine below_drewN ?_ _ | refine Below.alloc ?_ (by first | exact Nat.le_refl _ | omega | (simp; done) | (simp; omega) | (simp at *; omega)) _ | refine Below.setCell ?_ (by first | exact Nat.le_refl _ | omega | (simp; done) | (simp; omega) | (simp at *; omega)) _ | refine Below.grown ?_ (by assumption) (by first | exact Nat.le_refl _ | omega | (simp; done) | (simp; omega) | (simp at *; omega)) (by first | assumption | (intro _ hk; simp [Value.ownBlock] at hk; omega)))) (hB2.mono (by have := hB.size; simp; omega)))⟩
          case measure => omega
      · go_wp2_with (fail)
        go_ret
        exact ⟨ret_bool (by
          have h1 := HP.out
          have h2 := HL.out
          rw [take_all (by omega), take_all (by omega)] at h1
          simp [alikeB, eqB, h1, h2]), hB⟩
  · have hl' : ((t.length : Int) != (u.length : Int)) = true := by rw [bne_iff_ne]; omega
    go_enter Try.func20, Try.ntmps20
    go_wp2_with (fail)
    go_ret
    exact ⟨ret_bool (by simp [alikeB, eqB, hl]), (by repeat (first | exact Below.refl _ _ | assumption | refine Below.drew ?_ | refine below_drewN ?_ _ | refine Below.alloc ?_ (by first | exact Nat.le_refl _ | omega | (simp; done) | (simp; omega) | (simp at *; omega)) _ | refine Below.setCell ?_ (by first | exact Nat.le_refl _ | omega | (simp; done) | (simp; omega) | (simp at *; omega)) _ | refine Below.grown ?_ (by assumption) (by first | exact Nat.le_refl _ | omega | (simp; done) | (simp; omega) | (simp at *; omega)) (by first | assumption | (intro _ hk; simp [Value.ownBlock] at hk; omega))))⟩

set_option maxHeartbeats 1000000 in
/-- the error of two texts, as a number -/
theorem alike_any (t u : TextD) (va vb : Value) (w : World) (ha : Rd w [va] t) (hb : Rd w [vb] u) :
    Calls Try.prog 12 #[.agg #[va], .agg #[vb]] w fun e w' => e = .returned (.int .i64 (twoE t u)) ∧ Below w.heap.size w w' := by
  obtain ⟨pa, ca, rfl, m1, m2⟩ := rd_open ha
  obtain ⟨pb, cb, rfl, m3, m4⟩ := rd_open hb
  cases h1 : textB t
  · have e1 := textE_no h1
    go_enter Try.func12, Try.ntmps12
    go_wp2_with (fail)
    refine Calls.mono (Check_any t _ _ (ha.below (by repeat (first | exact Below.refl _ _ | assumption | refine Below.drew ?_ | refine below_drewN ?_ _ | refine Below.alloc ?_ (by first | exact Nat.le_refl _ | omega | (simp; done) | (simp; omega) | (simp at *; omega)) _ | refine Below.setCell ?_ (by first | exact Nat.le_refl _ | omega | (simp; done) | (simp; omega) | (simp at *; omega)) _ | refine Below.grown ?_ (by assumption) (by first | exact Nat.le_refl _ | omega | (simp; done) | (simp; omega) | (simp at *; omega)) (by first | assumption | (intro _ hk; simp [Value.ownBlock] at hk; omega)))))) ?_
    rintro e w1 ⟨rfl, hB1⟩
    obtain ⟨hc1, hf1⟩ := bcell hB1
    have hz1 := hB1.size
    try simp only [World.size_alloc, World.size_setCell, World.heap_drew, World.heap_drewN] at hz1
    have hW1 : Below w.heap.size w w1 := Below.trans (by repeat (first | exact Below.refl _ _ | assumption | refine Below.drew ?_ | refine below_drewN ?_ _ | refine Below.alloc ?_ (by first | exact Nat.le_refl _ | omega | (simp; done) | (simp; omega) | (simp at *; omega)) _ | refine Below.setCell ?_ (by first | exact Nat.le_refl _ | omega | (simp; done) | (simp; omega) | (simp at *; omega)) _ | refine Below.grown ?_ (by assumption) (by first | exact Nat.le_refl _ | omega | (simp; done) | (simp; omega) | (simp at *; omega)) (by first | assumption | (intro _ hk; simp [Value.ownBlock] at hk; omega)))) (hB1.mono (by first | exact Nat.le_refl _ | omega | (simp; done) | (simp; omega) | (simp at *; omega)))
    have hs1 := hW1.size
    have hl1_0 : w.heap.size < w1.heap.size := (by first | exact Nat.le_refl _ | omega | (simp; done) | (simp; omega) | (simp at *; omega))
    have hl1_1 : w.heap.size + 1 < w1.heap.size := (by first | exact Nat.le_refl _ | omega | (simp; done) | (simp; omega) | (simp at *; omega))
    go_wp2_with (fail)
    go_ret
    exact ⟨ret_int (by simp [twoE, h1]), hW1⟩
  · have e1 := textE_ok h1
    cases h2 : textB u
    · have e2 := textE_no h2
      go_enter Try.func12, Try.ntmps12
      go_wp2_with (fail)
      refine Calls.mono (Check_any t _ _ (ha.below (by repeat (first | exact Below.refl _ _ | assumption | refine Below.drew ?_ | refine below_drewN ?_ _ | refine Below.alloc ?_ (by first | exact Nat.le_refl _ | omega | (simp; done) | (simp; omega) | (simp at *; omega)) _ | refine Below.setCell ?_ (by first | exact Nat.le_refl _ | omega | (simp; done) | (simp; omega) | (simp at *; omega)) _ | refine Below.grown ?_ (by assumption) (by first | exact Nat.le_refl _ | omega | (simp; done) | (simp; omega) | (simp at *; omega)) (by first | assumption | (intro _ hk; simp [Value.ownBlock] at hk; omega)))))) ?_
      rintro e w1 ⟨rfl, hB1⟩
      obtain ⟨hc1, hf1⟩ := bcell hB1
      have hz1 := hB1.size
      try simp only [World.size_alloc, World.size_setCell, World.heap_drew, World.heap_drewN] at hz1
      have hW1 : Below w.heap.size w w1 := Below.trans (by repeat (first | exact Below.refl _ _ | assumption | refine Below.drew ?_ | refine below_drewN ?_ _ | refine Below.alloc ?_ (by first | exact Nat.le_refl _ | omega | (simp; done) | (simp; omega) | (simp at *; omega)) _ | refine Below.setCell ?_ (by first | exact Nat.le_refl _ | omega | (simp; done) | (simp; omega) | (simp at *; omega)) _ | refine Below.grown ?_ (by assumption) (by first | exact Nat.le_refl _ | omega | (simp; done) | (simp; omega) | (simp at *; omega)) (by first | assumption | (intro _ hk; simp [Value.ownBlock] at hk; omega)))) (hB1.mono (by first | exact Nat.le_refl _ | omega | (simp; done) | (simp; omega) | (simp at *; omega)))
      have hs1 := hW1.size
      have hl1_0 : w.heap.size < w1.heap.size := (by first | exact Nat.le_refl _ | omega | (simp; done) | (simp; omega) | (simp at *; omega))
      have hl1_1 : w.heap.size + 1 < w1.heap.size := (by first | exact Nat.le_refl _ | omega | (simp; done) | (simp; omega) | (simp at *; omega))
      go_wp2_with (fail)
      refine Calls.mono (Check_any u _ _ (hb.below hW1)) ?_
      rintro e w2 ⟨rfl, hB2⟩
      obtain ⟨hc2, hf2⟩ := bcell hB2
      have hz2 := hB2.size
      try simp only [World.size_alloc, World.size_setCell, World.heap_drew, World.heap_drewN] at hz2
      have hW2 : Below w.heap.size w w2 := Below.trans (by repeat (first | exact Below.refl _ _ | assumption | refine Below.drew ?_ | refine below_drewN ?_ _ | refine Below.alloc ?_ (by first | exact Nat.le_refl _ | omega | (simp; done) | (simp; omega) | (simp at *; omega)) _ | refine Below.setCell ?_ (by first | exact Nat.le_refl _ | omega | (simp; done) | (simp; omega) | (simp at *; omega)) _ | refine Below.grown ?_ (by assumption) (by first | exact Nat.le_refl _ | omega | (simp; done) | (simp; omega) | (simp at *; omega)) (by first | assumption | (intro _ hk; simp [Value.ownBlock] at hk; omega)))) (hB2.mono (by first | exact Nat.le_refl _ | omega | (simp; done) | (simp; omega) | (simp at *; omega)))
      have hs2 := hW2.size
      have hl2_0 : w.heap.size < w2.heap.size := (by first | exact Nat.le_refl _ | omega | (simp; done) | (simp; omega) | (simp at *; omega))
      have hl2_1 : w.heap.size + 1 < w2.heap.size := (by first | exact Nat.le_refl _ | omega | (simp; done) | (simp; omega) | (simp at *; omega))
      go_wp2_with (fail)
      go_ret
      exact ⟨ret_int (by simp [twoE, h1, h2]), hW2⟩
    · have e2 := textE_ok h2
      cases h3 : alikeB t u
      all_goals
        go_enter Try.func12, Try.ntmps12
        go_wp2_with (fail)
        refine Calls.mono (Check_any t _ _ (ha.below (by repeat (first | exact Below.refl _ _ | assumption | refine Below.drew ?_ | refine below_drewN ?_ _ | refine Below.alloc ?_ (by first | exact Nat.le_refl _ | omega | (simp; done) | (simp; omega) | (simp at *; omega)) _ | refine Below.setCell ?_ (by first | exact Nat.le_refl _ | omega | (simp; done) | (simp; omega) | (simp at *; omega)) _ | refine Below.grown ?_ (by assumption) (by first | exact Nat.le_refl _ | omega | (simp; done) | (simp; omega) | (simp at *; omega)) (by first | assumption | (intro _ hk; simp [Value.ownBlock] at hk; omega)))))) ?_
        rintro e w1 ⟨rfl, hB1⟩
        obtain ⟨hc1, hf1⟩ := bcell hB1
        have hz1 := hB1.size
        try simp only [World.size_alloc, World.size_setCell, World.heap_drew, World.heap_drewN] at hz1
        have hW1 : Below w.heap.size w w1 := Below.trans (by repeat (first | exact Below.refl _ _ | assumption | refine Below.drew ?_ | refine below_drewN ?_ _ | refine Below.alloc ?_ (by first | exact Nat.le_refl _ | omega | (simp; done) | (simp; omega) | (simp at *; omega)) _ | refine Below.setCell ?_ (by first | exact Nat.le_refl _ | omega | (simp; done) | (simp; omega) | (simp at *; omega)) _ | refine Below.grown ?_ (by assumption) (by first | exact Nat.le_refl _ | omega | (simp; done) | (simp; omega) | (simp at *; omega)) (by first | assumption | (intro _ hk; simp [Value.ownBlock] at hk; omega)))) (hB1.mono (by first | exact Nat.le_refl _ | omega | (simp; done) | (simp; omega) | (simp at *; omega)))
        have hs1 := hW1.size
        have hl1_0 : w.heap.size < w1.heap.size := (by first | exact Nat.le_refl _ | omega | (simp; done) | (simp; omega) | (simp at *; omega))
        have hl1_1 : w.heap.size + 1 < w1.heap.size := (by first | exact Nat.le_refl _ | omega | (simp; done) | (simp; omega) | (simp at *; omega))
        go_wp2_with (fail)
        refine Calls.mono (Check_any u _ _ (hb.below hW1)) ?_
        rintro e w2 ⟨rfl, hB2⟩
        obtain ⟨hc2, hf2⟩ := bcell hB2
        have hz2 := hB2.size
        try simp only [World.size_alloc, World.size_setCell, World.heap_drew, World.heap_drewN] at hz2
        have hW2 : Below w.heap.size w w2 := Below.trans (by repeat (first | exact Below.refl _ _ | assumption | refine Below.drew ?_ | refine below_drewN ?_ _ | refine Below.alloc ?_ (by first | exact Nat.le_refl _ | omega | (simp; done) | (simp; omega) | (simp at *; omega)) _ | refine Below.setCell ?_ (by first | exact Nat.le_refl _ | omega | (simp; done) | (simp; omega) | (simp at *; omega)) _ | refine Below.grown ?_ (by assumption) (by first | exact Nat.le_refl _ | omega | (simp; done) | (simp; omega) | (simp at *; omega)) (by first | assumption | (intro _ hk; simp [Value.ownBlock] at hk; omega)))) (hB2.mono (by first | exact Nat.le_refl _ | omega | (simp; done) | (simp; omega) | (simp at *; omega)))
        have hs2 := hW2.size
        have hl2_0 : w.heap.size < w2.heap.size := (by first | exact Nat.le_refl _ | omega | (simp; done) | (simp; omega) | (simp at *; omega))
        have hl2_1 : w.heap.size + 1 < w2.heap.size := (by first | exact Nat.le_refl _ | omega | (simp; done) | (simp; omega) | (simp at *; omega))
        go_wp2_with (fail)
        refine Calls.mono (EqualFunc_any t u _ _ _ (ha.below hW2) (hb.below hW2)) ?_
        rintro e w3 ⟨rfl, hB3⟩
        obtain ⟨hc3, hf3⟩ := bcell hB3
        have hz3 := hB3.size
        try simp only [World.size_alloc, World.size_setCell, World.heap_drew, World.heap_drewN] at hz3
        have hW3 : Below w.heap.size w w3 := Below.trans (by repeat (first | exact Below.refl _ _ | assumption | refine Below.drew ?_ | refine below_drewN ?_ _ | refine Below.alloc ?_ (by first | exact Nat.le_refl _ | omega | (simp; done) | (simp; omega) | (simp at *; omega)) _ | refine Below.setCell ?_ (by first | exact Nat.le_refl _ | omega | (simp; done) | (simp; omega) | (simp at *; omega)) _ | refine Below.grown ?_ (by assumption) (by first | exact Nat.le_refl _ | omega | (simp; done) | (simp; omega) | (simp at *; omega)) (by first | assumption | (intro _ hk; simp [Value.ownBlock] at hk; omega)))) (hB3.mono (by first | exact Nat.le_refl _ | omega | (simp; done) | (simp; omega) | (simp at *; omega)))
        have hs3 := hW3.size
        go_wp2_with (fail)
        go_ret
        exact ⟨ret_int (by simp [twoE, h1, h2, h3]), hW3⟩
end Go.Proofs.Ytalkonicppbgdaa

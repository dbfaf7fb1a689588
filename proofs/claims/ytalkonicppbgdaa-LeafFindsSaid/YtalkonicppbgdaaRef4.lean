/-
  Contracts of the reference's SameCopy, Alike, two.
-/
import Derived.Test.YtalkonicppbgdaaRef3
namespace Go.Proofs.Ytalkonicppbgdaa
open Go.RowKit Go.PB

set_option maxRecDepth 100000 in
set_option maxHeartbeats 1000000 in
theorem Alike_any (t u : TextD) (va vb : Value) (w : World) (ha : Rd w [va] t) (hb : Rd w [vb] u) :
    Calls Try.prog 26 #[.agg #[va], .agg #[vb]] w fun e w' => e = .returned (.bool (alikeB t u)) ∧ Below w.heap.size w w' := by
  obtain ⟨pa, ca, rfl, m1, m2⟩ := rd_open ha
  obtain ⟨pb, cb, rfl, m3, m4⟩ := rd_open hb
  by_cases hl : t.length = u.length
  · have hl1 : ((t.length : Int) != (u.length : Int)) = false := by simp [hl]
    have HL := Lib.hid hl; clear hl
    go_enter Try.func26, Try.ntmps26
    go_wp2
    go_loopg [5] (t.length + 1) (fun g i wr => ∃ k : Nat, k ≤ t.length ∧ g = t.length + 1 - k ∧ i = .int .i64 k ∧ ((t.take k).zip (u.take k)).all (fun p => chapAlike p.1 p.2) = true ∧ Below w.heap.size w wr ∧ RdAt wr w.heap.size 0 t ∧ RdAt wr (w.heap.size + 1) 0 u)
    case atStart => exact ⟨0, Nat.zero_le _, by simp, rfl, by simp, (by repeat (first | exact Below.refl _ _ | assumption | refine Below.drew ?_ | refine below_drewN ?_ _ | refine Below.alloc ?_ (by first | exact Nat.le_refl _ | omega | (simp; done) | (simp; omega) | (simp at *; omega)) _ | refine Below.setCell ?_ (by first | exact Nat.le_refl _ | omega | (simp; done) | (simp; omega) | (simp at *; omega)) _ | refine Below.grown ?_ (by assumption) (by first | exact Nat.le_refl _ | omega | (simp; done) | (simp; omega) | (simp at *; omega)) (by first | assumption | (intro _ hk; simp [Value.ownBlock] at hk; omega)))), RdAt.mk_slice (by simp; try omega) (by simp) (ha.below (by repeat (first | exact Below.refl _ _ | assumption | refine Below.drew ?_ | refine below_drewN ?_ _ | refine Below.alloc ?_ (by first | exact Nat.le_refl _ | omega | (simp; done) | (simp; omega) | (simp at *; omega)) _ | refine Below.setCell ?_ (by first | exact Nat.le_refl _ | omega | (simp; done) | (simp; omega) | (simp at *; omega)) _ | refine Below.grown ?_ (by assumption) (by first | exact Nat.le_refl _ | omega | (simp; done) | (simp; omega) | (simp at *; omega)) (by first | assumption | (intro _ hk; simp [Value.ownBlock] at hk; omega))))), RdAt.mk_slice (by simp) (by simp) (hb.below (by repeat (first | exact Below.refl _ _ | assumption | refine Below.drew ?_ | refine below_drewN ?_ _ | refine Below.alloc ?_ (by first | exact Nat.le_refl _ | omega | (simp; done) | (simp; omega) | (simp at *; omega)) _ | refine Below.setCell ?_ (by first | exact Nat.le_refl _ | omega | (simp; done) | (simp; omega) | (simp at *; omega)) _ | refine Below.grown ?_ (by assumption) (by first | exact Nat.le_refl _ | omega | (simp; done) | (simp; omega) | (simp at *; omega)) (by first | assumption | (intro _ hk; simp [Value.ownBlock] at hk; omega)))))⟩
    case round =>
      obtain ⟨w1, rfl⟩ : ∃ x : World, x = wr := ⟨_, rfl⟩
      obtain ⟨k, hk, rfl, rfl, hp, hB, hT, hU⟩ := hrel
      have HP := Lib.hid hp; clear hp
      obtain ⟨pt, ct, e0, hrt⟩ := hT.slice
      obtain ⟨pu, cu, f0, hru⟩ := hU.slice
      by_cases hlt : k < t.length
      · obtain ⟨x, hx⟩ := some_of_lt hlt
        have hlt' : k < u.length := HL.out ▸ hlt
        obtain ⟨y, hy⟩ := some_of_lt hlt'
        obtain ⟨b1, o1, rfl, hb1, hc1, _, p1, q1, hd1, hr1⟩ := hrt.chap hx
        obtain ⟨b2, o2, rfl, hb2, hc2, _, p2, q2, hd2, hr2⟩ := hru.chap hy
        have hm1 := hr1.bd; have hm2 := hr2.bd
        have HX := Lib.hid hx; have HY := Lib.hid hy; clear hx hy
        by_cases hi : x.id = y.id
        · have hi1 : (x.id != y.id) = false := by simp [hi]
          have HI := Lib.hid hi; clear hi
          by_cases hll : x.lines.length = y.lines.length
          · have hl2 : ((x.lines.length : Int) != (y.lines.length : Int)) = false := by simp [hll]
            have HLL := Lib.hid hll; clear hll
            go_wp2
            go_quiet (fail)
            go_wp2
            go_roundg (t.length + 1 - (k + 1))
            case rel => exact ⟨k + 1, by omega, rfl, by go_num, by rw [zip_take (p := chapAlike) HX.out HY.out, HP.out]; simp [chapAlike, eqB, HI.out, HLL.out], below_drewN hB _, hT.below (below_drewN (Below.refl _ _) _), hU.below (below_drewN (Below.refl _ _) _)⟩
            case measure => omega
          · have hl2 : ((x.lines.length : Int) != (y.lines.length : Int)) = true := by rw [bne_iff_ne]; omega
            have HLL := Lib.hid hll; clear hll
            go_wp2
            go_quiet (fail)
            go_wp2
            go_ret
            exact ⟨ret_bool (by
              have := zip_false_of (p := chapAlike) HX.out HY.out (by simp [chapAlike, eqB, HLL.out])
              simp [alikeB, this]), below_drewN hB _⟩
        · have hi1 : (x.id != y.id) = true := by simp [hi]
          have HI := Lib.hid hi; clear hi
          go_wp2
          go_quiet (fail)
          go_wp2
          go_ret
          exact ⟨ret_bool (by
            have := zip_false_of (p := chapAlike) HX.out HY.out (by simp [chapAlike, eqB, HI.out])
            simp [alikeB, this]), below_drewN hB _⟩
      · go_wp2
        go_ret
        exact ⟨ret_bool (by
          have h1 := HP.out
          have h2 := HL.out
          rw [take_all (by omega), take_all (by omega)] at h1
          simp [alikeB, eqB, h1, h2]), hB⟩
  · go_enter Try.func26, Try.ntmps26
    have hl' : ((t.length : Int) != (u.length : Int)) = true := by rw [bne_iff_ne]; omega
    go_wp2
    go_ret
    exact ⟨ret_bool (by simp [alikeB, eqB, hl]), (by repeat (first | exact Below.refl _ _ | assumption | refine Below.drew ?_ | refine below_drewN ?_ _ | refine Below.alloc ?_ (by first | exact Nat.le_refl _ | omega | (simp; done) | (simp; omega) | (simp at *; omega)) _ | refine Below.setCell ?_ (by first | exact Nat.le_refl _ | omega | (simp; done) | (simp; omega) | (simp at *; omega)) _ | refine Below.grown ?_ (by assumption) (by first | exact Nat.le_refl _ | omega | (simp; done) | (simp; omega) | (simp at *; omega)) (by first | assumption | (intro _ hk; simp [Value.ownBlock] at hk; omega))))⟩

set_option maxHeartbeats 1000000 in
theorem two_any (t u : TextD) (va vb : Value) (w : World) (ha : Rd w [va] t) (hb : Rd w [vb] u) :
    Calls Try.prog 15 #[.agg #[va], .agg #[vb]] w fun e w' => e = .returned (.int .i64 (twoE t u)) ∧ Below w.heap.size w w' := by
  obtain ⟨pa, ca, rfl, m1, m2⟩ := rd_open ha
  obtain ⟨pb, cb, rfl, m3, m4⟩ := rd_open hb
  cases h1 : textB t
  · go_enter Try.func15, Try.ntmps15
    go_wp2_with (go_at_call 25; refine Calls.mono (Text_any t _ _ (ha.below (by repeat (first | exact Below.refl _ _ | assumption | refine Below.drew ?_ | refine below_drewN ?_ _ | refine Below.alloc ?_ (by first | exact Nat.le_refl _ | omega | (simp; done) | (simp; omega) | (simp at *; omega)) _ | refine Below.setCell ?_ (by first | exact Nat.le_refl _ | omega | (simp; done) | (simp; omega) | (simp at *; omega)) _ | refine Below.grown ?_ (by assumption) (by first | exact Nat.le_refl _ | omega | (simp; done) | (simp; omega) | (simp at *; omega)) (by first | assumption | (intro _ hk; simp [Value.ownBlock] at hk; omega)))))) ?_; rintro e w1 ⟨rfl, hB1⟩)
    go_ret
    exact ⟨ret_int (by simp [twoE, h1]), Below.trans (by repeat (first | exact Below.refl _ _ | assumption | refine Below.drew ?_ | refine below_drewN ?_ _ | refine Below.alloc ?_ (by first | exact Nat.le_refl _ | omega | (simp; done) | (simp; omega) | (simp at *; omega)) _ | refine Below.setCell ?_ (by first | exact Nat.le_refl _ | omega | (simp; done) | (simp; omega) | (simp at *; omega)) _ | refine Below.grown ?_ (by assumption) (by first | exact Nat.le_refl _ | omega | (simp; done) | (simp; omega) | (simp at *; omega)) (by first | assumption | (intro _ hk; simp [Value.ownBlock] at hk; omega)))) (hB1.mono (by simp; try omega))⟩
  · cases h2 : textB u
    · go_enter Try.func15, Try.ntmps15
      go_wp2_with (fail)
      refine Calls.mono (Text_any t _ _ (ha.below (by repeat (first | exact Below.refl _ _ | assumption | refine Below.drew ?_ | refine below_drewN ?_ _ | refine Below.alloc ?_ (by first | exact Nat.le_refl _ | omega | (simp; done) | (simp; omega) | (simp at *; omega)) _ | refine Below.setCell ?_ (by first | exact Nat.le_refl _ | omega | (simp; done) | (simp; omega) | (simp at *; omega)) _ | refine Below.grown ?_ (by assumption) (by first | exact Nat.le_refl _ | omega | (simp; done) | (simp; omega) | (simp at *; omega)) (by first | assumption | (intro _ hk; simp [Value.ownBlock] at hk; omega)))))) ?_
      rintro e w1 ⟨rfl, hB1⟩
      obtain ⟨hc1, hf1⟩ := bcell hB1
      have hz1 := hB1.size
      try simp only [World.size_alloc, World.size_setCell, World.heap_drew, World.heap_drewN] at hz1
      have hW1 : Below w.heap.size w w1 := Below.trans (by repeat (first | exact Below.refl _ _ | assumption | refine Below.drew ?_ | refine below_drewN ?_ _ | refine Below.alloc ?_ (by first | exact Nat.le_refl _ | omega | (simp; done) | (simp; omega) | (simp at *; omega)) _ | refine Below.setCell ?_ (by first | exact Nat.le_refl _ | omega | (simp; done) | (simp; omega) | (simp at *; omega)) _ | refine Below.grown ?_ (by assumption) (by first | exact Nat.le_refl _ | omega | (simp; done) | (simp; omega) | (simp at *; omega)) (by first | assumption | (intro _ hk; simp [Value.ownBlock] at hk; omega)))) (hB1.mono (by first | exact Nat.le_refl _ | omega | (simp; done) | (simp; omega) | (simp at *; omega)))
      have hs1 := hW1.size
      have hl1_0 : w.heap.size < w1.heap.size := (by first | exact Nat.le_refl _ | omega | (simp; done) | (simp; omega) | (simp at *; omega))
      have hl1_1 : w.heap.size + 1 < w1.heap.size := (by first | exact Nat.le_refl _ | omega | (simp; done) | (simp; omega) | (simp at *; omega))
      go_wp2_with (fail)
      refine Calls.mono (Text_any u _ _ (hb.below hW1)) ?_
      rintro e w2 ⟨rfl, hB2⟩
      obtain ⟨hc2, hf2⟩ := bcell hB2
      have hz2 := hB2.size
      try simp only [World.size_alloc, World.size_setCell, World.heap_drew, World.heap_drewN] at hz2
      have hW2 : Below w.heap.size w w2 := Below.trans (by repeat (first | exact Below.refl _ _ | assumption | refine Below.drew ?_ | refine below_drewN ?_ _ | refine Below.alloc ?_ (by first | exact Nat.le_refl _ | omega | (simp; done) | (simp; omega) | (simp at *; omega)) _ | refine Below.setCell ?_ (by first | exact Nat.le_refl _ | omega | (simp; done) | (simp; omega) | (simp at *; omega)) _ | refine Below.grown ?_ (by assumption) (by first | exact Nat.le_refl _ | omega | (simp; done) | (simp; omega) | (simp at *; omega)) (by first | assumption | (intro _ hk; simp [Value.ownBlock] at hk; omega)))) (hB2.mono (by first | exact Nat.le_refl _ | omega | (simp; done) | (simp; omega) | (simp at *; omega)))
      have hs2 := hW2.size
      have hl2_0 : w.heap.size < w2.heap.size := (by first | exact Nat.le_refl _ | omega | (simp; done) | (simp; omega) | (simp at *; omega))
      have hl2_1 : w.heap.size + 1 < w2.heap.size := (by first | exact Nat.le_refl _ | omega | (simp; done) | (simp; omega) | (simp at *; omega))
      go_wp2
      go_ret
      exact ⟨ret_int (by simp [twoE, h1, h2]), hW2⟩
    · cases h3 : alikeB t u
      all_goals
        go_enter Try.func15, Try.ntmps15
        go_wp2_with (fail)
        refine Calls.mono (Text_any t _ _ (ha.below (by repeat (first | exact Below.refl _ _ | assumption | refine Below.drew ?_ | refine below_drewN ?_ _ | refine Below.alloc ?_ (by first | exact Nat.le_refl _ | omega | (simp; done) | (simp; omega) | (simp at *; omega)) _ | refine Below.setCell ?_ (by first | exact Nat.le_refl _ | omega | (simp; done) | (simp; omega) | (simp at *; omega)) _ | refine Below.grown ?_ (by assumption) (by first | exact Nat.le_refl _ | omega | (simp; done) | (simp; omega) | (simp at *; omega)) (by first | assumption | (intro _ hk; simp [Value.ownBlock] at hk; omega)))))) ?_
        rintro e w1 ⟨rfl, hB1⟩
        obtain ⟨hc1, hf1⟩ := bcell hB1
        have hz1 := hB1.size
        try simp only [World.size_alloc, World.size_setCell, World.heap_drew, World.heap_drewN] at hz1
        have hW1 : Below w.heap.size w w1 := Below.trans (by repeat (first | exact Below.refl _ _ | assumption | refine Below.drew ?_ | refine below_drewN ?_ _ | refine Below.alloc ?_ (by first | exact Nat.le_refl _ | omega | (simp; done) | (simp; omega) | (simp at *; omega)) _ | refine Below.setCell ?_ (by first | exact Nat.le_refl _ | omega | (simp; done) | (simp; omega) | (simp at *; omega)) _ | refine Below.grown ?_ (by assumption) (by first | exact Nat.le_refl _ | omega | (simp; done) | (simp; omega) | (simp at *; omega)) (by first | assumption | (intro _ hk; simp [Value.ownBlock] at hk; omega)))) (hB1.mono (by first | exact Nat.le_refl _ | omega | (simp; done) | (simp; omega) | (simp at *; omega)))
        have hs1 := hW1.size
        have hl1_0 : w.heap.size < w1.heap.size := (by first | exact Nat.le_refl _ | omega | (simp; done) | (simp; omega) | (simp at *; omega))
        have hl1_1 : w.heap.size + 1 < w1.heap.size := (by first | exact Nat.le_refl _ | omega | (simp; done) | (simp; omega) | (simp at *; omega))
        go_wp2_with (fail)
        refine Calls.mono (Text_any u _ _ (hb.below hW1)) ?_
        rintro e w2 ⟨rfl, hB2⟩
        obtain ⟨hc2, hf2⟩ := bcell hB2
        have hz2 := hB2.size
        try simp only [World.size_alloc, World.size_setCell, World.heap_drew, World.heap_drewN] at hz2
        have hW2 : Below w.heap.size w w2 := Below.trans (by repeat (first | exact Below.refl _ _ | assumption | refine Below.drew ?_ | refine below_drewN ?_ _ | refine Below.alloc ?_ (by first | exact Nat.le_refl _ | omega | (simp; done) | (simp; omega) | (simp at *; omega)) _ | refine Below.setCell ?_ (by first | exact Nat.le_refl _ | omega | (simp; done) | (simp; omega) | (simp at *; omega)) _ | refine Below.grown ?_ (by assumption) (by first | exact Nat.le_refl _ | omega | (simp; done) | (simp; omega) | (simp at *; omega)) (by first | assumption | (intro _ hk; simp [Value.ownBlock] at hk; omega)))) (hB2.mono (by first | exact Nat.le_refl _ | omega | (simp; done) | (simp; omega) | (simp at *; omega)))
        have hs2 := hW2.size
        have hl2_0 : w.heap.size < w2.heap.size := (by first | exact Nat.le_refl _ | omega | (simp; done) | (simp; omega) | (simp at *; omega))
        have hl2_1 : w.heap.size + 1 < w2.heap.size := (by first | exact Nat.le_refl _ | omega | (simp; done) | (simp; omega) | (simp at *; omega))
        go_wp2_with (fail)
        refine Calls.mono (Alike_any t u _ _ _ (ha.below hW2) (hb.below hW2)) ?_
        rintro e w3 ⟨rfl, hB3⟩
        obtain ⟨hc3, hf3⟩ := bcell hB3
        have hz3 := hB3.size
        try simp only [World.size_alloc, World.size_setCell, World.heap_drew, World.heap_drewN] at hz3
        have hW3 : Below w.heap.size w w3 := Below.trans (by repeat (first | exact Below.refl _ _ | assumption | refine Below.drew ?_ | refine below_drewN ?_ _ | refine Below.alloc ?_ (by first | exact Nat.le_refl _ | omega | (simp; done) | (simp; omega) | (simp at *; omega)) _ | refine Below.setCell ?_ (by first | exact Nat.le_refl _ | omega | (simp; done) | (simp; omega) | (simp at *; omega)) _ | refine Below.grown ?_ (by assumption) (by first | exact Nat.le_refl _ | omega | (simp; done) | (simp; omega) | (simp at *; omega)) (by first | assumption | (intro _ hk; simp [Value.ownBlock] at hk; omega)))) (hB3.mono (by first | exact Nat.le_refl _ | omega | (simp; done) | (simp; omega) | (simp at *; omega)))
        have hs3 := hW3.size
        go_wp2
        go_ret
        exact ⟨ret_int (by simp [twoE, h1, h2, h3]), hW3⟩
end Go.Proofs.Ytalkonicppbgdaa

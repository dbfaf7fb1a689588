/-
  Contracts of leaf.readings' two function values: next, fewest.
-/
import Derived.Test.YtalkonicppbgdaaEnv
namespace Go.Proofs.Ytalkonicppbgdaa
open Go.RowKit Go.PB

/-- The boxes' facts, for the walk. -/
theorem Env.facts {W0 : World} {a b : List ByteArray} {va vb : Value} {A B W M K F N : Nat} {w : World} (h : Env W0 a b va vb A B W M K F N w) :
    w.cell? ⟨A, 0, none⟩ = some va ∧ w.cell? ⟨B, 0, none⟩ = some vb ∧ w.cell? ⟨K, 0, none⟩ = some (.map (some M)) ∧
    w.cell? ⟨F, 0, none⟩ = some (.func (.func 33) #[] #[.pointer (some ⟨K, 0, none⟩), .pointer (some ⟨A, 0, none⟩), .pointer (some ⟨B, 0, none⟩), .pointer (some ⟨F, 0, none⟩), .pointer (some ⟨N, 0, none⟩)]) ∧
    w.cell? ⟨N, 0, none⟩ = some (.func (.func 32) #[] #[.pointer (some ⟨A, 0, none⟩), .pointer (some ⟨B, 0, none⟩), .pointer (some ⟨W, 0, none⟩), .pointer (some ⟨F, 0, none⟩)]) ∧
    A < w.heap.size ∧ B < w.heap.size ∧ W < w.heap.size ∧ K < w.heap.size ∧ F < w.heap.size ∧ N < w.heap.size :=
  ⟨h.cA, h.cB, h.cK, h.cF, h.cN, h.hA.1, h.hB.1, h.hW.1, h.hK.1, h.hF.1, h.hN.1⟩

theorem cell3 {w : World} {b : Nat} {x0 x1 x2 : Value} (u0 u1 u2 : Value) (h0 : w.cell? ⟨b, 0, none⟩ = some x0) (h1 : w.cell? ⟨b, 1, none⟩ = some x1) (h2 : w.cell? ⟨b, 2, none⟩ = some x2) :
    (((w.setCell ⟨b, 0, none⟩ u0).setCell ⟨b, 1, none⟩ u1).setCell ⟨b, 2, none⟩ u2).cell? ⟨b, 0, none⟩ = some u0 ∧ (((w.setCell ⟨b, 0, none⟩ u0).setCell ⟨b, 1, none⟩ u1).setCell ⟨b, 2, none⟩ u2).cell? ⟨b, 1, none⟩ = some u1 ∧ (((w.setCell ⟨b, 0, none⟩ u0).setCell ⟨b, 1, none⟩ u1).setCell ⟨b, 2, none⟩ u2).cell? ⟨b, 2, none⟩ = some u2 := by
  refine ⟨?_, ?_, ?_⟩ <;> simp [go_sem, h0, h1, h2]

theorem way0_at (w : World) : (Instr.index 70 (.agg #[.int .u8 3, .int .i64 1, .int .i64 1, .int .u8 1, .int .i64 1, .int .i64 0, .int .u8 2, .int .i64 0, .int .i64 1]) (.int .i64 0)).run Try.prog w = .ok (.agg #[.int .u8 3, .int .i64 1, .int .i64 1]) w := by kernel_rfl
theorem way1_at (w : World) : (Instr.index 70 (.agg #[.int .u8 3, .int .i64 1, .int .i64 1, .int .u8 1, .int .i64 1, .int .i64 0, .int .u8 2, .int .i64 0, .int .i64 1]) (.int .i64 1)).run Try.prog w = .ok (.agg #[.int .u8 1, .int .i64 1, .int .i64 0]) w := by kernel_rfl
theorem way2_at (w : World) : (Instr.index 70 (.agg #[.int .u8 3, .int .i64 1, .int .i64 1, .int .u8 1, .int .i64 1, .int .i64 0, .int .u8 2, .int .i64 0, .int .i64 1]) (.int .i64 2)).run Try.prog w = .ok (.agg #[.int .u8 2, .int .i64 0, .int .i64 1]) w := by kernel_rfl

set_option maxHeartbeats 1000000 in
theorem next_any {W0 : World} {a b : List ByteArray} {p q : Option Addr} {c d : Nat} {A B W M K F N : Nat} (ha : a.length ≤ 1000) (hb : b.length ≤ 1000) (i k : Nat) (w : World)
    (hE : Env W0 a b (.slice p a.length c) (.slice q b.length d) A B W M K F N w) (hi : i ≤ a.length) (hk : k ≤ b.length)
    (hF : ∀ (i' k' : Nat) (w' : World), i' ≤ a.length → k' ≤ b.length → (a.length - i') + (b.length - k') < (a.length - i) + (b.length - k) → Env W0 a b (.slice p a.length c) (.slice q b.length d) A B W M K F N w' →
      Calls Try.prog 33 #[.int .i64 i', .int .i64 k', .pointer (some ⟨K, 0, none⟩), .pointer (some ⟨A, 0, none⟩), .pointer (some ⟨B, 0, none⟩), .pointer (some ⟨F, 0, none⟩), .pointer (some ⟨N, 0, none⟩)] w' fun e w'' => e = .returned (.int .i64 (fewAt a b i' k')) ∧ Left a b M w' w'') :
    Calls Try.prog 32 #[.int .i64 i, .int .i64 k, .pointer (some ⟨A, 0, none⟩), .pointer (some ⟨B, 0, none⟩), .pointer (some ⟨W, 0, none⟩), .pointer (some ⟨F, 0, none⟩)] w fun e w' =>
      e = .returned (.tuple #[.agg #[.int .u8 (bestW a b i k).1.kind, .int .i64 (bestW a b i k).1.one, .int .i64 (bestW a b i k).1.two], .int .i64 (bestW a b i k).2]) ∧ Left a b M w w' := by
  have HF := Lib.hid hF; clear hF
  obtain ⟨cA, cB, cK, cF, cN, lA, lB, lW, lK, lF, lN⟩ := hE.facts
  obtain ⟨c0, c1, c2, c3, c4, c5, c6, c7, c8⟩ := hE.cW
  have hML : M < w.heap.size := by obtain ⟨f, hf, _⟩ := hE.memo; exact hf.lt
  go_enter Try.func32, Try.ntmps32
  go_wp2_with (fail)
  have hML1 : M ≠ w.heap.size := by omega
  go_loopg [9, 20] 4 (fun g n9 ix wr => ∃ j : Nat, j ≤ 3 ∧ g = 4 - j ∧ ix = .int .i64 j ∧ n9 = .int .i64 (stW a b i k j).2 ∧ Left a b M w wr ∧ w.heap.size < wr.heap.size ∧
    wr.cell? ⟨w.heap.size, 0, none⟩ = some (.int .u8 (stW a b i k j).1.kind) ∧ wr.cell? ⟨w.heap.size, 1, none⟩ = some (.int .i64 (stW a b i k j).1.one) ∧ wr.cell? ⟨w.heap.size, 2, none⟩ = some (.int .i64 (stW a b i k j).1.two) ∧
    (∀ o, wr.frozen? ⟨w.heap.size, o, none⟩ = false))
  case atStart =>
    obtain ⟨f, hf, hm⟩ := hE.memo
    exact ⟨0, by omega, rfl, rfl, by simp [stW], ⟨(But.refl M w).alloc _, f, hf.alloc _, hm⟩, by simp, by simp [stW], by simp [stW], by simp [stW], by intro o; simp⟩
  case round =>
    obtain ⟨w1, rfl⟩ : ∃ x : World, x = wr := ⟨_, rfl⟩
    obtain ⟨j, hj, rfl, rfl, rfl, hL, hz, r0, r1, r2, hfr⟩ := hrel
    have hE1 := hE.but hL.1 hL.2
    have hBut := hL.1
    clear c0 c1 c2 c3 c4 c5 c6 c7 c8 cA cB cK cF cN lA lB lW lK lF lN hL
    obtain ⟨cA, cB, cK, cF, cN, lA, lB, lW, lK, lF, lN⟩ := hE1.facts
    have HE := Lib.hid hE; clear hE
    have hj4 : j = 0 ∨ j = 1 ∨ j = 2 ∨ j = 3 := by omega
    rcases hj4 with rfl | rfl | rfl | rfl
    · rw [show ((0 : Nat) : Int) = 0 from rfl]
      have hidx := way0_at w1
      by_cases h1 : i + 1 ≤ a.length
      · by_cases h2 : k + 1 ≤ b.length
        · have hfit : fits a b i k (wayAt 0) = true := by simp [fits, wayAt]; omega
          have HFIT := Lib.hid hfit; clear hfit
          have hcall := HF.out (i + 1) (k + 1) (w1.alloc (.cells #[.int .u8 3, .int .i64 1, .int .i64 1] 69)) h1 h2 (by omega) (hE1.keep (by repeat (first | exact Below.refl _ _ | assumption | refine Below.drew ?_ | refine below_drewN ?_ _ | refine Below.alloc ?_ (by first | exact Nat.le_refl _ | omega | (simp; done) | (simp; omega) | (simp at *; omega)) _ | refine Below.setCell ?_ (by first | exact Nat.le_refl _ | omega | (simp; done) | (simp; omega) | (simp at *; omega)) _ | refine Below.grown ?_ (by assumption) (by first | exact Nat.le_refl _ | omega | (simp; done) | (simp; omega) | (simp at *; omega)) (by first | assumption | (intro _ hk; simp [Value.ownBlock] at hk; omega)))))
          have HCALL := Lib.hid hcall; clear hcall
          cases hl : lessW a b i k (wayAt 0) (stW a b i k 0).2
          all_goals
            go_wp2_with (fail)
            have hcall := HCALL.out
            try simp only [Int.natCast_add, Int.cast_ofNat_Int] at hcall
            refine Calls.mono hcall ?_
            clear hcall HCALL
            rintro e w2 ⟨rfl, hBt, hL2⟩
            have hz2 := hBt.size
            simp only [World.size_alloc] at hz2
            have q0 := hBt.cell (p := ⟨w1.heap.size, 0, none⟩) (v := .int .u8 3) (by simp) (by simp; omega)
            have q1 := hBt.cell (p := ⟨w1.heap.size, 1, none⟩) (v := .int .i64 1) (by simp) (by simp; omega)
            have q2 := hBt.cell (p := ⟨w1.heap.size, 2, none⟩) (v := .int .i64 1) (by simp) (by simp; omega)
            have s0 := hBt.cell (p := ⟨w.heap.size, 0, none⟩) (v := .int .u8 (stW a b i k 0).1.kind) (((But.refl M w1).alloc _).cell r0 (by simp; omega)) (by simp; omega)
            have s1 := hBt.cell (p := ⟨w.heap.size, 1, none⟩) (v := .int .i64 (stW a b i k 0).1.one) (((But.refl M w1).alloc _).cell r1 (by simp; omega)) (by simp; omega)
            have s2 := hBt.cell (p := ⟨w.heap.size, 2, none⟩) (v := .int .i64 (stW a b i k 0).1.two) (((But.refl M w1).alloc _).cell r2 (by simp; omega)) (by simp; omega)
            have sf : ∀ o, w2.frozen? ⟨w.heap.size, o, none⟩ = false := fun o => (hBt.frozen (p := ⟨w.heap.size, o, none⟩) (by simp; omega) (by simp; omega)).trans ((((But.refl M w1).alloc _).frozen hz (by simp; omega)).trans (hfr o))
            have hB2 : But M w w2 := (hBut.alloc _).trans hBt
            clear r0 r1 r2 hfr
          · have hl' : ¬ fewAt a b (i + 1) (k + 1) < (stW a b i k 0).2 := by simpa [lessW, wayAt] using hl
            go_wp2_with (fail)
            go_roundg (4 - 1)
            case rel => exact ⟨1, by omega, rfl, by go_num, by rw [stW_more hl], ⟨hB2, hL2⟩, by omega, by rw [stW_more hl]; exact s0, by rw [stW_more hl]; exact s1, by rw [stW_more hl]; exact s2, sf⟩
            case measure => omega
          · have hl' : fewAt a b (i + 1) (k + 1) < (stW a b i k 0).2 := by simpa [lessW, wayAt] using hl
            go_wp2_with (fail)
            go_roundg (4 - 1)
            case rel =>
              obtain ⟨f2, hM2, hm2⟩ := hL2
              obtain ⟨t0, t1, t2⟩ := cell3 (.int .u8 3) (.int .i64 1) (.int .i64 1) s0 s1 s2
              have hyes := stW_yes HFIT.out hl
              exact ⟨1, by omega, rfl, by go_num, by rw [hyes]; rfl, ⟨((hB2.setCell (Nat.le_refl _) _).setCell (Nat.le_refl _) _).setCell (Nat.le_refl _) _, f2, ((hM2.setCell hML1 _).setCell hML1 _).setCell hML1 _, hm2⟩, by simp; omega, by rw [hyes]; exact t0, by rw [hyes]; exact t1, by rw [hyes]; exact t2, fun o => by simp [go_sem, sf]⟩
            case measure => omega
        · have hfit : fits a b i k (wayAt 0) = false := by simp [fits, wayAt]; omega
          go_wp2_with (fail)
          go_roundg (4 - 1)
          case rel => exact ⟨1, by omega, rfl, by go_num, by rw [stW_unfit hfit], ⟨hBut.alloc _, hE1.memo.imp fun f hf => ⟨hf.1.alloc _, hf.2⟩⟩, by simp; omega, by rw [stW_unfit hfit]; exact ((But.refl M w1).alloc _).cell r0 (by simp; omega), by rw [stW_unfit hfit]; exact ((But.refl M w1).alloc _).cell r1 (by simp; omega), by rw [stW_unfit hfit]; exact ((But.refl M w1).alloc _).cell r2 (by simp; omega), fun o => (((But.refl M w1).alloc _).frozen (p := ⟨w.heap.size, o, none⟩) hz (by simp; omega)).trans (hfr o)⟩
          case measure => omega
      · have hfit : fits a b i k (wayAt 0) = false := by simp [fits, wayAt]; omega
        go_wp2_with (fail)
        go_roundg (4 - 1)
        case rel => exact ⟨1, by omega, rfl, by go_num, by rw [stW_unfit hfit], ⟨hBut.alloc _, hE1.memo.imp fun f hf => ⟨hf.1.alloc _, hf.2⟩⟩, by simp; omega, by rw [stW_unfit hfit]; exact ((But.refl M w1).alloc _).cell r0 (by simp; omega), by rw [stW_unfit hfit]; exact ((But.refl M w1).alloc _).cell r1 (by simp; omega), by rw [stW_unfit hfit]; exact ((But.refl M w1).alloc _).cell r2 (by simp; omega), fun o => (((But.refl M w1).alloc _).frozen (p := ⟨w.heap.size, o, none⟩) hz (by simp; omega)).trans (hfr o)⟩
        case measure => omega
    · rw [show ((1 : Nat) : Int) = 1 from rfl]
      have hidx := way1_at w1
      by_cases h1 : i + 1 ≤ a.length
      · by_cases h2 : k ≤ b.length
        · have hfit : fits a b i k (wayAt 1) = true := by simp [fits, wayAt]; omega
          have HFIT := Lib.hid hfit; clear hfit
          have hcall := HF.out (i + 1) (k) (w1.alloc (.cells #[.int .u8 1, .int .i64 1, .int .i64 0] 69)) h1 h2 (by omega) (hE1.keep (by repeat (first | exact Below.refl _ _ | assumption | refine Below.drew ?_ | refine below_drewN ?_ _ | refine Below.alloc ?_ (by first | exact Nat.le_refl _ | omega | (simp; done) | (simp; omega) | (simp at *; omega)) _ | refine Below.setCell ?_ (by first | exact Nat.le_refl _ | omega | (simp; done) | (simp; omega) | (simp at *; omega)) _ | refine Below.grown ?_ (by assumption) (by first | exact Nat.le_refl _ | omega | (simp; done) | (simp; omega) | (simp at *; omega)) (by first | assumption | (intro _ hk; simp [Value.ownBlock] at hk; omega)))))
          have HCALL := Lib.hid hcall; clear hcall
          cases hl : lessW a b i k (wayAt 1) (stW a b i k 1).2
          all_goals
            go_wp2_with (fail)
            have hcall := HCALL.out
            try simp only [Int.natCast_add, Int.cast_ofNat_Int] at hcall
            refine Calls.mono hcall ?_
            clear hcall HCALL
            rintro e w2 ⟨rfl, hBt, hL2⟩
            have hz2 := hBt.size
            simp only [World.size_alloc] at hz2
            have q0 := hBt.cell (p := ⟨w1.heap.size, 0, none⟩) (v := .int .u8 1) (by simp) (by simp; omega)
            have q1 := hBt.cell (p := ⟨w1.heap.size, 1, none⟩) (v := .int .i64 1) (by simp) (by simp; omega)
            have q2 := hBt.cell (p := ⟨w1.heap.size, 2, none⟩) (v := .int .i64 0) (by simp) (by simp; omega)
            have s0 := hBt.cell (p := ⟨w.heap.size, 0, none⟩) (v := .int .u8 (stW a b i k 1).1.kind) (((But.refl M w1).alloc _).cell r0 (by simp; omega)) (by simp; omega)
            have s1 := hBt.cell (p := ⟨w.heap.size, 1, none⟩) (v := .int .i64 (stW a b i k 1).1.one) (((But.refl M w1).alloc _).cell r1 (by simp; omega)) (by simp; omega)
            have s2 := hBt.cell (p := ⟨w.heap.size, 2, none⟩) (v := .int .i64 (stW a b i k 1).1.two) (((But.refl M w1).alloc _).cell r2 (by simp; omega)) (by simp; omega)
            have sf : ∀ o, w2.frozen? ⟨w.heap.size, o, none⟩ = false := fun o => (hBt.frozen (p := ⟨w.heap.size, o, none⟩) (by simp; omega) (by simp; omega)).trans ((((But.refl M w1).alloc _).frozen hz (by simp; omega)).trans (hfr o))
            have hB2 : But M w w2 := (hBut.alloc _).trans hBt
            clear r0 r1 r2 hfr
          · have hl' : ¬ fewAt a b (i + 1) (k) < (stW a b i k 1).2 := by simpa [lessW, wayAt] using hl
            go_wp2_with (fail)
            go_roundg (4 - 2)
            case rel => exact ⟨2, by omega, rfl, by go_num, by rw [stW_more hl], ⟨hB2, hL2⟩, by omega, by rw [stW_more hl]; exact s0, by rw [stW_more hl]; exact s1, by rw [stW_more hl]; exact s2, sf⟩
            case measure => omega
          · have hl' : fewAt a b (i + 1) (k) < (stW a b i k 1).2 := by simpa [lessW, wayAt] using hl
            go_wp2_with (fail)
            go_roundg (4 - 2)
            case rel =>
              obtain ⟨f2, hM2, hm2⟩ := hL2
              obtain ⟨t0, t1, t2⟩ := cell3 (.int .u8 1) (.int .i64 1) (.int .i64 0) s0 s1 s2
              have hyes := stW_yes HFIT.out hl
              exact ⟨2, by omega, rfl, by go_num, by rw [hyes]; rfl, ⟨((hB2.setCell (Nat.le_refl _) _).setCell (Nat.le_refl _) _).setCell (Nat.le_refl _) _, f2, ((hM2.setCell hML1 _).setCell hML1 _).setCell hML1 _, hm2⟩, by simp; omega, by rw [hyes]; exact t0, by rw [hyes]; exact t1, by rw [hyes]; exact t2, fun o => by simp [go_sem, sf]⟩
            case measure => omega
        · exact absurd hk h2
      · have hfit : fits a b i k (wayAt 1) = false := by simp [fits, wayAt]; omega
        go_wp2_with (fail)
        go_roundg (4 - 2)
        case rel => exact ⟨2, by omega, rfl, by go_num, by rw [stW_unfit hfit], ⟨hBut.alloc _, hE1.memo.imp fun f hf => ⟨hf.1.alloc _, hf.2⟩⟩, by simp; omega, by rw [stW_unfit hfit]; exact ((But.refl M w1).alloc _).cell r0 (by simp; omega), by rw [stW_unfit hfit]; exact ((But.refl M w1).alloc _).cell r1 (by simp; omega), by rw [stW_unfit hfit]; exact ((But.refl M w1).alloc _).cell r2 (by simp; omega), fun o => (((But.refl M w1).alloc _).frozen (p := ⟨w.heap.size, o, none⟩) hz (by simp; omega)).trans (hfr o)⟩
        case measure => omega
    · rw [show ((2 : Nat) : Int) = 2 from rfl]
      have hidx := way2_at w1
      by_cases h1 : i ≤ a.length
      · by_cases h2 : k + 1 ≤ b.length
        · have hfit : fits a b i k (wayAt 2) = true := by simp [fits, wayAt]; omega
          have HFIT := Lib.hid hfit; clear hfit
          have hcall := HF.out (i) (k + 1) (w1.alloc (.cells #[.int .u8 2, .int .i64 0, .int .i64 1] 69)) h1 h2 (by omega) (hE1.keep (by repeat (first | exact Below.refl _ _ | assumption | refine Below.drew ?_ | refine below_drewN ?_ _ | refine Below.alloc ?_ (by first | exact Nat.le_refl _ | omega | (simp; done) | (simp; omega) | (simp at *; omega)) _ | refine Below.setCell ?_ (by first | exact Nat.le_refl _ | omega | (simp; done) | (simp; omega) | (simp at *; omega)) _ | refine Below.grown ?_ (by assumption) (by first | exact Nat.le_refl _ | omega | (simp; done) | (simp; omega) | (simp at *; omega)) (by first | assumption | (intro _ hk; simp [Value.ownBlock] at hk; omega)))))
          have HCALL := Lib.hid hcall; clear hcall
          cases hl : lessW a b i k (wayAt 2) (stW a b i k 2).2
          all_goals
            go_wp2_with (fail)
            have hcall := HCALL.out
            try simp only [Int.natCast_add, Int.cast_ofNat_Int] at hcall
            refine Calls.mono hcall ?_
            clear hcall HCALL
            rintro e w2 ⟨rfl, hBt, hL2⟩
            have hz2 := hBt.size
            simp only [World.size_alloc] at hz2
            have q0 := hBt.cell (p := ⟨w1.heap.size, 0, none⟩) (v := .int .u8 2) (by simp) (by simp; omega)
            have q1 := hBt.cell (p := ⟨w1.heap.size, 1, none⟩) (v := .int .i64 0) (by simp) (by simp; omega)
            have q2 := hBt.cell (p := ⟨w1.heap.size, 2, none⟩) (v := .int .i64 1) (by simp) (by simp; omega)
            have s0 := hBt.cell (p := ⟨w.heap.size, 0, none⟩) (v := .int .u8 (stW a b i k 2).1.kind) (((But.refl M w1).alloc _).cell r0 (by simp; omega)) (by simp; omega)
            have s1 := hBt.cell (p := ⟨w.heap.size, 1, none⟩) (v := .int .i64 (stW a b i k 2).1.one) (((But.refl M w1).alloc _).cell r1 (by simp; omega)) (by simp; omega)
            have s2 := hBt.cell (p := ⟨w.heap.size, 2, none⟩) (v := .int .i64 (stW a b i k 2).1.two) (((But.refl M w1).alloc _).cell r2 (by simp; omega)) (by simp; omega)
            have sf : ∀ o, w2.frozen? ⟨w.heap.size, o, none⟩ = false := fun o => (hBt.frozen (p := ⟨w.heap.size, o, none⟩) (by simp; omega) (by simp; omega)).trans ((((But.refl M w1).alloc _).frozen hz (by simp; omega)).trans (hfr o))
            have hB2 : But M w w2 := (hBut.alloc _).trans hBt
            clear r0 r1 r2 hfr
          · have hl' : ¬ fewAt a b (i) (k + 1) < (stW a b i k 2).2 := by simpa [lessW, wayAt] using hl
            go_wp2_with (fail)
            go_roundg (4 - 3)
            case rel => exact ⟨3, by omega, rfl, by go_num, by rw [stW_more hl], ⟨hB2, hL2⟩, by omega, by rw [stW_more hl]; exact s0, by rw [stW_more hl]; exact s1, by rw [stW_more hl]; exact s2, sf⟩
            case measure => omega
          · have hl' : fewAt a b (i) (k + 1) < (stW a b i k 2).2 := by simpa [lessW, wayAt] using hl
            go_wp2_with (fail)
            go_roundg (4 - 3)
            case rel =>
              obtain ⟨f2, hM2, hm2⟩ := hL2
              obtain ⟨t0, t1, t2⟩ := cell3 (.int .u8 2) (.int .i64 0) (.int .i64 1) s0 s1 s2
              have hyes := stW_yes HFIT.out hl
              exact ⟨3, by omega, rfl, by go_num, by rw [hyes]; rfl, ⟨((hB2.setCell (Nat.le_refl _) _).setCell (Nat.le_refl _) _).setCell (Nat.le_refl _) _, f2, ((hM2.setCell hML1 _).setCell hML1 _).setCell hML1 _, hm2⟩, by simp; omega, by rw [hyes]; exact t0, by rw [hyes]; exact t1, by rw [hyes]; exact t2, fun o => by simp [go_sem, sf]⟩
            case measure => omega
        · have hfit : fits a b i k (wayAt 2) = false := by simp [fits, wayAt]; omega
          go_wp2_with (fail)
          go_roundg (4 - 3)
          case rel => exact ⟨3, by omega, rfl, by go_num, by rw [stW_unfit hfit], ⟨hBut.alloc _, hE1.memo.imp fun f hf => ⟨hf.1.alloc _, hf.2⟩⟩, by simp; omega, by rw [stW_unfit hfit]; exact ((But.refl M w1).alloc _).cell r0 (by simp; omega), by rw [stW_unfit hfit]; exact ((But.refl M w1).alloc _).cell r1 (by simp; omega), by rw [stW_unfit hfit]; exact ((But.refl M w1).alloc _).cell r2 (by simp; omega), fun o => (((But.refl M w1).alloc _).frozen (p := ⟨w.heap.size, o, none⟩) hz (by simp; omega)).trans (hfr o)⟩
          case measure => omega
      · exact absurd hi h1
    · rw [show ((3 : Nat) : Int) = 3 from rfl]
      go_wp2_with (fail)
      obtain ⟨f1, hM1, hm1⟩ := hE1.memo
      obtain ⟨t0, t1, t2⟩ := cell3 (.int .u8 (stW a b i k 3).1.kind) (.int .i64 (stW a b i k 3).1.one) (.int .i64 (stW a b i k 3).1.two) r0 r1 r2
      refine bodyPost_ret (v := .tuple #[.agg #[.int .u8 (stW a b i k 3).1.kind, .int .i64 (stW a b i k 3).1.one, .int .i64 (stW a b i k 3).1.two], .int .i64 (stW a b i k 3).2]) (by simp [results, Try.results32, go_sem, t0, t1, t2]) rfl ?_
      exact ⟨rfl, ((hBut.setCell (Nat.le_refl _) _).setCell (Nat.le_refl _) _).setCell (Nat.le_refl _) _, f1, ((hM1.setCell hML1 _).setCell hML1 _).setCell hML1 _, hm1⟩
end Go.Proofs.Ytalkonicppbgdaa

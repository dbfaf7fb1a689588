/-
  Contracts of leaf.Find, leaf.Apart.
-/
import Derived.Test.YtalkonicppbgdaaAll
import Derived.Test.YtalkonicppbgdaaLeaf3
namespace Go.Proofs.Ytalkonicppbgdaa
open Go.RowKit Go.PB
open Go.PB.Rep (rd)

theorem cell2 {w : World} {b : Nat} {x0 x1 : Value} (u0 u1 : Value) (h0 : w.cell? ⟨b, 0, none⟩ = some x0) (h1 : w.cell? ⟨b, 1, none⟩ = some x1) :
    ((w.setCell ⟨b, 0, none⟩ u0).setCell ⟨b, 1, none⟩ u1).cell? ⟨b, 0, none⟩ = some u0 ∧ ((w.setCell ⟨b, 0, none⟩ u0).setCell ⟨b, 1, none⟩ u1).cell? ⟨b, 1, none⟩ = some u1 := by
  refine ⟨?_, ?_⟩ <;> simp [go_sem, h0, h1]

theorem rd_nil {α : Type} [Rep α] (w : World) (F : Nat → Prop) : rd w F [.slice none 0 0] ([] : List α) := ⟨none, 0, rfl, Nat.le_refl _, Nat.zero_le _, .inl rfl⟩

set_option maxHeartbeats 2000000 in
theorem Apart_any (t u : TextD) (va vb : Value) (w : World) (ha : Rd w [va] t) (hb : Rd w [vb] u) :
    Calls Try.prog 8 #[.agg #[va], .agg #[vb]] w fun e w' => e = .returned (.tuple #[.int .i64 (apartN t u), .int .i64 (twoE t u)]) ∧ Below w.heap.size w w' := by
  obtain ⟨pa, ca, rfl, m1, m2⟩ := rd_open ha
  obtain ⟨pb, cb, rfl, m3, m4⟩ := rd_open hb
  cases h0 : eqB (twoE t u) 0
  · have hne : (twoE t u != 0) = true := by rw [bne_iff_ne]; exact fun e => by rw [eqB_true e] at h0; cases h0
    have hne' : ¬ twoE t u = 0 := by simpa using hne
    have hap : apartN t u = 0 := by simp [apartN, hne']
    have HNE := Lib.hid hne'; clear hne' h0
    go_enter Try.func8, Try.ntmps8
    go_wp2_with (fail)
    refine Calls.mono (alike_any t u _ _ _ (ha.below (by repeat (first | exact Below.refl _ _ | assumption | refine Below.drew ?_ | refine below_drewN ?_ _ | refine Below.alloc ?_ (by first | exact Nat.le_refl _ | omega | (simp; done) | (simp; omega) | (simp at *; omega)) _ | refine Below.setCell ?_ (by first | exact Nat.le_refl _ | omega | (simp; done) | (simp; omega) | (simp at *; omega)) _ | refine Below.grown ?_ (by assumption) (by first | exact Nat.le_refl _ | omega | (simp; done) | (simp; omega) | (simp at *; omega)) (by first | assumption | (intro _ hk; simp [Value.ownBlock] at hk; omega))))) (hb.below (by repeat (first | exact Below.refl _ _ | assumption | refine Below.drew ?_ | refine below_drewN ?_ _ | refine Below.alloc ?_ (by first | exact Nat.le_refl _ | omega | (simp; done) | (simp; omega) | (simp at *; omega)) _ | refine Below.setCell ?_ (by first | exact Nat.le_refl _ | omega | (simp; done) | (simp; omega) | (simp at *; omega)) _ | refine Below.grown ?_ (by assumption) (by first | exact Nat.le_refl _ | omega | (simp; done) | (simp; omega) | (simp at *; omega)) (by first | assumption | (intro _ hk; simp [Value.ownBlock] at hk; omega)))))) ?_
    rintro e w1 ⟨rfl, hB1⟩
    obtain ⟨hc1, hf1⟩ := bcell hB1
    have hz1 := hB1.size
    try simp only [World.size_alloc, World.size_setCell, World.heap_drew, World.heap_drewN] at hz1
    have hW1 : Below w.heap.size w w1 := Below.trans (by repeat (first | exact Below.refl _ _ | assumption | refine Below.drew ?_ | refine below_drewN ?_ _ | refine Below.alloc ?_ (by first | exact Nat.le_refl _ | omega | (simp; done) | (simp; omega) | (simp at *; omega)) _ | refine Below.setCell ?_ (by first | exact Nat.le_refl _ | omega | (simp; done) | (simp; omega) | (simp at *; omega)) _ | refine Below.grown ?_ (by assumption) (by first | exact Nat.le_refl _ | omega | (simp; done) | (simp; omega) | (simp at *; omega)) (by first | assumption | (intro _ hk; simp [Value.ownBlock] at hk; omega)))) (hB1.mono (by first | exact Nat.le_refl _ | omega | (simp; done) | (simp; omega) | (simp at *; omega)))
    have hs1 := hW1.size
    have hl1_0 : w.heap.size < w1.heap.size := (by first | exact Nat.le_refl _ | omega | (simp; done) | (simp; omega) | (simp at *; omega))
    have hl1_1 : w.heap.size + 1 < w1.heap.size := (by first | exact Nat.le_refl _ | omega | (simp; done) | (simp; omega) | (simp at *; omega))
    go_wp2_with (fail)
    refine bodyPost_ret (v := .tuple #[.int .i64 0, .int .i64 (twoE t u)]) (by simp [results, Try.results8, go_sem]) rfl ?_
    exact ⟨by rw [hap], hW1⟩
  · have he := of_eqB h0
    obtain ⟨t1, t2, t3⟩ := twoE_zero.1 he
    have hap : apartN t u = (allE t u).length := by simp [apartN, he]
    have hlen := allE_len t1 t2 t3
    have hne : (twoE t u != 0) = false := by simp [he]
    have HAP := Lib.hid hap; clear hap
    have HE := Lib.hid he; clear he h0
    go_enter Try.func8, Try.ntmps8
    go_wp2_with (fail)
    refine Calls.mono (alike_any t u _ _ _ (ha.below (by repeat (first | exact Below.refl _ _ | assumption | refine Below.drew ?_ | refine below_drewN ?_ _ | refine Below.alloc ?_ (by first | exact Nat.le_refl _ | omega | (simp; done) | (simp; omega) | (simp at *; omega)) _ | refine Below.setCell ?_ (by first | exact Nat.le_refl _ | omega | (simp; done) | (simp; omega) | (simp at *; omega)) _ | refine Below.grown ?_ (by assumption) (by first | exact Nat.le_refl _ | omega | (simp; done) | (simp; omega) | (simp at *; omega)) (by first | assumption | (intro _ hk; simp [Value.ownBlock] at hk; omega))))) (hb.below (by repeat (first | exact Below.refl _ _ | assumption | refine Below.drew ?_ | refine below_drewN ?_ _ | refine Below.alloc ?_ (by first | exact Nat.le_refl _ | omega | (simp; done) | (simp; omega) | (simp at *; omega)) _ | refine Below.setCell ?_ (by first | exact Nat.le_refl _ | omega | (simp; done) | (simp; omega) | (simp at *; omega)) _ | refine Below.grown ?_ (by assumption) (by first | exact Nat.le_refl _ | omega | (simp; done) | (simp; omega) | (simp at *; omega)) (by first | assumption | (intro _ hk; simp [Value.ownBlock] at hk; omega)))))) ?_
    rintro e w1 ⟨rfl, hB1⟩
    obtain ⟨hc1, hf1⟩ := bcell hB1
    have hz1 := hB1.size
    try simp only [World.size_alloc, World.size_setCell, World.heap_drew, World.heap_drewN] at hz1
    have hW1 : Below w.heap.size w w1 := Below.trans (by repeat (first | exact Below.refl _ _ | assumption | refine Below.drew ?_ | refine below_drewN ?_ _ | refine Below.alloc ?_ (by first | exact Nat.le_refl _ | omega | (simp; done) | (simp; omega) | (simp at *; omega)) _ | refine Below.setCell ?_ (by first | exact Nat.le_refl _ | omega | (simp; done) | (simp; omega) | (simp at *; omega)) _ | refine Below.grown ?_ (by assumption) (by first | exact Nat.le_refl _ | omega | (simp; done) | (simp; omega) | (simp at *; omega)) (by first | assumption | (intro _ hk; simp [Value.ownBlock] at hk; omega)))) (hB1.mono (by first | exact Nat.le_refl _ | omega | (simp; done) | (simp; omega) | (simp at *; omega)))
    have hs1 := hW1.size
    have hl1_0 : w.heap.size < w1.heap.size := (by first | exact Nat.le_refl _ | omega | (simp; done) | (simp; omega) | (simp at *; omega))
    have hl1_1 : w.heap.size + 1 < w1.heap.size := (by first | exact Nat.le_refl _ | omega | (simp; done) | (simp; omega) | (simp at *; omega))
    go_wp2_with (fail)
    refine Calls.mono (all_any t u _ _ _ (ha.below hW1) (hb.below hW1) t1 t2 t3) ?_
    rintro e w2 ⟨v2, rfl, hB2, hr2'⟩
    have hr2 : Rd w2 [v2] (allE t u) := Rep.mono (fun b h => h.2) (Keep.refl _ _) hr2'
    obtain ⟨p2, c2, rfl, _, _⟩ := rd_open hr2
    go_wp2_with (fail)
    refine bodyPost_ret (v := .tuple #[.int .i64 (allE t u).length, .int .i64 0]) (by simp [results, Try.results8, go_sem]) rfl ?_
    exact ⟨by rw [HAP.out, HE.out], hW1.trans (hB2.mono hs1)⟩

set_option maxHeartbeats 2000000 in
theorem Find_any (t u : TextD) (id : Int) (va vb : Value) (w : World) (ha : Rd w [va] t) (hb : Rd w [vb] u) (hid : I64 id) :
    Calls Try.prog 6 #[.agg #[va], .agg #[vb], .int .i64 id] w fun e w' => ∃ vs, e = .returned (.tuple #[.agg #[.int .i64 (findC t u id).id, vs], .int .i64 (findE t u id)]) ∧ Below w.heap.size w w' ∧ rd w' (fun b => w.heap.size ≤ b ∧ b < w'.heap.size) [vs] (findC t u id).rs := by
  obtain ⟨pa, ca, rfl, m1, m2⟩ := rd_open ha
  obtain ⟨pb, cb, rfl, m3, m4⟩ := rd_open hb
  cases h0 : eqB (twoE t u) 0
  · have hne : (twoE t u != 0) = true := by rw [bne_iff_ne]; exact fun e => by rw [eqB_true e] at h0; cases h0
    have hne' : ¬ twoE t u = 0 := by simpa using hne
    have hfe : findE t u id = twoE t u := by simp [findE, hne']
    have hfc : findC t u id = ⟨0, []⟩ := by simp [findC, hfe, hne']
    have HNE := Lib.hid hne'; clear hne' h0
    go_enter Try.func6, Try.ntmps6
    go_wp2_with (fail)
    refine Calls.mono (alike_any t u _ _ _ (ha.below (by repeat (first | exact Below.refl _ _ | assumption | refine Below.drew ?_ | refine below_drewN ?_ _ | refine Below.alloc ?_ (by first | exact Nat.le_refl _ | omega | (simp; done) | (simp; omega) | (simp at *; omega)) _ | refine Below.setCell ?_ (by first | exact Nat.le_refl _ | omega | (simp; done) | (simp; omega) | (simp at *; omega)) _ | refine Below.grown ?_ (by assumption) (by first | exact Nat.le_refl _ | omega | (simp; done) | (simp; omega) | (simp at *; omega)) (by first | assumption | (intro _ hk; simp [Value.ownBlock] at hk; omega))))) (hb.below (by repeat (first | exact Below.refl _ _ | assumption | refine Below.drew ?_ | refine below_drewN ?_ _ | refine Below.alloc ?_ (by first | exact Nat.le_refl _ | omega | (simp; done) | (simp; omega) | (simp at *; omega)) _ | refine Below.setCell ?_ (by first | exact Nat.le_refl _ | omega | (simp; done) | (simp; omega) | (simp at *; omega)) _ | refine Below.grown ?_ (by assumption) (by first | exact Nat.le_refl _ | omega | (simp; done) | (simp; omega) | (simp at *; omega)) (by first | assumption | (intro _ hk; simp [Value.ownBlock] at hk; omega)))))) ?_
    rintro e w1 ⟨rfl, hB1⟩
    obtain ⟨hc1, hf1⟩ := bcell hB1
    have hz1 := hB1.size
    try simp only [World.size_alloc, World.size_setCell, World.heap_drew, World.heap_drewN] at hz1
    have hW1 : Below w.heap.size w w1 := Below.trans (by repeat (first | exact Below.refl _ _ | assumption | refine Below.drew ?_ | refine below_drewN ?_ _ | refine Below.alloc ?_ (by first | exact Nat.le_refl _ | omega | (simp; done) | (simp; omega) | (simp at *; omega)) _ | refine Below.setCell ?_ (by first | exact Nat.le_refl _ | omega | (simp; done) | (simp; omega) | (simp at *; omega)) _ | refine Below.grown ?_ (by assumption) (by first | exact Nat.le_refl _ | omega | (simp; done) | (simp; omega) | (simp at *; omega)) (by first | assumption | (intro _ hk; simp [Value.ownBlock] at hk; omega)))) (hB1.mono (by first | exact Nat.le_refl _ | omega | (simp; done) | (simp; omega) | (simp at *; omega)))
    have hs1 := hW1.size
    have hl1_0 : w.heap.size < w1.heap.size := (by first | exact Nat.le_refl _ | omega | (simp; done) | (simp; omega) | (simp at *; omega))
    have hl1_1 : w.heap.size + 1 < w1.heap.size := (by first | exact Nat.le_refl _ | omega | (simp; done) | (simp; omega) | (simp at *; omega))
    have hl1_2 : w.heap.size + 1 + 1 < w1.heap.size := (by first | exact Nat.le_refl _ | omega | (simp; done) | (simp; omega) | (simp at *; omega))
    have k0 : w1.cell? ⟨w.heap.size + 1 + 1, 0, none⟩ = some (.int .i64 0) := (hc1 (w.heap.size + 1 + 1) 0 (by simp)).trans (by first | (simp; done) | (simp [go_sem]; done) | (go_simp; done))
    have k1 : w1.cell? ⟨w.heap.size + 1 + 1, 1, none⟩ = some (.slice none 0 0) := (hc1 (w.heap.size + 1 + 1) 1 (by simp)).trans (by first | (simp; done) | (simp [go_sem]; done) | (go_simp; done))
    have f0 : w1.frozen? ⟨w.heap.size + 1 + 1, 0, none⟩ = false := (hf1 (w.heap.size + 1 + 1) 0 (by simp)).trans (by first | (simp; done) | (simp [go_sem]; done) | (go_simp; done))
    have f1 : w1.frozen? ⟨w.heap.size + 1 + 1, 1, none⟩ = false := (hf1 (w.heap.size + 1 + 1) 1 (by simp)).trans (by first | (simp; done) | (simp [go_sem]; done) | (go_simp; done))
    have HFE := Lib.hid hfe; have HFC := Lib.hid hfc; clear hfe hfc
    go_wp2_with (fail)
    obtain ⟨t0, t1⟩ := cell2 (.int .i64 0) (.slice none 0 0) k0 k1
    refine bodyPost_ret (v := .tuple #[.agg #[.int .i64 0, .slice none 0 0], .int .i64 (twoE t u)]) (by simp [results, Try.results6, go_sem, t0, t1]) rfl ?_
    refine ⟨.slice none 0 0, by rw [HFC.out, HFE.out], (hW1.setCell (by simp; try omega) _).setCell (by simp; try omega) _, ?_⟩
    rw [HFC.out]
    exact rd_nil _ _
  · have he := of_eqB h0
    obtain ⟨t1, t2, t3⟩ := twoE_zero.1 he
    have hlen := allE_len t1 t2 t3
    have hne : (twoE t u != 0) = false := by simp [he]
    have HE := Lib.hid he; clear he h0
    cases hin : inB id 0 9999
    · have hfe : findE t u id = 2 := by simp [findE, HE.out, hin]
      have hfc : findC t u id = ⟨0, []⟩ := by simp [findC, hfe]
      have HFE := Lib.hid hfe; have HFC := Lib.hid hfc; clear hfe hfc
      go_enter Try.func6, Try.ntmps6
      go_wp2_with (fail)
      refine Calls.mono (alike_any t u _ _ _ (ha.below (by repeat (first | exact Below.refl _ _ | assumption | refine Below.drew ?_ | refine below_drewN ?_ _ | refine Below.alloc ?_ (by first | exact Nat.le_refl _ | omega | (simp; done) | (simp; omega) | (simp at *; omega)) _ | refine Below.setCell ?_ (by first | exact Nat.le_refl _ | omega | (simp; done) | (simp; omega) | (simp at *; omega)) _ | refine Below.grown ?_ (by assumption) (by first | exact Nat.le_refl _ | omega | (simp; done) | (simp; omega) | (simp at *; omega)) (by first | assumption | (intro _ hk; simp [Value.ownBlock] at hk; omega))))) (hb.below (by repeat (first | exact Below.refl _ _ | assumption | refine Below.drew ?_ | refine below_drewN ?_ _ | refine Below.alloc ?_ (by first | exact Nat.le_refl _ | omega | (simp; done) | (simp; omega) | (simp at *; omega)) _ | refine Below.setCell ?_ (by first | exact Nat.le_refl _ | omega | (simp; done) | (simp; omega) | (simp at *; omega)) _ | refine Below.grown ?_ (by assumption) (by first | exact Nat.le_refl _ | omega | (simp; done) | (simp; omega) | (simp at *; omega)) (by first | assumption | (intro _ hk; simp [Value.ownBlock] at hk; omega)))))) ?_
      rintro e w1 ⟨rfl, hB1⟩
      obtain ⟨hc1, hf1⟩ := bcell hB1
      have hz1 := hB1.size
      try simp only [World.size_alloc, World.size_setCell, World.heap_drew, World.heap_drewN] at hz1
      have hW1 : Below w.heap.size w w1 := Below.trans (by repeat (first | exact Below.refl _ _ | assumption | refine Below.drew ?_ | refine below_drewN ?_ _ | refine Below.alloc ?_ (by first | exact Nat.le_refl _ | omega | (simp; done) | (simp; omega) | (simp at *; omega)) _ | refine Below.setCell ?_ (by first | exact Nat.le_refl _ | omega | (simp; done) | (simp; omega) | (simp at *; omega)) _ | refine Below.grown ?_ (by assumption) (by first | exact Nat.le_refl _ | omega | (simp; done) | (simp; omega) | (simp at *; omega)) (by first | assumption | (intro _ hk; simp [Value.ownBlock] at hk; omega)))) (hB1.mono (by first | exact Nat.le_refl _ | omega | (simp; done) | (simp; omega) | (simp at *; omega)))
      have hs1 := hW1.size
      have hl1_0 : w.heap.size < w1.heap.size := (by first | exact Nat.le_refl _ | omega | (simp; done) | (simp; omega) | (simp at *; omega))
      have hl1_1 : w.heap.size + 1 < w1.heap.size := (by first | exact Nat.le_refl _ | omega | (simp; done) | (simp; omega) | (simp at *; omega))
      have hl1_2 : w.heap.size + 1 + 1 < w1.heap.size := (by first | exact Nat.le_refl _ | omega | (simp; done) | (simp; omega) | (simp at *; omega))
      have k0 : w1.cell? ⟨w.heap.size + 1 + 1, 0, none⟩ = some (.int .i64 0) := (hc1 (w.heap.size + 1 + 1) 0 (by simp)).trans (by first | (simp; done) | (simp [go_sem]; done) | (go_simp; done))
      have k1 : w1.cell? ⟨w.heap.size + 1 + 1, 1, none⟩ = some (.slice none 0 0) := (hc1 (w.heap.size + 1 + 1) 1 (by simp)).trans (by first | (simp; done) | (simp [go_sem]; done) | (go_simp; done))
      have f0 : w1.frozen? ⟨w.heap.size + 1 + 1, 0, none⟩ = false := (hf1 (w.heap.size + 1 + 1) 0 (by simp)).trans (by first | (simp; done) | (simp [go_sem]; done) | (go_simp; done))
      have f1 : w1.frozen? ⟨w.heap.size + 1 + 1, 1, none⟩ = false := (hf1 (w.heap.size + 1 + 1) 1 (by simp)).trans (by first | (simp; done) | (simp [go_sem]; done) | (go_simp; done))
      clear hc1 hf1
      go_wp2_with (fail)
      refine Calls.mono (in_at id 0 9999 _ _ rfl hid) ?_
      rintro e w2 ⟨rfl, hB2⟩
      rw [hin]
      obtain ⟨hc2, hf2⟩ := bcell hB2
      have k0' := (hc2 _ 0 hl1_2).trans k0
      have k1' := (hc2 _ 1 hl1_2).trans k1
      have f0' := (hf2 _ 0 hl1_2).trans f0
      have f1' := (hf2 _ 1 hl1_2).trans f1
      have hW2 := hW1.trans (hB2.mono hs1)
      have hz2 := hB2.size
      have hs2 := hW2.size
      clear hc2 hf2
      go_wp2_with (fail)
      obtain ⟨t0, t1⟩ := cell2 (.int .i64 0) (.slice none 0 0) k0' k1'
      refine bodyPost_ret (v := .tuple #[.agg #[.int .i64 0, .slice none 0 0], .int .i64 2]) (by simp [results, Try.results6, go_sem, t0, t1]) rfl ?_
      refine ⟨.slice none 0 0, by rw [HFC.out, HFE.out], (hW2.setCell (by simp; try omega) _).setCell (by simp; try omega) _, ?_⟩
      rw [HFC.out]
      exact rd_nil _ _
    · have HIN := Lib.hid hin; clear hin
      cases hmany : decide (20 < (allE t u).length)
      all_goals
        have hmany' := hmany
        simp only [decide_eq_true_eq, decide_eq_false_iff_not] at hmany'
        go_enter Try.func6, Try.ntmps6
        go_wp2_with (fail)
        refine Calls.mono (alike_any t u _ _ _ (ha.below (by repeat (first | exact Below.refl _ _ | assumption | refine Below.drew ?_ | refine below_drewN ?_ _ | refine Below.alloc ?_ (by first | exact Nat.le_refl _ | omega | (simp; done) | (simp; omega) | (simp at *; omega)) _ | refine Below.setCell ?_ (by first | exact Nat.le_refl _ | omega | (simp; done) | (simp; omega) | (simp at *; omega)) _ | refine Below.grown ?_ (by assumption) (by first | exact Nat.le_refl _ | omega | (simp; done) | (simp; omega) | (simp at *; omega)) (by first | assumption | (intro _ hk; simp [Value.ownBlock] at hk; omega))))) (hb.below (by repeat (first | exact Below.refl _ _ | assumption | refine Below.drew ?_ | refine below_drewN ?_ _ | refine Below.alloc ?_ (by first | exact Nat.le_refl _ | omega | (simp; done) | (simp; omega) | (simp at *; omega)) _ | refine Below.setCell ?_ (by first | exact Nat.le_refl _ | omega | (simp; done) | (simp; omega) | (simp at *; omega)) _ | refine Below.grown ?_ (by assumption) (by first | exact Nat.le_refl _ | omega | (simp; done) | (simp; omega) | (simp at *; omega)) (by first | assumption | (intro _ hk; simp [Value.ownBlock] at hk; omega)))))) ?_
        rintro e w1 ⟨rfl, hB1⟩
        obtain ⟨hc1, hf1⟩ := bcell hB1
        have hz1 := hB1.size
        try simp only [World.size_alloc, World.size_setCell, World.heap_drew, World.heap_drewN] at hz1
        have hW1 : Below w.heap.size w w1 := Below.trans (by repeat (first | exact Below.refl _ _ | assumption | refine Below.drew ?_ | refine below_drewN ?_ _ | refine Below.alloc ?_ (by first | exact Nat.le_refl _ | omega | (simp; done) | (simp; omega) | (simp at *; omega)) _ | refine Below.setCell ?_ (by first | exact Nat.le_refl _ | omega | (simp; done) | (simp; omega) | (simp at *; omega)) _ | refine Below.grown ?_ (by assumption) (by first | exact Nat.le_refl _ | omega | (simp; done) | (simp; omega) | (simp at *; omega)) (by first | assumption | (intro _ hk; simp [Value.ownBlock] at hk; omega)))) (hB1.mono (by first | exact Nat.le_refl _ | omega | (simp; done) | (simp; omega) | (simp at *; omega)))
        have hs1 := hW1.size
        have hl1_0 : w.heap.size < w1.heap.size := (by first | exact Nat.le_refl _ | omega | (simp; done) | (simp; omega) | (simp at *; omega))
        have hl1_1 : w.heap.size + 1 < w1.heap.size := (by first | exact Nat.le_refl _ | omega | (simp; done) | (simp; omega) | (simp at *; omega))
        have hl1_2 : w.heap.size + 1 + 1 < w1.heap.size := (by first | exact Nat.le_refl _ | omega | (simp; done) | (simp; omega) | (simp at *; omega))
        have k0 : w1.cell? ⟨w.heap.size + 1 + 1, 0, none⟩ = some (.int .i64 0) := (hc1 (w.heap.size + 1 + 1) 0 (by simp)).trans (by first | (simp; done) | (simp [go_sem]; done) | (go_simp; done))
        have k1 : w1.cell? ⟨w.heap.size + 1 + 1, 1, none⟩ = some (.slice none 0 0) := (hc1 (w.heap.size + 1 + 1) 1 (by simp)).trans (by first | (simp; done) | (simp [go_sem]; done) | (go_simp; done))
        have f0 : w1.frozen? ⟨w.heap.size + 1 + 1, 0, none⟩ = false := (hf1 (w.heap.size + 1 + 1) 0 (by simp)).trans (by first | (simp; done) | (simp [go_sem]; done) | (go_simp; done))
        have f1 : w1.frozen? ⟨w.heap.size + 1 + 1, 1, none⟩ = false := (hf1 (w.heap.size + 1 + 1) 1 (by simp)).trans (by first | (simp; done) | (simp [go_sem]; done) | (go_simp; done))
        have b0 : w1.cell? ⟨w.heap.size, 0, none⟩ = some (.slice pa t.length ca) := (hc1 (w.heap.size) 0 (by simp; omega)).trans (by first | (simp; done) | (simp [go_sem]; done) | (go_simp; done))
        have b1 : w1.cell? ⟨w.heap.size + 1, 0, none⟩ = some (.slice pb u.length cb) := (hc1 (w.heap.size + 1) 0 (by simp)).trans (by first | (simp; done) | (simp [go_sem]; done) | (go_simp; done))
        clear hc1 hf1
        go_wp2_with (fail)
        refine Calls.mono (in_at id 0 9999 _ _ rfl hid) ?_
        rintro e w2 ⟨rfl, hB2⟩
        rw [HIN.out]
        obtain ⟨hc2, hf2⟩ := bcell hB2
        have k0' := (hc2 _ 0 hl1_2).trans k0
        have k1' := (hc2 _ 1 hl1_2).trans k1
        have f0' := (hf2 _ 0 hl1_2).trans f0
        have f1' := (hf2 _ 1 hl1_2).trans f1
        have b0' := (hc2 _ 0 hl1_0).trans b0
        have b1' := (hc2 _ 0 hl1_1).trans b1
        have hW2 := hW1.trans (hB2.mono hs1)
        have hz2 := hB2.size
        have hs2 := hW2.size
        have hl2 : w.heap.size + 1 + 1 < w2.heap.size := by omega
        clear hc2 hf2
        go_wp2_with (fail)
        refine Calls.mono (all_any t u _ _ _ (ha.below hW2) (hb.below hW2) t1 t2 t3) ?_
        rintro e w3 ⟨v3, rfl, hB3, hr3'⟩
        have hr3 : Rd w3 [v3] (allE t u) := Rep.mono (fun b h => h.2) (Keep.refl _ _) hr3'
        have HR3 := Lib.hid hr3'; clear hr3'
        obtain ⟨p3, c3, rfl, _, _⟩ := rd_open hr3
        obtain ⟨hc3, hf3⟩ := bcell hB3
        have k0'' := (hc3 _ 0 hl2).trans k0'
        have k1'' := (hc3 _ 1 hl2).trans k1'
        have f0'' := (hf3 _ 0 hl2).trans f0'
        have f1'' := (hf3 _ 1 hl2).trans f1'
        have hW3 := hW2.trans (hB3.mono hs2)
        have hz3 := hB3.size
        have hs3 := hW3.size
        clear hc3 hf3
      · have hfe : findE t u id = 0 := by simp [findE, HE.out, HIN.out]; omega
        have hfc : findC t u id = ⟨id, allE t u⟩ := by simp [findC, hfe]
        have HFE := Lib.hid hfe; have HFC := Lib.hid hfc; clear hfe hfc
        have hr4 : rd ((w3.setCell ⟨w.heap.size + 1 + 1, 0, none⟩ (.int .i64 id)).setCell ⟨w.heap.size + 1 + 1, 1, none⟩ (.slice p3 (allE t u).length c3)) (fun b => w.heap.size ≤ b ∧ b < ((w3.setCell ⟨w.heap.size + 1 + 1, 0, none⟩ (.int .i64 id)).setCell ⟨w.heap.size + 1 + 1, 1, none⟩ (.slice p3 (allE t u).length c3)).heap.size) [.slice p3 (allE t u).length c3] (allE t u) := by
          refine Rep.mono (F := fun b => w2.heap.size ≤ b ∧ b < w3.heap.size) (fun b h => ⟨by have := h.1; omega, by have := h.2; simpa [World.setCell] using this⟩) (fun b h => ?_) HR3.out
          rw [Below.heap_setCell _ _ _ _ (by show b ≠ w.heap.size + 1 + 1; omega), Below.heap_setCell _ _ _ _ (by show b ≠ w.heap.size + 1 + 1; omega)]
        have HR4 := Lib.hid hr4; clear hr4
        go_wp2_with (fail)
        obtain ⟨t0, t1⟩ := cell2 (.int .i64 id) (.slice p3 (allE t u).length c3) k0'' k1''
        refine bodyPost_ret (v := .tuple #[.agg #[.int .i64 id, .slice p3 (allE t u).length c3], .int .i64 0]) (by simp [results, Try.results6, go_sem, t0, t1]) rfl ?_
        refine ⟨.slice p3 (allE t u).length c3, by rw [HFC.out, HFE.out], (hW3.setCell (by simp; try omega) _).setCell (by simp; try omega) _, ?_⟩
        rw [HFC.out]
        exact HR4.out
      · have hfe : findE t u id = 4 := by simp [findE, HE.out, HIN.out]; omega
        have hfc : findC t u id = ⟨0, []⟩ := by simp [findC, hfe]
        have HFE := Lib.hid hfe; have HFC := Lib.hid hfc; clear hfe hfc
        go_wp2_with (fail)
        obtain ⟨t0, t1⟩ := cell2 (.int .i64 0) (.slice none 0 0) k0'' k1''
        refine bodyPost_ret (v := .tuple #[.agg #[.int .i64 0, .slice none 0 0], .int .i64 4]) (by simp [results, Try.results6, go_sem, t0, t1]) rfl ?_
        refine ⟨.slice none 0 0, by rw [HFC.out, HFE.out], (hW3.setCell (by simp; try omega) _).setCell (by simp; try omega) _, ?_⟩
        rw [HFC.out]
        exact rd_nil _ _
end Go.Proofs.Ytalkonicppbgdaa

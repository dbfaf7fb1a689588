/-
  Contract of leaf.all.
-/
import Derived.Test.YtalkonicppbgdaaReadings
namespace Go.Proofs.Ytalkonicppbgdaa
open Go.RowKit Go.PB
open Go.PB.Rep (rd)

set_option maxRecDepth 100000 in
set_option maxHeartbeats 4000000 in
theorem all_any (t u : TextD) (va vb : Value) (w : World) (hra : Rd w [va] t) (hrb : Rd w [vb] u) (h1 : textB t = true) (h2 : textB u = true) (h3 : alikeB t u = true) :
    Calls Try.prog 14 #[.agg #[va], .agg #[vb]] w fun e w' => ∃ v', e = .returned v' ∧ Below w.heap.size w w' ∧ rd w' (fun b => w.heap.size ≤ b ∧ b < w'.heap.size) [v'] (allE t u) := by
  obtain ⟨p, c0, rfl, m1, m2⟩ := rd_open hra
  obtain ⟨q, d0, rfl, m3, m4⟩ := rd_open hrb
  have hlen := text_len h1
  have HLEN : Hid (t.length = u.length) := alike_len h3
  have H1 := Lib.hid h1; have H2 := Lib.hid h2; have H3 := Lib.hid h3; clear h1 h2 h3
  go_enter Try.func14, Try.ntmps14
  go_wp2_with (fail)
  go_loopg [5, 12] (t.length + 1) (fun g v iv wr => ∃ (k : Nat) (xs : List ReadingD) (F : Nat → Prop), k ≤ t.length ∧ g = t.length + 1 - k ∧ iv = .int .i64 k ∧ Below w.heap.size w wr ∧ w.heap.size + 1 < wr.heap.size ∧ wr.cell? ⟨w.heap.size + 1, 0, none⟩ = some (.slice q u.length d0) ∧
    Built wr (w.heap.size + 1 + 1) 54 v xs F ∧ (∀ b, ¬ F b) ∧ xs = allTo t u k ∧ xs.length ≤ 200 * k)
  case atStart => exact ⟨0, [], _, Nat.zero_le _, by simp, rfl, (by repeat (first | exact Below.refl _ _ | assumption | refine Below.drew ?_ | refine below_drewN ?_ _ | refine Below.alloc ?_ (by first | exact Nat.le_refl _ | omega | (simp; done) | (simp; omega) | (simp at *; omega)) _ | refine Below.setCell ?_ (by first | exact Nat.le_refl _ | omega | (simp; done) | (simp; omega) | (simp at *; omega)) _ | refine Below.grown ?_ (by assumption) (by first | exact Nat.le_refl _ | omega | (simp; done) | (simp; omega) | (simp at *; omega)) (by first | assumption | (intro _ hk; simp [Value.ownBlock] at hk; omega)))), by simp, (by first | (simp; done) | (simp [go_sem]; done) | (go_simp; done)), Built.nil _ _ _, fun _ h => h, rfl, by simp⟩
  case round =>
    obtain ⟨w1, rfl⟩ : ∃ x : World, x = wr := ⟨_, rfl⟩
    obtain ⟨k, xs, F, hk, rfl, rfl, hB, hz, g0, hbu, hF, hxs, hxl⟩ := hrel
    have HBU := Lib.hid hbu; have HF := Lib.hid hF; have HXS := Lib.hid hxs; clear hbu hF hxs
    obtain ⟨hc1, hf1⟩ := bcell hB
    obtain ⟨v, rfl⟩ : ∃ v, v = u5 := ⟨_, rfl⟩
    by_cases hlt : k < t.length
    · obtain ⟨c, hx⟩ := some_of_lt hlt
      obtain ⟨c2, hy⟩ := some_of_lt (show k < u.length from HLEN.out ▸ hlt)
      obtain ⟨b, o, rfl, hb, e0, hwc, pl, cl, e1, hrl⟩ := hra.chap hx
      obtain ⟨b2, o2, rfl, hb2, e2, hwc2, pl2, cl2, e3, hrl2⟩ := hrb.chap hy
      have hll := (text_lines H1.out hx).1
      have HLL : Hid (c.lines.length = c2.lines.length) := alike_lines H3.out hx hy
      have HX := Lib.hid hx; have HY := Lib.hid hy; clear hx hy
      have hml := hrl.bd
      have hml2 := hrl2.bd
      have hb' : b < w1.heap.size := by omega
      have hb2' : b2 < w1.heap.size := by omega
      have hlt1 := HBU.out.lt
      have HLT1 := Lib.hid hlt1; clear hlt1
      go_wp2_with (fail)
      go_loopg [5, 20] (c.lines.length + 1) (fun g v2 iv wr => ∃ (n : Nat) (ys : List ReadingD) (F : Nat → Prop), n ≤ c.lines.length ∧ g = c.lines.length + 1 - n ∧ iv = .int .i64 n ∧ Below w.heap.size w wr ∧ w1.heap.size < wr.heap.size ∧ wr.cell? ⟨w.heap.size + 1, 0, none⟩ = some (.slice (some ⟨b2, o2, none⟩) u.length d0) ∧
        wr.cell? ⟨w1.heap.size, 1, none⟩ = some (.slice pl c.lines.length cl) ∧ Built wr (w.heap.size + 1 + 1) 54 v2 ys F ∧ (∀ b, ¬ F b) ∧ some w1.heap.size ≠ v2.ownBlock ∧ ys = allTo t u k ++ chapTo t u k n ∧ ys.length ≤ 200 * k + 20 * n)
      case atStart => exact ⟨0, xs, F, Nat.zero_le _, by simp, rfl, (by repeat (first | exact Below.refl _ _ | assumption | refine Below.drew ?_ | refine below_drewN ?_ _ | refine Below.alloc ?_ (by first | exact Nat.le_refl _ | omega | (simp; done) | (simp; omega) | (simp at *; omega)) _ | refine Below.setCell ?_ (by first | exact Nat.le_refl _ | omega | (simp; done) | (simp; omega) | (simp at *; omega)) _ | refine Below.grown ?_ (by assumption) (by first | exact Nat.le_refl _ | omega | (simp; done) | (simp; omega) | (simp at *; omega)) (by first | assumption | (intro _ hk; simp [Value.ownBlock] at hk; omega)))), by simp, (by first | (simp; done) | (simp [go_sem]; done) | (go_simp; done)), (by first | (simp; done) | (simp [go_sem]; done) | (go_simp; done)), HBU.out.below (by repeat (first | exact Below.refl _ _ | assumption | refine Below.drew ?_ | refine below_drewN ?_ _ | refine Below.alloc ?_ (by first | exact Nat.le_refl _ | omega | (simp; done) | (simp; omega) | (simp at *; omega)) _ | refine Below.setCell ?_ (by first | exact Nat.le_refl _ | omega | (simp; done) | (simp; omega) | (simp at *; omega)) _ | refine Below.grown ?_ (by assumption) (by first | exact Nat.le_refl _ | omega | (simp; done) | (simp; omega) | (simp at *; omega)) (by first | assumption | (intro _ hk; simp [Value.ownBlock] at hk; omega)))), HF.out, fun e => by have := HLT1.out _ e; omega, by simp [HXS.out, chapTo], by omega⟩
      case round =>
        obtain ⟨w2, rfl⟩ : ∃ x : World, x = wr := ⟨_, rfl⟩
        obtain ⟨n, ys, F2, hn, rfl, rfl, hB2, hz2, g0', k1, hbu2, hF2, hne, hys, hyl⟩ := hrel
        have HBU2 := Lib.hid hbu2; have HF2 := Lib.hid hF2; have HYS := Lib.hid hys; have HNE := Lib.hid hne; clear hbu2 hF2 hys hne
        obtain ⟨v2, rfl⟩ : ∃ v, v = u5 := ⟨_, rfl⟩
        obtain ⟨hc2, hf2⟩ := bcell hB2
        by_cases hln : n < c.lines.length
        · obtain ⟨l, hlx⟩ := some_of_lt hln
          obtain ⟨l2, hly⟩ := some_of_lt (show n < c2.lines.length from HLL.out ▸ hln)
          obtain ⟨b3, o3, rfl, hb3, q3, u3, d3, hrw⟩ := hrl.sub hlx
          obtain ⟨b4, o4, rfl, hb4, q4, u4, d4, hrw2⟩ := hrl2.sub hly
          have hw1 := text_words H1.out HX.out hlx
          have hw2 := text_words H2.out HY.out hly
          have HL := Lib.hid hlx; have HL2 := Lib.hid hly; clear hlx hly
          have hln2 : n < c2.lines.length := HLL.out ▸ hln
          have hlu : k < u.length := HLEN.out ▸ hlt
          have x3 : w2.cell? ⟨b2, o2 + k * 2 + 1, none⟩ = some (.slice (some ⟨b4, o4, none⟩) c2.lines.length cl2) := (hc2 _ _ hb2).trans e3
          have x4 : w2.cell? ⟨b4, o4 + n, none⟩ = some (.slice q4 l2.length u4) := (hc2 _ _ hb4).trans d4
          have x5 : w2.cell? ⟨b3, o3 + n, none⟩ = some (.slice q3 l.length u3) := (hc2 _ _ hb3).trans d3
          clear hc1 hc2 hf1 hf2 e0 e1 e2 e3 d3 d4
          have hlw : w.heap.size + 1 < w2.heap.size := by omega
          have hl3 : b3 < w2.heap.size := by omega
          have hl4 : b4 < w2.heap.size := by omega
          have hl2 : b2 < w2.heap.size := by omega
          go_wp2_with (fail)
          refine wp_region_can (fun w' => Std w2 w' ∧ (∀ b o, b < w2.heap.size → w'.cell? ⟨b, o, none⟩ = w2.cell? ⟨b, o, none⟩)) [0, 1, 2, 3, 4, 5, 6, 7, 8, 9, 10, 11, 12, 13, 14, 15, 16, 17, 18, 19, 20] (fun i => [18, 19].contains i) (fun i => [0, 1, 3, 4, 6, 8, 9, 10, 12, 13, 15, 16, 17, 20].contains i) (fun i => [18, 19].contains i) (by kernel_rfl) (fun o _ _ _ _ h => by cases o <;> exact h) (by kernel_rfl) (std_of (by repeat (first | exact Below.refl _ _ | assumption | refine Below.drew ?_ | refine below_drewN ?_ _ | refine Below.alloc ?_ (by first | exact Nat.le_refl _ | omega | (simp; done) | (simp; omega) | (simp at *; omega)) _ | refine Below.setCell ?_ (by first | exact Nat.le_refl _ | omega | (simp; done) | (simp; omega) | (simp at *; omega)) _ | refine Below.grown ?_ (by assumption) (by first | exact Nat.le_refl _ | omega | (simp; done) | (simp; omega) | (simp at *; omega)) (by first | assumption | (intro _ hk; simp [Value.ownBlock] at hk; omega))))) ?_
          repeat (first | (refine wpCan_skip rfl rfl (by rfl) ?_; simp only [Act.put, List.setIfInBounds_toArray, List.set_cons_zero, List.set_cons_succ]) | (refine wpCan_pure (v := ?_) rfl rfl rfl (by rfl) ?_ ?_; rotate_left; (intro w'; go_simp; first | done | with_reducible rfl); simp only [Act.put, List.setIfInBounds_toArray, List.set_cons_zero, List.set_cons_succ]) | (refine wpCan_quiet (v := ?_) rfl rfl rfl (by rfl) ?_ ?_; rotate_left; (intro w' hS; obtain ⟨hS1, hS2⟩ := hS; go_simp; first | done | with_reducible rfl); simp only [Act.put, List.setIfInBounds_toArray, List.set_cons_zero, List.set_cons_succ]))
          refine wpCan_eff rfl rfl (fun K hK => ?_)
          go_simp
          refine Calls.mono (readings_any l l2 _ _ k n 0 w2.drew (hrw.below hB2.drew) (hrw2.below hB2.drew) (by omega) (by omega) (I64.of (by omega)) (I64.of (by omega))) ?_
          rintro e w3 ⟨v3, rfl, hB3', hr3⟩
          have hB3 : Below w2.heap.size w2 w3 := (Below.refl _ w2).drew.trans hB3'
          clear hB3'
          obtain ⟨p3, s3, rfl, m5, m6⟩ := rd_open hr3
          refine hK _ _ (.inl rfl) ?_
          clear hK K
          have hel := edits_len0 l l2 (k : Int) (n : Int)
          have hz3 := hB3.size
          refine wpCan_eff rfl rfl (fun K hK => ?_)
          refine step_append_built rfl _ _ _ rfl aty_readings (HBU2.out.below hB3) (Src.of_rd hr3).flat rfl rfl (fun b h => False.elim h) (by omega) (by omega) (by omega) ?_
          intro v4 w4 hb4' hg4 hv4
          refine hK _ _ (.inl rfl) ?_
          clear hK K
          have hz4 := hg4.size
          have HB4 : Hid (Built w4 (w.heap.size + 1 + 1) 54 v4 (ys ++ edits l l2 k n 0 0) F2) := Lib.hid (by first | exact hb4' | (rw [show (fun b => F2 b ∨ False) = F2 from by funext b; simp] at hb4'; exact hb4'))
          clear hb4'
          have hlt2 := HBU2.out.lt
          have y0 : w4.cell? ⟨w.heap.size + 1, 0, none⟩ = some (.slice (some ⟨b2, o2, none⟩) u.length d0) := hg4.cell (a := ⟨w.heap.size + 1, 0, none⟩) ((hB3.cell (p := ⟨w.heap.size + 1, 0, none⟩) hlw).trans g0') (fun e => by have := hlt2 (w.heap.size + 1) e; omega)
          have y1 : w4.cell? ⟨w1.heap.size, 1, none⟩ = some (.slice (some ⟨b3, o3, none⟩) c.lines.length cl) := hg4.cell (a := ⟨w1.heap.size, 1, none⟩) ((hB3.cell (p := ⟨w1.heap.size, 1, none⟩) hz2).trans k1) HNE.out
          have hB4 : Below w.heap.size w w4 := Below.grown (hB2.trans (hB3.mono (by omega))) hg4 (by omega) (fun q hq => by have := hlt2 q hq.symm; omega)
          have hne4 : some w1.heap.size ≠ v4.ownBlock := by
            rcases hv4 with h | h
            · rw [h]; exact HNE.out
            · rw [h]; intro e; have := Option.some.inj e; omega
          have HNE4 := Lib.hid hne4; clear hne4 hv4 hg4 hlt2
          repeat (first | (refine wpCan_skip rfl rfl (by rfl) ?_; simp only [Act.put, List.setIfInBounds_toArray, List.set_cons_zero, List.set_cons_succ]) | (refine wpCan_pure (v := ?_) rfl rfl rfl (by rfl) ?_ ?_; rotate_left; (intro w'; go_simp; first | done | with_reducible rfl); simp only [Act.put, List.setIfInBounds_toArray, List.set_cons_zero, List.set_cons_succ]) | (refine wpCan_quiet (v := ?_) rfl rfl rfl (by rfl) ?_ ?_; rotate_left; (intro w' hS; obtain ⟨hS1, hS2⟩ := hS; go_simp; first | done | with_reducible rfl); simp only [Act.put, List.setIfInBounds_toArray, List.set_cons_zero, List.set_cons_succ]))
          refine wpCan_nil ?_
          go_wp2_with (fail)
          go_roundg (c.lines.length + 1 - (n + 1))
          case rel =>
            refine ⟨n + 1, _, F2, by omega, rfl, by go_num, hB4, by omega, y0, y1, HB4.out, HF2.out, HNE4.out, ?_, ?_⟩
            · rw [chapTo_succ, lineAt_some HX.out HL.out, lineAt_some HY.out HL2.out, ← List.append_assoc, ← HYS.out]
            · rw [List.length_append]; omega
          case measure => omega
        · have hn' : n = c.lines.length := by omega
          have HN := Lib.hid hn'; clear hn'
          clear hc1 hc2 hf1 hf2 e0 e1 e2 e3
          go_wp2_with (fail)
          go_roundg (t.length + 1 - (k + 1))
          case rel => exact ⟨k + 1, ys, F2, by omega, rfl, by go_num, hB2, by omega, g0', HBU2.out, HF2.out, by rw [allTo_succ, linesOf_some HX.out, ← HN.out]; exact HYS.out, by omega⟩
          case measure => omega
    · have hk' : k = t.length := by omega
      have HK := Lib.hid hk'; clear hk'
      go_wp2_with (fail)
      go_ret
      refine ⟨_, rfl, hB, ?_⟩
      have h1 := HXS.out
      rw [HK.out] at h1
      show rd w1 _ [v] (allTo t u t.length)
      rw [← h1]
      exact Rep.mono (fun b hb => hb.elim (fun h => (HF.out b h).elim) (fun h => ⟨by have := (HBU.out.lt b h).1; omega, (HBU.out.lt b h).2⟩)) (Keep.refl _ _) HBU.out.rd
end Go.Proofs.Ytalkonicppbgdaa

/-
  Contract of leaf.readings.
-/
import Derived.Test.YtalkonicppbgdaaFewest
import Derived.Test.YtalkonicppbgdaaOwn
import Derived.Laws.EntriesVeiled
namespace Go.Proofs.Ytalkonicppbgdaa
open Go.RowKit Go.PB
open Go.PB.Rep (rd)

theorem aty_readings : ATy Try.prog 27 54 (Rep.n ReadingD) 48 := ATy.mk' (.agg #[.int .i64 0, .int .i64 0, .int .i64 0, .int .u8 0, .string ByteArray.empty]) (by kernel_rfl) (by kernel_rfl) rfl

theorem src_new {α : Type} [Rep α] {w : World} {F : Nat → Prop} {cs : Array Value} {e : TypeId} {x : α} (b : Nat) (hb : b = w.heap.size) (h : rd w F cs.toList x) (hF : ∀ b, F b → b < w.heap.size) :
    Src (w.alloc (.cells cs e)) F (some ⟨b, 0, none⟩) 1 [x] := by subst hb; exact Src.of_new h hF

/-- .. where nothing below a block has turned -/
theorem Env.belowB {W0 : World} {a b : List ByteArray} {va vb : Value} {A B W M K F N : Nat} {w w' : World} (h : Env W0 a b va vb A B W M K F N w) {L : Nat} (hk : Below L w w') (h0 : W0.heap.size ≤ L) (hA : A < L) (hB : B < L) (hW : W < L) (hM : M < L) (hK : K < L) (hF : F < L) (hN : N < L) :
    Env W0 a b va vb A B W M K F N w' := by
  obtain ⟨c0, c1, c2, c3, c4, c5, c6, c7, c8⟩ := h.cW
  obtain ⟨f, hf, hm⟩ := h.memo
  have hs := hk.size
  obtain ⟨hc, _⟩ := bcell hk
  refine ⟨h.below.trans (hk.mono h0), h.lo, ⟨by have := h.hA.1; omega, h.hA.2⟩, ⟨by have := h.hB.1; omega, h.hB.2⟩, ⟨by have := h.hW.1; omega, h.hW.2⟩, ⟨by have := h.hK.1; omega, h.hK.2⟩, ⟨by have := h.hF.1; omega, h.hF.2⟩, ⟨by have := h.hN.1; omega, h.hN.2⟩,
    (hc _ _ hA).trans h.cA, (hc _ _ hB).trans h.cB, ⟨(hc _ _ hW).trans c0, (hc _ _ hW).trans c1, (hc _ _ hW).trans c2, (hc _ _ hW).trans c3, (hc _ _ hW).trans c4, (hc _ _ hW).trans c5, (hc _ _ hW).trans c6, (hc _ _ hW).trans c7, (hc _ _ hW).trans c8⟩,
    (hc _ _ hK).trans h.cK, (hc _ _ hF).trans h.cF, (hc _ _ hN).trans h.cN, f, hf.below hk hM, hm⟩

set_option maxRecDepth 100000 in
set_option maxHeartbeats 8000000 in
theorem readings_any (a b : List ByteArray) (va vb : Value) (ch ln wd : Int) (w : World) (hra : Rd w [va] a) (hrb : Rd w [vb] b) (ha : a.length ≤ 1000) (hb : b.length ≤ 1000) (hch : I64 ch) (hln : I64 ln) :
    Calls Try.prog 24 #[va, vb, .agg #[.int .i64 ch, .int .i64 ln, .int .i64 wd]] w fun e w' => ∃ v', e = .returned v' ∧ Below w.heap.size w w' ∧ Rd w' [v'] (edits a b ch ln 0 0) := by
  obtain ⟨p, c, rfl, m1, m2⟩ := rd_open hra
  obtain ⟨q, d, rfl, m3, m4⟩ := rd_open hrb
  have hmm := @run_makeMap Try.prog
  go_enter Try.func24, Try.ntmps24
  go_wp2_with (fail)
  have HCH := Lib.hid hch; have HLN := Lib.hid hln; clear hch hln
  obtain ⟨L, hL1, hL2⟩ : ∃ L, w.heap.size + 8 ≤ L ∧ L ≤ w.heap.size + 8 := ⟨w.heap.size + 8, Nat.le_refl _, Nat.le_refl _⟩
  go_loopg [11, 12, 13] (a.length + b.length + 1) (fun g v iv kv wr => ∃ (i k : Nat) (xs : List ReadingD) (F : Nat → Prop), i ≤ a.length ∧ k ≤ b.length ∧ g = (a.length - i) + (b.length - k) + 1 ∧ iv = .int .i64 i ∧ kv = .int .i64 k ∧
    Env w a b (.slice p a.length c) (.slice q b.length d) (w.heap.size) (w.heap.size + 1) (w.heap.size + 1 + 1 + 1) (w.heap.size + 1 + 1 + 1 + 1) (w.heap.size + 1 + 1 + 1 + 1 + 1) (w.heap.size + 1 + 1 + 1 + 1 + 1 + 1) (w.heap.size + 1 + 1 + 1 + 1 + 1 + 1 + 1) wr ∧ wr.cell? ⟨w.heap.size + 1 + 1, 0, none⟩ = some (.int .i64 ch) ∧ wr.cell? ⟨w.heap.size + 1 + 1, 1, none⟩ = some (.int .i64 ln) ∧ L ≤ wr.heap.size ∧
    Built wr L 54 v xs F ∧ (∀ b, ¬ F b) ∧ xs ++ edits a b ch ln i k = edits a b ch ln 0 0)
  case atStart =>
    refine ⟨0, 0, [], _, Nat.zero_le _, Nat.zero_le _, by simp, rfl, rfl, ?_, (by first | (simp; done) | (simp [go_sem]; done) | (go_simp; done)), (by first | (simp; done) | (simp [go_sem]; done) | (go_simp; done)), by simp; omega, Built.nil _ _ _, fun _ h => h, rfl⟩
    refine ⟨(by repeat (first | exact Below.refl _ _ | assumption | refine Below.drew ?_ | refine below_drewN ?_ _ | refine Below.alloc ?_ (by first | exact Nat.le_refl _ | omega | (simp; done) | (simp; omega) | (simp at *; omega)) _ | refine Below.setCell ?_ (by first | exact Nat.le_refl _ | omega | (simp; done) | (simp; omega) | (simp at *; omega)) _ | refine Below.grown ?_ (by assumption) (by first | exact Nat.le_refl _ | omega | (simp; done) | (simp; omega) | (simp at *; omega)) (by first | assumption | (intro _ hk; simp [Value.ownBlock] at hk; omega)))), by omega, ⟨by simp; try omega, by omega⟩, ⟨by simp; try omega, by omega⟩, ⟨by simp; try omega, by omega⟩, ⟨by simp; try omega, by omega⟩, ⟨by simp; try omega, by omega⟩, ⟨by simp; try omega, by omega⟩, (by first | (simp; done) | (simp [go_sem]; done) | (go_simp; done)), (by first | (simp; done) | (simp [go_sem]; done) | (go_simp; done)), ⟨(by first | (simp; done) | (simp [go_sem]; done) | (go_simp; done)), (by first | (simp; done) | (simp [go_sem]; done) | (go_simp; done)), (by first | (simp; done) | (simp [go_sem]; done) | (go_simp; done)), (by first | (simp; done) | (simp [go_sem]; done) | (go_simp; done)), (by first | (simp; done) | (simp [go_sem]; done) | (go_simp; done)), (by first | (simp; done) | (simp [go_sem]; done) | (go_simp; done)), (by first | (simp; done) | (simp [go_sem]; done) | (go_simp; done)), (by first | (simp; done) | (simp [go_sem]; done) | (go_simp; done)), (by first | (simp; done) | (simp [go_sem]; done) | (go_simp; done))⟩, (by first | (simp; done) | (simp [go_sem]; done) | (go_simp; done)), (by unfold capsFew; exact (by first | (simp; done) | (simp [go_sem]; done) | (go_simp; done))), (by unfold capsNext; exact (by first | (simp; done) | (simp [go_sem]; done) | (go_simp; done))), _, ?_, Memo.nil a b⟩
    have hm0 := (MapF.nil Try.prog 75 ((((w.alloc (.cells #[.slice p a.length c] 45)).alloc (.cells #[.slice q b.length d] 45)).alloc (.cells #[.int .i64 ch, .int .i64 ln, .int .i64 wd] 52)).alloc (.cells #[.int .u8 3, .int .i64 1, .int .i64 1, .int .u8 1, .int .i64 1, .int .i64 0, .int .u8 2, .int .i64 0, .int .i64 1] 70)))
    simp only [World.size_alloc] at hm0
    exact ((hm0.alloc _).alloc _).alloc _
  case round =>
    obtain ⟨w1, rfl⟩ : ∃ x : World, x = wr := ⟨_, rfl⟩
    obtain ⟨i, k, xs, F, hi, hk, rfl, rfl, rfl, hE, g0, g1, hz, hbu, hF0, hxs⟩ := hrel
    have HE := Lib.hid hE; have HXS := Lib.hid hxs; have HBU := Lib.hid hbu; have HF0 := Lib.hid hF0; clear hxs hbu hF0
    obtain ⟨cA, cB, cK, cF, cN, lA, lB, lW, lK, lF, lN⟩ := hE.facts
    clear hE
    obtain ⟨hc1, hf1⟩ := bcell HE.out.below
    cases hmo : moreW a b i k
    · have he : ¬ i < a.length ∧ ¬ k < b.length := by simp [moreW] at hmo; omega
      obtain ⟨he1, he2⟩ := he
      go_wp2_with (fail)
      go_ret
      exact ⟨_, rfl, HE.out.below, by
        have h1 := HXS.out
        rw [edits_done hmo, List.append_nil] at h1
        rw [← h1]
        exact Rep.mono (fun b hb => hb.elim (fun h => (HF0.out b h).elim) (fun h => (HBU.out.lt b h).2)) (Keep.refl _ _) HBU.out.rd⟩
    · cases hsa : sameW a b i k
      · obtain ⟨m, hm3, hbw, hf1', hf2', hf3'⟩ := bestW_fits hsa hmo hi hk
        have HBW := Lib.hid hbw; clear hbw
        rw [HBW.out] at hf1' hf2'
        have hm012 : m = 0 ∨ m = 1 ∨ m = 2 := by omega
        by_cases hi1 : i < a.length
        · by_cases hk1 : k < b.length
          · obtain ⟨x, hx⟩ := some_of_lt hi1
            obtain ⟨y, hy⟩ := some_of_lt hk1
            have hsa' := hsa
            rw [sameW_some hx hy] at hsa'
            obtain ⟨b1, o1, rfl, hb1, d1, _⟩ := hra.str hx
            obtain ⟨b2, o2, rfl, hb2, d2, d3⟩ := hrb.str hy
            have HX := Lib.hid hx; have HY := Lib.hid hy; clear hx hy
            have hxy : (x.toList == y.toList) = false := by
              rw [beq_eq_false_iff_ne]; intro h; rw [toList_inj h] at hsa'; simp [eqB] at hsa'
            clear hf1' hf2'
            obtain ⟨v, rfl⟩ : ∃ v, v = u11 := ⟨_, rfl⟩
            go_wp2_with (fail)
            go_quiet (fail)
            go_wp2_with (fail)
            rcases hm012 with rfl | rfl | rfl
            · have hsz := HE.out.below.size
              refine Calls.mono (next_any ha hb i k _ (HE.out.keep (by repeat (first | exact Below.refl _ _ | assumption | refine Below.drew ?_ | refine below_drewN ?_ _ | refine Below.alloc ?_ (by first | exact Nat.le_refl _ | omega | (simp; done) | (simp; omega) | (simp at *; omega)) _ | refine Below.setCell ?_ (by first | exact Nat.le_refl _ | omega | (simp; done) | (simp; omega) | (simp at *; omega)) _ | refine Below.grown ?_ (by assumption) (by first | exact Nat.le_refl _ | omega | (simp; done) | (simp; omega) | (simp at *; omega)) (by first | assumption | (intro _ hk; simp [Value.ownBlock] at hk; omega))))) hi hk (fun i' k' w' h1 h2 h3 hE' => fewest_any ha hb hra hrb _ i' k' w' rfl h1 h2 hE')) ?_
              rintro e w2 ⟨rfl, hB2, hL⟩
              have HE2 := Lib.hid ((HE.out.keep (w' := w1.drewN nq) (by repeat (first | exact Below.refl _ _ | assumption | refine Below.drew ?_ | refine below_drewN ?_ _ | refine Below.alloc ?_ (by first | exact Nat.le_refl _ | omega | (simp; done) | (simp; omega) | (simp at *; omega)) _ | refine Below.setCell ?_ (by first | exact Nat.le_refl _ | omega | (simp; done) | (simp; omega) | (simp at *; omega)) _ | refine Below.grown ?_ (by assumption) (by first | exact Nat.le_refl _ | omega | (simp; done) | (simp; omega) | (simp at *; omega)) (by first | assumption | (intro _ hk; simp [Value.ownBlock] at hk; omega))))).but hB2 hL); clear hL
              have hs2 := hB2.size
              simp only [World.heap_drewN] at hs2
              have hnM : v.ownBlock ≠ some (w.heap.size + 1 + 1 + 1 + 1) := fun e => by have := HBU.out.lt _ e.symm; omega
              have HBU2 := Lib.hid ((HBU.out.below (w' := w1.drewN nq) (by repeat (first | exact Below.refl _ _ | assumption | refine Below.drew ?_ | refine below_drewN ?_ _ | refine Below.alloc ?_ (by first | exact Nat.le_refl _ | omega | (simp; done) | (simp; omega) | (simp at *; omega)) _ | refine Below.setCell ?_ (by first | exact Nat.le_refl _ | omega | (simp; done) | (simp; omega) | (simp at *; omega)) _ | refine Below.grown ?_ (by assumption) (by first | exact Nat.le_refl _ | omega | (simp; done) | (simp; omega) | (simp at *; omega)) (by first | assumption | (intro _ hk; simp [Value.ownBlock] at hk; omega))))).kept hB2 (.inr hnM) (fun b h => (HF0.out b h).elim))
              have g0' := hB2.cell (p := ⟨w.heap.size + 1 + 1, 0, none⟩) (v := .int .i64 ch) g0 (by simp; try omega)
              have g1' := hB2.cell (p := ⟨w.heap.size + 1 + 1, 1, none⟩) (v := .int .i64 ln) g1 (by simp; try omega)
              obtain ⟨cA', cB', cK', cF', cN', lA', lB', lW', lK', lF', lN'⟩ := HE2.out.facts
              obtain ⟨hc2, hf2⟩ := bcell HE2.out.below
              have hlt2 : ∀ b, some b = v.ownBlock → L ≤ b ∧ b < w2.heap.size := HBU2.out.lt
              have HLT2 := Lib.hid hlt2; clear hlt2
              rw [HBW.out]
              dsimp only [wayAt]
              have hlb2 : b2 < w2.heap.size := by omega
              have hlAT : w.heap.size + 1 + 1 < w2.heap.size := by omega
              have HRDR : Hid (∀ W : World, rd W (fun _ => False) [.int .i64 ch, .int .i64 ln, .int .i64 i, .int .u8 3, .string y] (⟨⟨ch, ln, i⟩, 3, y⟩ : ReadingD)) := fun _ => ⟨rfl, ⟨HCH.out, HLN.out, I64.of (n := (i : Int)) (by omega)⟩, (by show (Lit.int .u8 3).wf = true; decide), by simpa [maxLen] using d3⟩
              have hxl : xs.length ≤ 2000 := by
                have h1 := congrArg List.length HXS.out
                have h2 := edits_len a b ch ln ((a.length - 0) + (b.length - 0)) 0 0 (Nat.zero_le _) (Nat.zero_le _) (Nat.le_refl _)
                simp only [List.length_append] at h1
                unfold edits at h1
                omega
              have he := edits_way hsa hmo hi hk ch ln
              rw [HBW.out] at he
              simp only [wayAt, wordAt, HY.out, Nat.add_zero] at he
              have HEW := Lib.hid he; clear he
              clear cA cB cK cF cN hc1 hf1
              go_wp2_with (refine wpList_append_built rfl _ _ _ rfl aty_readings (HBU2.out.below (by repeat (first | exact Below.refl _ _ | assumption | refine Below.drew ?_ | refine below_drewN ?_ _ | refine Below.alloc ?_ (by first | exact Nat.le_refl _ | omega | (simp; done) | (simp; omega) | (simp at *; omega)) _ | refine Below.setCell ?_ (by first | exact Nat.le_refl _ | omega | (simp; done) | (simp; omega) | (simp at *; omega)) _ | refine Below.grown ?_ (by assumption) (by first | exact Nat.le_refl _ | omega | (simp; done) | (simp; omega) | (simp at *; omega)) (by first | assumption | (intro _ hk; simp [Value.ownBlock] at hk; omega))))) (src_new (cs := #[.int .i64 ch, .int .i64 ln, .int .i64 i, .int .u8 3, .string y]) (w2.heap.size + 1 + 1) (by simp) (HRDR.out _) (fun _ h => False.elim h)) rfl rfl (fun _ h => False.elim h) (by omega) (by omega) (by simp; omega) ?_)
              intro v' wB hb2 hg2 hv2
              have hzB := hg2.size
              simp only [World.size_alloc] at hzB
              have hBB : Below L w2 wB := Below.grown (w := (((w2.alloc (.cells #[.int .u8 3, .int .i64 1, .int .i64 1] 69)).alloc (.cells #[.int .i64 ch, .int .i64 ln, .int .i64 i, .int .u8 3, .string y] 54)).alloc (.cells #[.int .i64 ch, .int .i64 ln, .int .i64 i, .int .u8 3, .string y] 54))) (by repeat (first | exact Below.refl _ _ | assumption | refine Below.drew ?_ | refine below_drewN ?_ _ | refine Below.alloc ?_ (by first | exact Nat.le_refl _ | omega | (simp; done) | (simp; omega) | (simp at *; omega)) _ | refine Below.setCell ?_ (by first | exact Nat.le_refl _ | omega | (simp; done) | (simp; omega) | (simp at *; omega)) _ | refine Below.grown ?_ (by assumption) (by first | exact Nat.le_refl _ | omega | (simp; done) | (simp; omega) | (simp at *; omega)) (by first | assumption | (intro _ hk; simp [Value.ownBlock] at hk; omega)))) hg2 (by simp; omega) (fun q hq => (HLT2.out q hq.symm).1)
              have hnw : some w2.heap.size ≠ v.ownBlock := fun e => by have := HLT2.out _ e; omega
              have k1 : wB.cell? ⟨w2.heap.size, 1, none⟩ = some (.int .i64 1) := hg2.cell (a := ⟨w2.heap.size, 1, none⟩) (by first | (simp; done) | (simp [go_sem]; done) | (go_simp; done)) hnw
              have k2 : wB.cell? ⟨w2.heap.size, 2, none⟩ = some (.int .i64 1) := hg2.cell (a := ⟨w2.heap.size, 2, none⟩) (by first | (simp; done) | (simp [go_sem]; done) | (go_simp; done)) hnw
              have e0 := ((bcell hBB).1 (w.heap.size + 1 + 1) 0 (by omega)).trans g0'
              have e1 := ((bcell hBB).1 (w.heap.size + 1 + 1) 1 (by omega)).trans g1'
              have HB2 : Hid (Built wB L 54 v' (xs ++ [⟨⟨ch, ln, i⟩, 3, y⟩]) F) := Lib.hid (by first | exact hb2 | (rw [show (fun b => F b ∨ False) = F from by funext b; simp] at hb2; exact hb2)); clear hb2
              clear cA' cB' cK' cF' cN' hc2 hf2 g0 g1 g0' g1' hg2
              go_wp2_with (fail)
              go_quiet (fail)
              go_wp2_with (fail)
              go_roundg ((a.length - (i + 1)) + (b.length - (k + 1)) + 1)
              case rel =>
                refine ⟨i + 1, k + 1, xs ++ [⟨⟨ch, ln, i⟩, 3, y⟩], F, by omega, by omega, rfl, by go_num, by go_num, HE2.out.belowB (L := L) (below_drewN hBB _) (by omega) (by omega) (by omega) (by omega) (by omega) (by omega) (by omega) (by omega), e0, e1, by simp; omega, HB2.out.below (by repeat (first | exact Below.refl _ _ | assumption | refine Below.drew ?_ | refine below_drewN ?_ _ | refine Below.alloc ?_ (by first | exact Nat.le_refl _ | omega | (simp; done) | (simp; omega) | (simp at *; omega)) _ | refine Below.setCell ?_ (by first | exact Nat.le_refl _ | omega | (simp; done) | (simp; omega) | (simp at *; omega)) _ | refine Below.grown ?_ (by assumption) (by first | exact Nat.le_refl _ | omega | (simp; done) | (simp; omega) | (simp at *; omega)) (by first | assumption | (intro _ hk; simp [Value.ownBlock] at hk; omega)))), HF0.out, ?_⟩
                rw [List.append_assoc]
                show xs ++ (_ :: edits a b ch ln (i + 1) (k + 1)) = _
                have := HEW.out
                simp at this
                exact (congrArg (fun l => xs ++ l) this).symm.trans HXS.out
              case measure => omega
            · have hsz := HE.out.below.size
              refine Calls.mono (next_any ha hb i k _ (HE.out.keep (by repeat (first | exact Below.refl _ _ | assumption | refine Below.drew ?_ | refine below_drewN ?_ _ | refine Below.alloc ?_ (by first | exact Nat.le_refl _ | omega | (simp; done) | (simp; omega) | (simp at *; omega)) _ | refine Below.setCell ?_ (by first | exact Nat.le_refl _ | omega | (simp; done) | (simp; omega) | (simp at *; omega)) _ | refine Below.grown ?_ (by assumption) (by first | exact Nat.le_refl _ | omega | (simp; done) | (simp; omega) | (simp at *; omega)) (by first | assumption | (intro _ hk; simp [Value.ownBlock] at hk; omega))))) hi hk (fun i' k' w' h1 h2 h3 hE' => fewest_any ha hb hra hrb _ i' k' w' rfl h1 h2 hE')) ?_
              rintro e w2 ⟨rfl, hB2, hL⟩
              have HE2 := Lib.hid ((HE.out.keep (w' := w1.drewN nq) (by repeat (first | exact Below.refl _ _ | assumption | refine Below.drew ?_ | refine below_drewN ?_ _ | refine Below.alloc ?_ (by first | exact Nat.le_refl _ | omega | (simp; done) | (simp; omega) | (simp at *; omega)) _ | refine Below.setCell ?_ (by first | exact Nat.le_refl _ | omega | (simp; done) | (simp; omega) | (simp at *; omega)) _ | refine Below.grown ?_ (by assumption) (by first | exact Nat.le_refl _ | omega | (simp; done) | (simp; omega) | (simp at *; omega)) (by first | assumption | (intro _ hk; simp [Value.ownBlock] at hk; omega))))).but hB2 hL); clear hL
              have hs2 := hB2.size
              simp only [World.heap_drewN] at hs2
              have hnM : v.ownBlock ≠ some (w.heap.size + 1 + 1 + 1 + 1) := fun e => by have := HBU.out.lt _ e.symm; omega
              have HBU2 := Lib.hid ((HBU.out.below (w' := w1.drewN nq) (by repeat (first | exact Below.refl _ _ | assumption | refine Below.drew ?_ | refine below_drewN ?_ _ | refine Below.alloc ?_ (by first | exact Nat.le_refl _ | omega | (simp; done) | (simp; omega) | (simp at *; omega)) _ | refine Below.setCell ?_ (by first | exact Nat.le_refl _ | omega | (simp; done) | (simp; omega) | (simp at *; omega)) _ | refine Below.grown ?_ (by assumption) (by first | exact Nat.le_refl _ | omega | (simp; done) | (simp; omega) | (simp at *; omega)) (by first | assumption | (intro _ hk; simp [Value.ownBlock] at hk; omega))))).kept hB2 (.inr hnM) (fun b h => (HF0.out b h).elim))
              have g0' := hB2.cell (p := ⟨w.heap.size + 1 + 1, 0, none⟩) (v := .int .i64 ch) g0 (by simp; try omega)
              have g1' := hB2.cell (p := ⟨w.heap.size + 1 + 1, 1, none⟩) (v := .int .i64 ln) g1 (by simp; try omega)
              obtain ⟨cA', cB', cK', cF', cN', lA', lB', lW', lK', lF', lN'⟩ := HE2.out.facts
              obtain ⟨hc2, hf2⟩ := bcell HE2.out.below
              have hlt2 : ∀ b, some b = v.ownBlock → L ≤ b ∧ b < w2.heap.size := HBU2.out.lt
              have HLT2 := Lib.hid hlt2; clear hlt2
              rw [HBW.out]
              dsimp only [wayAt]
              have hlb2 : b2 < w2.heap.size := by omega
              have hlAT : w.heap.size + 1 + 1 < w2.heap.size := by omega
              have HRDR : Hid (∀ W : World, rd W (fun _ => False) [.int .i64 ch, .int .i64 ln, .int .i64 i, .int .u8 1, .string (⟨#[]⟩ : ByteArray)] (⟨⟨ch, ln, i⟩, 1, (⟨#[]⟩ : ByteArray)⟩ : ReadingD)) := fun _ => ⟨rfl, ⟨HCH.out, HLN.out, I64.of (n := (i : Int)) (by omega)⟩, (by show (Lit.int .u8 1).wf = true; decide), by show (⟨#[]⟩ : ByteArray).size ≤ maxLen; exact Nat.zero_le _⟩
              have hxl : xs.length ≤ 2000 := by
                have h1 := congrArg List.length HXS.out
                have h2 := edits_len a b ch ln ((a.length - 0) + (b.length - 0)) 0 0 (Nat.zero_le _) (Nat.zero_le _) (Nat.le_refl _)
                simp only [List.length_append] at h1
                unfold edits at h1
                omega
              have he := edits_way hsa hmo hi hk ch ln
              rw [HBW.out] at he
              simp only [wayAt, wordAt, Nat.add_zero] at he
              have HEW := Lib.hid he; clear he
              clear cA cB cK cF cN hc1 hf1
              go_wp2_with (refine wpList_append_built rfl _ _ _ rfl aty_readings (HBU2.out.below (by repeat (first | exact Below.refl _ _ | assumption | refine Below.drew ?_ | refine below_drewN ?_ _ | refine Below.alloc ?_ (by first | exact Nat.le_refl _ | omega | (simp; done) | (simp; omega) | (simp at *; omega)) _ | refine Below.setCell ?_ (by first | exact Nat.le_refl _ | omega | (simp; done) | (simp; omega) | (simp at *; omega)) _ | refine Below.grown ?_ (by assumption) (by first | exact Nat.le_refl _ | omega | (simp; done) | (simp; omega) | (simp at *; omega)) (by first | assumption | (intro _ hk; simp [Value.ownBlock] at hk; omega))))) (src_new (cs := #[.int .i64 ch, .int .i64 ln, .int .i64 i, .int .u8 1, .string (⟨#[]⟩ : ByteArray)]) (w2.heap.size + 1 + 1) (by simp) (HRDR.out _) (fun _ h => False.elim h)) rfl rfl (fun _ h => False.elim h) (by omega) (by omega) (by simp; omega) ?_)
              intro v' wB hb2 hg2 hv2
              have hzB := hg2.size
              simp only [World.size_alloc] at hzB
              have hBB : Below L w2 wB := Below.grown (w := (((w2.alloc (.cells #[.int .u8 1, .int .i64 1, .int .i64 0] 69)).alloc (.cells #[.int .i64 ch, .int .i64 ln, .int .i64 i, .int .u8 1, .string (⟨#[]⟩ : ByteArray)] 54)).alloc (.cells #[.int .i64 ch, .int .i64 ln, .int .i64 i, .int .u8 1, .string (⟨#[]⟩ : ByteArray)] 54))) (by repeat (first | exact Below.refl _ _ | assumption | refine Below.drew ?_ | refine below_drewN ?_ _ | refine Below.alloc ?_ (by first | exact Nat.le_refl _ | omega | (simp; done) | (simp; omega) | (simp at *; omega)) _ | refine Below.setCell ?_ (by first | exact Nat.le_refl _ | omega | (simp; done) | (simp; omega) | (simp at *; omega)) _ | refine Below.grown ?_ (by assumption) (by first | exact Nat.le_refl _ | omega | (simp; done) | (simp; omega) | (simp at *; omega)) (by first | assumption | (intro _ hk; simp [Value.ownBlock] at hk; omega)))) hg2 (by simp; omega) (fun q hq => (HLT2.out q hq.symm).1)
              have hnw : some w2.heap.size ≠ v.ownBlock := fun e => by have := HLT2.out _ e; omega
              have k1 : wB.cell? ⟨w2.heap.size, 1, none⟩ = some (.int .i64 1) := hg2.cell (a := ⟨w2.heap.size, 1, none⟩) (by first | (simp; done) | (simp [go_sem]; done) | (go_simp; done)) hnw
              have k2 : wB.cell? ⟨w2.heap.size, 2, none⟩ = some (.int .i64 0) := hg2.cell (a := ⟨w2.heap.size, 2, none⟩) (by first | (simp; done) | (simp [go_sem]; done) | (go_simp; done)) hnw
              have e0 := ((bcell hBB).1 (w.heap.size + 1 + 1) 0 (by omega)).trans g0'
              have e1 := ((bcell hBB).1 (w.heap.size + 1 + 1) 1 (by omega)).trans g1'
              have HB2 : Hid (Built wB L 54 v' (xs ++ [⟨⟨ch, ln, i⟩, 1, (⟨#[]⟩ : ByteArray)⟩]) F) := Lib.hid (by first | exact hb2 | (rw [show (fun b => F b ∨ False) = F from by funext b; simp] at hb2; exact hb2)); clear hb2
              clear cA' cB' cK' cF' cN' hc2 hf2 g0 g1 g0' g1' hg2
              go_wp2_with (fail)
              go_quiet (fail)
              go_wp2_with (fail)
              go_roundg ((a.length - (i + 1)) + (b.length - (k)) + 1)
              case rel =>
                refine ⟨i + 1, k, xs ++ [⟨⟨ch, ln, i⟩, 1, (⟨#[]⟩ : ByteArray)⟩], F, by omega, by omega, rfl, by go_num, by go_num, HE2.out.belowB (L := L) (below_drewN hBB _) (by omega) (by omega) (by omega) (by omega) (by omega) (by omega) (by omega) (by omega), e0, e1, by simp; omega, HB2.out.below (by repeat (first | exact Below.refl _ _ | assumption | refine Below.drew ?_ | refine below_drewN ?_ _ | refine Below.alloc ?_ (by first | exact Nat.le_refl _ | omega | (simp; done) | (simp; omega) | (simp at *; omega)) _ | refine Below.setCell ?_ (by first | exact Nat.le_refl _ | omega | (simp; done) | (simp; omega) | (simp at *; omega)) _ | refine Below.grown ?_ (by assumption) (by first | exact Nat.le_refl _ | omega | (simp; done) | (simp; omega) | (simp at *; omega)) (by first | assumption | (intro _ hk; simp [Value.ownBlock] at hk; omega)))), HF0.out, ?_⟩
                rw [List.append_assoc]
                show xs ++ (_ :: edits a b ch ln (i + 1) (k)) = _
                have := HEW.out
                simp at this
                exact (congrArg (fun l => xs ++ l) this).symm.trans HXS.out
              case measure => omega
            · have hsz := HE.out.below.size
              refine Calls.mono (next_any ha hb i k _ (HE.out.keep (by repeat (first | exact Below.refl _ _ | assumption | refine Below.drew ?_ | refine below_drewN ?_ _ | refine Below.alloc ?_ (by first | exact Nat.le_refl _ | omega | (simp; done) | (simp; omega) | (simp at *; omega)) _ | refine Below.setCell ?_ (by first | exact Nat.le_refl _ | omega | (simp; done) | (simp; omega) | (simp at *; omega)) _ | refine Below.grown ?_ (by assumption) (by first | exact Nat.le_refl _ | omega | (simp; done) | (simp; omega) | (simp at *; omega)) (by first | assumption | (intro _ hk; simp [Value.ownBlock] at hk; omega))))) hi hk (fun i' k' w' h1 h2 h3 hE' => fewest_any ha hb hra hrb _ i' k' w' rfl h1 h2 hE')) ?_
              rintro e w2 ⟨rfl, hB2, hL⟩
              have HE2 := Lib.hid ((HE.out.keep (w' := w1.drewN nq) (by repeat (first | exact Below.refl _ _ | assumption | refine Below.drew ?_ | refine below_drewN ?_ _ | refine Below.alloc ?_ (by first | exact Nat.le_refl _ | omega | (simp; done) | (simp; omega) | (simp at *; omega)) _ | refine Below.setCell ?_ (by first | exact Nat.le_refl _ | omega | (simp; done) | (simp; omega) | (simp at *; omega)) _ | refine Below.grown ?_ (by assumption) (by first | exact Nat.le_refl _ | omega | (simp; done) | (simp; omega) | (simp at *; omega)) (by first | assumption | (intro _ hk; simp [Value.ownBlock] at hk; omega))))).but hB2 hL); clear hL
              have hs2 := hB2.size
              simp only [World.heap_drewN] at hs2
              have hnM : v.ownBlock ≠ some (w.heap.size + 1 + 1 + 1 + 1) := fun e => by have := HBU.out.lt _ e.symm; omega
              have HBU2 := Lib.hid ((HBU.out.below (w' := w1.drewN nq) (by repeat (first | exact Below.refl _ _ | assumption | refine Below.drew ?_ | refine below_drewN ?_ _ | refine Below.alloc ?_ (by first | exact Nat.le_refl _ | omega | (simp; done) | (simp; omega) | (simp at *; omega)) _ | refine Below.setCell ?_ (by first | exact Nat.le_refl _ | omega | (simp; done) | (simp; omega) | (simp at *; omega)) _ | refine Below.grown ?_ (by assumption) (by first | exact Nat.le_refl _ | omega | (simp; done) | (simp; omega) | (simp at *; omega)) (by first | assumption | (intro _ hk; simp [Value.ownBlock] at hk; omega))))).kept hB2 (.inr hnM) (fun b h => (HF0.out b h).elim))
              have g0' := hB2.cell (p := ⟨w.heap.size + 1 + 1, 0, none⟩) (v := .int .i64 ch) g0 (by simp; try omega)
              have g1' := hB2.cell (p := ⟨w.heap.size + 1 + 1, 1, none⟩) (v := .int .i64 ln) g1 (by simp; try omega)
              obtain ⟨cA', cB', cK', cF', cN', lA', lB', lW', lK', lF', lN'⟩ := HE2.out.facts
              obtain ⟨hc2, hf2⟩ := bcell HE2.out.below
              have hlt2 : ∀ b, some b = v.ownBlock → L ≤ b ∧ b < w2.heap.size := HBU2.out.lt
              have HLT2 := Lib.hid hlt2; clear hlt2
              rw [HBW.out]
              dsimp only [wayAt]
              have hlb2 : b2 < w2.heap.size := by omega
              have hlAT : w.heap.size + 1 + 1 < w2.heap.size := by omega
              have HRDR : Hid (∀ W : World, rd W (fun _ => False) [.int .i64 ch, .int .i64 ln, .int .i64 i, .int .u8 2, .string y] (⟨⟨ch, ln, i⟩, 2, y⟩ : ReadingD)) := fun _ => ⟨rfl, ⟨HCH.out, HLN.out, I64.of (n := (i : Int)) (by omega)⟩, (by show (Lit.int .u8 2).wf = true; decide), by simpa [maxLen] using d3⟩
              have hxl : xs.length ≤ 2000 := by
                have h1 := congrArg List.length HXS.out
                have h2 := edits_len a b ch ln ((a.length - 0) + (b.length - 0)) 0 0 (Nat.zero_le _) (Nat.zero_le _) (Nat.le_refl _)
                simp only [List.length_append] at h1
                unfold edits at h1
                omega
              have he := edits_way hsa hmo hi hk ch ln
              rw [HBW.out] at he
              simp only [wayAt, wordAt, HY.out, Nat.add_zero] at he
              have HEW := Lib.hid he; clear he
              clear cA cB cK cF cN hc1 hf1
              go_wp2_with (refine wpList_append_built rfl _ _ _ rfl aty_readings (HBU2.out.below (by repeat (first | exact Below.refl _ _ | assumption | refine Below.drew ?_ | refine below_drewN ?_ _ | refine Below.alloc ?_ (by first | exact Nat.le_refl _ | omega | (simp; done) | (simp; omega) | (simp at *; omega)) _ | refine Below.setCell ?_ (by first | exact Nat.le_refl _ | omega | (simp; done) | (simp; omega) | (simp at *; omega)) _ | refine Below.grown ?_ (by assumption) (by first | exact Nat.le_refl _ | omega | (simp; done) | (simp; omega) | (simp at *; omega)) (by first | assumption | (intro _ hk; simp [Value.ownBlock] at hk; omega))))) (src_new (cs := #[.int .i64 ch, .int .i64 ln, .int .i64 i, .int .u8 2, .string y]) (w2.heap.size + 1 + 1) (by simp) (HRDR.out _) (fun _ h => False.elim h)) rfl rfl (fun _ h => False.elim h) (by omega) (by omega) (by simp; omega) ?_)
              intro v' wB hb2 hg2 hv2
              have hzB := hg2.size
              simp only [World.size_alloc] at hzB
              have hBB : Below L w2 wB := Below.grown (w := (((w2.alloc (.cells #[.int .u8 2, .int .i64 0, .int .i64 1] 69)).alloc (.cells #[.int .i64 ch, .int .i64 ln, .int .i64 i, .int .u8 2, .string y] 54)).alloc (.cells #[.int .i64 ch, .int .i64 ln, .int .i64 i, .int .u8 2, .string y] 54))) (by repeat (first | exact Below.refl _ _ | assumption | refine Below.drew ?_ | refine below_drewN ?_ _ | refine Below.alloc ?_ (by first | exact Nat.le_refl _ | omega | (simp; done) | (simp; omega) | (simp at *; omega)) _ | refine Below.setCell ?_ (by first | exact Nat.le_refl _ | omega | (simp; done) | (simp; omega) | (simp at *; omega)) _ | refine Below.grown ?_ (by assumption) (by first | exact Nat.le_refl _ | omega | (simp; done) | (simp; omega) | (simp at *; omega)) (by first | assumption | (intro _ hk; simp [Value.ownBlock] at hk; omega)))) hg2 (by simp; omega) (fun q hq => (HLT2.out q hq.symm).1)
              have hnw : some w2.heap.size ≠ v.ownBlock := fun e => by have := HLT2.out _ e; omega
              have k1 : wB.cell? ⟨w2.heap.size, 1, none⟩ = some (.int .i64 0) := hg2.cell (a := ⟨w2.heap.size, 1, none⟩) (by first | (simp; done) | (simp [go_sem]; done) | (go_simp; done)) hnw
              have k2 : wB.cell? ⟨w2.heap.size, 2, none⟩ = some (.int .i64 1) := hg2.cell (a := ⟨w2.heap.size, 2, none⟩) (by first | (simp; done) | (simp [go_sem]; done) | (go_simp; done)) hnw
              have e0 := ((bcell hBB).1 (w.heap.size + 1 + 1) 0 (by omega)).trans g0'
              have e1 := ((bcell hBB).1 (w.heap.size + 1 + 1) 1 (by omega)).trans g1'
              have HB2 : Hid (Built wB L 54 v' (xs ++ [⟨⟨ch, ln, i⟩, 2, y⟩]) F) := Lib.hid (by first | exact hb2 | (rw [show (fun b => F b ∨ False) = F from by funext b; simp] at hb2; exact hb2)); clear hb2
              clear cA' cB' cK' cF' cN' hc2 hf2 g0 g1 g0' g1' hg2
              go_wp2_with (fail)
              go_quiet (fail)
              go_wp2_with (fail)
              go_roundg ((a.length - (i)) + (b.length - (k + 1)) + 1)
              case rel =>
                refine ⟨i, k + 1, xs ++ [⟨⟨ch, ln, i⟩, 2, y⟩], F, by omega, by omega, rfl, by go_num, by go_num, HE2.out.belowB (L := L) (below_drewN hBB _) (by omega) (by omega) (by omega) (by omega) (by omega) (by omega) (by omega) (by omega), e0, e1, by simp; omega, HB2.out.below (by repeat (first | exact Below.refl _ _ | assumption | refine Below.drew ?_ | refine below_drewN ?_ _ | refine Below.alloc ?_ (by first | exact Nat.le_refl _ | omega | (simp; done) | (simp; omega) | (simp at *; omega)) _ | refine Below.setCell ?_ (by first | exact Nat.le_refl _ | omega | (simp; done) | (simp; omega) | (simp at *; omega)) _ | refine Below.grown ?_ (by assumption) (by first | exact Nat.le_refl _ | omega | (simp; done) | (simp; omega) | (simp at *; omega)) (by first | assumption | (intro _ hk; simp [Value.ownBlock] at hk; omega)))), HF0.out, ?_⟩
                rw [List.append_assoc]
                show xs ++ (_ :: edits a b ch ln (i) (k + 1)) = _
                have := HEW.out
                simp at this
                exact (congrArg (fun l => xs ++ l) this).symm.trans HXS.out
              case measure => omega
          · rcases hm012 with rfl | rfl | rfl
            · simp [wayAt] at hf2'; omega
            · clear hf1' hf2'
              obtain ⟨v, rfl⟩ : ∃ v, v = u11 := ⟨_, rfl⟩
              go_wp2_with (fail)
              go_quiet (fail)
              go_wp2_with (fail)
              have hsz := HE.out.below.size
              refine Calls.mono (next_any ha hb i k _ (HE.out.keep (by repeat (first | exact Below.refl _ _ | assumption | refine Below.drew ?_ | refine below_drewN ?_ _ | refine Below.alloc ?_ (by first | exact Nat.le_refl _ | omega | (simp; done) | (simp; omega) | (simp at *; omega)) _ | refine Below.setCell ?_ (by first | exact Nat.le_refl _ | omega | (simp; done) | (simp; omega) | (simp at *; omega)) _ | refine Below.grown ?_ (by assumption) (by first | exact Nat.le_refl _ | omega | (simp; done) | (simp; omega) | (simp at *; omega)) (by first | assumption | (intro _ hk; simp [Value.ownBlock] at hk; omega))))) hi hk (fun i' k' w' h1 h2 h3 hE' => fewest_any ha hb hra hrb _ i' k' w' rfl h1 h2 hE')) ?_
              rintro e w2 ⟨rfl, hB2, hL⟩
              have HE2 := Lib.hid ((HE.out.keep (w' := w1.drewN nq) (by repeat (first | exact Below.refl _ _ | assumption | refine Below.drew ?_ | refine below_drewN ?_ _ | refine Below.alloc ?_ (by first | exact Nat.le_refl _ | omega | (simp; done) | (simp; omega) | (simp at *; omega)) _ | refine Below.setCell ?_ (by first | exact Nat.le_refl _ | omega | (simp; done) | (simp; omega) | (simp at *; omega)) _ | refine Below.grown ?_ (by assumption) (by first | exact Nat.le_refl _ | omega | (simp; done) | (simp; omega) | (simp at *; omega)) (by first | assumption | (intro _ hk; simp [Value.ownBlock] at hk; omega))))).but hB2 hL); clear hL
              have hs2 := hB2.size
              simp only [World.heap_drewN] at hs2
              have hnM : v.ownBlock ≠ some (w.heap.size + 1 + 1 + 1 + 1) := fun e => by have := HBU.out.lt _ e.symm; omega
              have HBU2 := Lib.hid ((HBU.out.below (w' := w1.drewN nq) (by repeat (first | exact Below.refl _ _ | assumption | refine Below.drew ?_ | refine below_drewN ?_ _ | refine Below.alloc ?_ (by first | exact Nat.le_refl _ | omega | (simp; done) | (simp; omega) | (simp at *; omega)) _ | refine Below.setCell ?_ (by first | exact Nat.le_refl _ | omega | (simp; done) | (simp; omega) | (simp at *; omega)) _ | refine Below.grown ?_ (by assumption) (by first | exact Nat.le_refl _ | omega | (simp; done) | (simp; omega) | (simp at *; omega)) (by first | assumption | (intro _ hk; simp [Value.ownBlock] at hk; omega))))).kept hB2 (.inr hnM) (fun b h => (HF0.out b h).elim))
              have g0' := hB2.cell (p := ⟨w.heap.size + 1 + 1, 0, none⟩) (v := .int .i64 ch) g0 (by simp; try omega)
              have g1' := hB2.cell (p := ⟨w.heap.size + 1 + 1, 1, none⟩) (v := .int .i64 ln) g1 (by simp; try omega)
              obtain ⟨cA', cB', cK', cF', cN', lA', lB', lW', lK', lF', lN'⟩ := HE2.out.facts
              obtain ⟨hc2, hf2⟩ := bcell HE2.out.below
              have hlt2 : ∀ b, some b = v.ownBlock → L ≤ b ∧ b < w2.heap.size := HBU2.out.lt
              have HLT2 := Lib.hid hlt2; clear hlt2
              rw [HBW.out]
              dsimp only [wayAt]
              have hlAT : w.heap.size + 1 + 1 < w2.heap.size := by omega
              have HRDR : Hid (∀ W : World, rd W (fun _ => False) [.int .i64 ch, .int .i64 ln, .int .i64 i, .int .u8 1, .string (⟨#[]⟩ : ByteArray)] (⟨⟨ch, ln, i⟩, 1, (⟨#[]⟩ : ByteArray)⟩ : ReadingD)) := fun _ => ⟨rfl, ⟨HCH.out, HLN.out, I64.of (n := (i : Int)) (by omega)⟩, (by show (Lit.int .u8 1).wf = true; decide), by show (⟨#[]⟩ : ByteArray).size ≤ maxLen; exact Nat.zero_le _⟩
              have hxl : xs.length ≤ 2000 := by
                have h1 := congrArg List.length HXS.out
                have h2 := edits_len a b ch ln ((a.length - 0) + (b.length - 0)) 0 0 (Nat.zero_le _) (Nat.zero_le _) (Nat.le_refl _)
                simp only [List.length_append] at h1
                unfold edits at h1
                omega
              have he := edits_way hsa hmo hi hk ch ln
              rw [HBW.out] at he
              simp only [wayAt, wordAt, Nat.add_zero] at he
              have HEW := Lib.hid he; clear he
              clear cA cB cK cF cN hc1 hf1
              go_wp2_with (refine wpList_append_built rfl _ _ _ rfl aty_readings (HBU2.out.below (by repeat (first | exact Below.refl _ _ | assumption | refine Below.drew ?_ | refine below_drewN ?_ _ | refine Below.alloc ?_ (by first | exact Nat.le_refl _ | omega | (simp; done) | (simp; omega) | (simp at *; omega)) _ | refine Below.setCell ?_ (by first | exact Nat.le_refl _ | omega | (simp; done) | (simp; omega) | (simp at *; omega)) _ | refine Below.grown ?_ (by assumption) (by first | exact Nat.le_refl _ | omega | (simp; done) | (simp; omega) | (simp at *; omega)) (by first | assumption | (intro _ hk; simp [Value.ownBlock] at hk; omega))))) (src_new (cs := #[.int .i64 ch, .int .i64 ln, .int .i64 i, .int .u8 1, .string (⟨#[]⟩ : ByteArray)]) (w2.heap.size + 1 + 1) (by simp) (HRDR.out _) (fun _ h => False.elim h)) rfl rfl (fun _ h => False.elim h) (by omega) (by omega) (by simp; omega) ?_)
              intro v' wB hb2 hg2 hv2
              have hzB := hg2.size
              simp only [World.size_alloc] at hzB
              have hBB : Below L w2 wB := Below.grown (w := (((w2.alloc (.cells #[.int .u8 1, .int .i64 1, .int .i64 0] 69)).alloc (.cells #[.int .i64 ch, .int .i64 ln, .int .i64 i, .int .u8 1, .string (⟨#[]⟩ : ByteArray)] 54)).alloc (.cells #[.int .i64 ch, .int .i64 ln, .int .i64 i, .int .u8 1, .string (⟨#[]⟩ : ByteArray)] 54))) (by repeat (first | exact Below.refl _ _ | assumption | refine Below.drew ?_ | refine below_drewN ?_ _ | refine Below.alloc ?_ (by first | exact Nat.le_refl _ | omega | (simp; done) | (simp; omega) | (simp at *; omega)) _ | refine Below.setCell ?_ (by first | exact Nat.le_refl _ | omega | (simp; done) | (simp; omega) | (simp at *; omega)) _ | refine Below.grown ?_ (by assumption) (by first | exact Nat.le_refl _ | omega | (simp; done) | (simp; omega) | (simp at *; omega)) (by first | assumption | (intro _ hk; simp [Value.ownBlock] at hk; omega)))) hg2 (by simp; omega) (fun q hq => (HLT2.out q hq.symm).1)
              have hnw : some w2.heap.size ≠ v.ownBlock := fun e => by have := HLT2.out _ e; omega
              have k1 : wB.cell? ⟨w2.heap.size, 1, none⟩ = some (.int .i64 1) := hg2.cell (a := ⟨w2.heap.size, 1, none⟩) (by first | (simp; done) | (simp [go_sem]; done) | (go_simp; done)) hnw
              have k2 : wB.cell? ⟨w2.heap.size, 2, none⟩ = some (.int .i64 0) := hg2.cell (a := ⟨w2.heap.size, 2, none⟩) (by first | (simp; done) | (simp [go_sem]; done) | (go_simp; done)) hnw
              have e0 := ((bcell hBB).1 (w.heap.size + 1 + 1) 0 (by omega)).trans g0'
              have e1 := ((bcell hBB).1 (w.heap.size + 1 + 1) 1 (by omega)).trans g1'
              have HB2 : Hid (Built wB L 54 v' (xs ++ [⟨⟨ch, ln, i⟩, 1, (⟨#[]⟩ : ByteArray)⟩]) F) := Lib.hid (by first | exact hb2 | (rw [show (fun b => F b ∨ False) = F from by funext b; simp] at hb2; exact hb2)); clear hb2
              clear cA' cB' cK' cF' cN' hc2 hf2 g0 g1 g0' g1' hg2
              go_wp2_with (fail)
              go_quiet (fail)
              go_wp2_with (fail)
              go_roundg ((a.length - (i + 1)) + (b.length - (k)) + 1)
              case rel =>
                refine ⟨i + 1, k, xs ++ [⟨⟨ch, ln, i⟩, 1, (⟨#[]⟩ : ByteArray)⟩], F, by omega, by omega, rfl, by go_num, by go_num, HE2.out.belowB (L := L) (below_drewN hBB _) (by omega) (by omega) (by omega) (by omega) (by omega) (by omega) (by omega) (by omega), e0, e1, by simp; omega, HB2.out.below (by repeat (first | exact Below.refl _ _ | assumption | refine Below.drew ?_ | refine below_drewN ?_ _ | refine Below.alloc ?_ (by first | exact Nat.le_refl _ | omega | (simp; done) | (simp; omega) | (simp at *; omega)) _ | refine Below.setCell ?_ (by first | exact Nat.le_refl _ | omega | (simp; done) | (simp; omega) | (simp at *; omega)) _ | refine Below.grown ?_ (by assumption) (by first | exact Nat.le_refl _ | omega | (simp; done) | (simp; omega) | (simp at *; omega)) (by first | assumption | (intro _ hk; simp [Value.ownBlock] at hk; omega)))), HF0.out, ?_⟩
                rw [List.append_assoc]
                show xs ++ (_ :: edits a b ch ln (i + 1) (k)) = _
                have := HEW.out
                simp at this
                exact (congrArg (fun l => xs ++ l) this).symm.trans HXS.out
              case measure => omega
            · simp [wayAt] at hf2'; omega
        · have hk1 : k < b.length := by simp [moreW] at hmo; omega
          rcases hm012 with rfl | rfl | rfl
          · simp [wayAt] at hf1'; omega
          · simp [wayAt] at hf1'; omega
          · obtain ⟨y, hy⟩ := some_of_lt hk1
            obtain ⟨b2, o2, rfl, hb2, d2, d3⟩ := hrb.str hy
            have HY := Lib.hid hy; clear hy hf1' hf2'
            obtain ⟨v, rfl⟩ : ∃ v, v = u11 := ⟨_, rfl⟩
            go_wp2_with (fail)
            go_quiet (fail)
            go_wp2_with (fail)
            have hsz := HE.out.below.size
            refine Calls.mono (next_any ha hb i k _ (HE.out.keep (by repeat (first | exact Below.refl _ _ | assumption | refine Below.drew ?_ | refine below_drewN ?_ _ | refine Below.alloc ?_ (by first | exact Nat.le_refl _ | omega | (simp; done) | (simp; omega) | (simp at *; omega)) _ | refine Below.setCell ?_ (by first | exact Nat.le_refl _ | omega | (simp; done) | (simp; omega) | (simp at *; omega)) _ | refine Below.grown ?_ (by assumption) (by first | exact Nat.le_refl _ | omega | (simp; done) | (simp; omega) | (simp at *; omega)) (by first | assumption | (intro _ hk; simp [Value.ownBlock] at hk; omega))))) hi hk (fun i' k' w' h1 h2 h3 hE' => fewest_any ha hb hra hrb _ i' k' w' rfl h1 h2 hE')) ?_
            rintro e w2 ⟨rfl, hB2, hL⟩
            have HE2 := Lib.hid ((HE.out.keep (w' := w1.drewN nq) (by repeat (first | exact Below.refl _ _ | assumption | refine Below.drew ?_ | refine below_drewN ?_ _ | refine Below.alloc ?_ (by first | exact Nat.le_refl _ | omega | (simp; done) | (simp; omega) | (simp at *; omega)) _ | refine Below.setCell ?_ (by first | exact Nat.le_refl _ | omega | (simp; done) | (simp; omega) | (simp at *; omega)) _ | refine Below.grown ?_ (by assumption) (by first | exact Nat.le_refl _ | omega | (simp; done) | (simp; omega) | (simp at *; omega)) (by first | assumption | (intro _ hk; simp [Value.ownBlock] at hk; omega))))).but hB2 hL); clear hL
            have hs2 := hB2.size
            simp only [World.heap_drewN] at hs2
            have hnM : v.ownBlock ≠ some (w.heap.size + 1 + 1 + 1 + 1) := fun e => by have := HBU.out.lt _ e.symm; omega
            have HBU2 := Lib.hid ((HBU.out.below (w' := w1.drewN nq) (by repeat (first | exact Below.refl _ _ | assumption | refine Below.drew ?_ | refine below_drewN ?_ _ | refine Below.alloc ?_ (by first | exact Nat.le_refl _ | omega | (simp; done) | (simp; omega) | (simp at *; omega)) _ | refine Below.setCell ?_ (by first | exact Nat.le_refl _ | omega | (simp; done) | (simp; omega) | (simp at *; omega)) _ | refine Below.grown ?_ (by assumption) (by first | exact Nat.le_refl _ | omega | (simp; done) | (simp; omega) | (simp at *; omega)) (by first | assumption | (intro _ hk; simp [Value.ownBlock] at hk; omega))))).kept hB2 (.inr hnM) (fun b h => (HF0.out b h).elim))
            have g0' := hB2.cell (p := ⟨w.heap.size + 1 + 1, 0, none⟩) (v := .int .i64 ch) g0 (by simp; try omega)
            have g1' := hB2.cell (p := ⟨w.heap.size + 1 + 1, 1, none⟩) (v := .int .i64 ln) g1 (by simp; try omega)
            obtain ⟨cA', cB', cK', cF', cN', lA', lB', lW', lK', lF', lN'⟩ := HE2.out.facts
            obtain ⟨hc2, hf2⟩ := bcell HE2.out.below
            have hlt2 : ∀ b, some b = v.ownBlock → L ≤ b ∧ b < w2.heap.size := HBU2.out.lt
            have HLT2 := Lib.hid hlt2; clear hlt2
            rw [HBW.out]
            dsimp only [wayAt]
            have hlb2 : b2 < w2.heap.size := by omega
            have hlAT : w.heap.size + 1 + 1 < w2.heap.size := by omega
            have HRDR : Hid (∀ W : World, rd W (fun _ => False) [.int .i64 ch, .int .i64 ln, .int .i64 i, .int .u8 2, .string y] (⟨⟨ch, ln, i⟩, 2, y⟩ : ReadingD)) := fun _ => ⟨rfl, ⟨HCH.out, HLN.out, I64.of (n := (i : Int)) (by omega)⟩, (by show (Lit.int .u8 2).wf = true; decide), by simpa [maxLen] using d3⟩
            have hxl : xs.length ≤ 2000 := by
              have h1 := congrArg List.length HXS.out
              have h2 := edits_len a b ch ln ((a.length - 0) + (b.length - 0)) 0 0 (Nat.zero_le _) (Nat.zero_le _) (Nat.le_refl _)
              simp only [List.length_append] at h1
              unfold edits at h1
              omega
            have he := edits_way hsa hmo hi hk ch ln
            rw [HBW.out] at he
            simp only [wayAt, wordAt, HY.out, Nat.add_zero] at he
            have HEW := Lib.hid he; clear he
            clear cA cB cK cF cN hc1 hf1
            go_wp2_with (refine wpList_append_built rfl _ _ _ rfl aty_readings (HBU2.out.below (by repeat (first | exact Below.refl _ _ | assumption | refine Below.drew ?_ | refine below_drewN ?_ _ | refine Below.alloc ?_ (by first | exact Nat.le_refl _ | omega | (simp; done) | (simp; omega) | (simp at *; omega)) _ | refine Below.setCell ?_ (by first | exact Nat.le_refl _ | omega | (simp; done) | (simp; omega) | (simp at *; omega)) _ | refine Below.grown ?_ (by assumption) (by first | exact Nat.le_refl _ | omega | (simp; done) | (simp; omega) | (simp at *; omega)) (by first | assumption | (intro _ hk; simp [Value.ownBlock] at hk; omega))))) (src_new (cs := #[.int .i64 ch, .int .i64 ln, .int .i64 i, .int .u8 2, .string y]) (w2.heap.size + 1 + 1) (by simp) (HRDR.out _) (fun _ h => False.elim h)) rfl rfl (fun _ h => False.elim h) (by omega) (by omega) (by simp; omega) ?_)
            intro v' wB hb2 hg2 hv2
            have hzB := hg2.size
            simp only [World.size_alloc] at hzB
            have hBB : Below L w2 wB := Below.grown (w := (((w2.alloc (.cells #[.int .u8 2, .int .i64 0, .int .i64 1] 69)).alloc (.cells #[.int .i64 ch, .int .i64 ln, .int .i64 i, .int .u8 2, .string y] 54)).alloc (.cells #[.int .i64 ch, .int .i64 ln, .int .i64 i, .int .u8 2, .string y] 54))) (by repeat (first | exact Below.refl _ _ | assumption | refine Below.drew ?_ | refine below_drewN ?_ _ | refine Below.alloc ?_ (by first | exact Nat.le_refl _ | omega | (simp; done) | (simp; omega) | (simp at *; omega)) _ | refine Below.setCell ?_ (by first | exact Nat.le_refl _ | omega | (simp; done) | (simp; omega) | (simp at *; omega)) _ | refine Below.grown ?_ (by assumption) (by first | exact Nat.le_refl _ | omega | (simp; done) | (simp; omega) | (simp at *; omega)) (by first | assumption | (intro _ hk; simp [Value.ownBlock] at hk; omega)))) hg2 (by simp; omega) (fun q hq => (HLT2.out q hq.symm).1)
            have hnw : some w2.heap.size ≠ v.ownBlock := fun e => by have := HLT2.out _ e; omega
            have k1 : wB.cell? ⟨w2.heap.size, 1, none⟩ = some (.int .i64 0) := hg2.cell (a := ⟨w2.heap.size, 1, none⟩) (by first | (simp; done) | (simp [go_sem]; done) | (go_simp; done)) hnw
            have k2 : wB.cell? ⟨w2.heap.size, 2, none⟩ = some (.int .i64 1) := hg2.cell (a := ⟨w2.heap.size, 2, none⟩) (by first | (simp; done) | (simp [go_sem]; done) | (go_simp; done)) hnw
            have e0 := ((bcell hBB).1 (w.heap.size + 1 + 1) 0 (by omega)).trans g0'
            have e1 := ((bcell hBB).1 (w.heap.size + 1 + 1) 1 (by omega)).trans g1'
            have HB2 : Hid (Built wB L 54 v' (xs ++ [⟨⟨ch, ln, i⟩, 2, y⟩]) F) := Lib.hid (by first | exact hb2 | (rw [show (fun b => F b ∨ False) = F from by funext b; simp] at hb2; exact hb2)); clear hb2
            clear cA' cB' cK' cF' cN' hc2 hf2 g0 g1 g0' g1' hg2
            go_wp2_with (fail)
            go_quiet (fail)
            go_wp2_with (fail)
            go_roundg ((a.length - (i)) + (b.length - (k + 1)) + 1)
            case rel =>
              refine ⟨i, k + 1, xs ++ [⟨⟨ch, ln, i⟩, 2, y⟩], F, by omega, by omega, rfl, by go_num, by go_num, HE2.out.belowB (L := L) (below_drewN hBB _) (by omega) (by omega) (by omega) (by omega) (by omega) (by omega) (by omega) (by omega), e0, e1, by simp; omega, HB2.out.below (by repeat (first | exact Below.refl _ _ | assumption | refine Below.drew ?_ | refine below_drewN ?_ _ | refine Below.alloc ?_ (by first | exact Nat.le_refl _ | omega | (simp; done) | (simp; omega) | (simp at *; omega)) _ | refine Below.setCell ?_ (by first | exact Nat.le_refl _ | omega | (simp; done) | (simp; omega) | (simp at *; omega)) _ | refine Below.grown ?_ (by assumption) (by first | exact Nat.le_refl _ | omega | (simp; done) | (simp; omega) | (simp at *; omega)) (by first | assumption | (intro _ hk; simp [Value.ownBlock] at hk; omega)))), HF0.out, ?_⟩
              rw [List.append_assoc]
              show xs ++ (_ :: edits a b ch ln (i) (k + 1)) = _
              have := HEW.out
              simp at this
              exact (congrArg (fun l => xs ++ l) this).symm.trans HXS.out
            case measure => omega
      · have hb1 : i < a.length ∧ k < b.length := by simp [sameW] at hsa; exact hsa.1
        obtain ⟨hi1, hk1⟩ := hb1
        obtain ⟨x, hx⟩ := some_of_lt hi1
        obtain ⟨y, hy⟩ := some_of_lt hk1
        have hsa' := hsa
        rw [sameW_some hx hy] at hsa'
        have hxy := of_eqB hsa'
        subst hxy
        obtain ⟨b1, o1, rfl, hb1, d1, _⟩ := hra.str hx
        obtain ⟨b2, o2, rfl, hb2, d2, _⟩ := hrb.str hy
        have HX := Lib.hid hx; have HY := Lib.hid hy; clear hx hy
        go_wp2_with (fail)
        go_quiet (fail)
        go_wp2_with (fail)
        go_roundg ((a.length - (i + 1)) + (b.length - (k + 1)) + 1)
        case rel => exact ⟨i + 1, k + 1, xs, F, by omega, by omega, rfl, by go_num, by go_num, HE.out.keep (by repeat (first | exact Below.refl _ _ | assumption | refine Below.drew ?_ | refine below_drewN ?_ _ | refine Below.alloc ?_ (by first | exact Nat.le_refl _ | omega | (simp; done) | (simp; omega) | (simp at *; omega)) _ | refine Below.setCell ?_ (by first | exact Nat.le_refl _ | omega | (simp; done) | (simp; omega) | (simp at *; omega)) _ | refine Below.grown ?_ (by assumption) (by first | exact Nat.le_refl _ | omega | (simp; done) | (simp; omega) | (simp at *; omega)) (by first | assumption | (intro _ hk; simp [Value.ownBlock] at hk; omega)))), g0, g1, hz, HBU.out.below (by repeat (first | exact Below.refl _ _ | assumption | refine Below.drew ?_ | refine below_drewN ?_ _ | refine Below.alloc ?_ (by first | exact Nat.le_refl _ | omega | (simp; done) | (simp; omega) | (simp at *; omega)) _ | refine Below.setCell ?_ (by first | exact Nat.le_refl _ | omega | (simp; done) | (simp; omega) | (simp at *; omega)) _ | refine Below.grown ?_ (by assumption) (by first | exact Nat.le_refl _ | omega | (simp; done) | (simp; omega) | (simp at *; omega)) (by first | assumption | (intro _ hk; simp [Value.ownBlock] at hk; omega)))), HF0.out, by rw [← edits_same hsa]; exact HXS.out⟩
        case measure => omega
end Go.Proofs.Ytalkonicppbgdaa

/-
 Contracts of the program's functions of charts: the last line of a chapter; lines that are moved.
-/
import Derived.Test.YtjjklfgpffgnfabGreatDoorDaPlain
import Derived.Test.YtjjklfgpffgnfabGreatDoorDcRef
import Derived.Test.YtjjklfgpffgnfabGreatDoorCyPlain
namespace Go.AB
open Go Go.RowKit
open Go.AB.Enc (cells)
open Go.PB (Chap TextD PlaceD ReadingD CopyD WayD)
/-- A contract whose result, and what it names, are told up to something of the run. -/
theorem pc_namedY_of_body {Y : Type} {P : Program} {f : FuncId} {fn : Func} {c : Code} {args : List C} {G : Nat → Option GObj} {nx : Nat} (r : Y → C) (g : Y → Nat → Option GObj) (m : Y → Nat) (S : Y → Prop) (hf : P.funcs[f]? = some fn) (hb : fn.body = some c) (hl : ∀ y, S y → (r y).low (m y)) (hm : ∀ y, S y → nx ≤ m y) (hg : (∀ n o, G n = some o → n < nx) → ∀ y, S y → ∀ n o, g y n = some o → G n = some o ∨ (n < m y ∧ o.low (m y)))
  (h : AW none P c (fun e st => ∃ y, S y ∧ Ends P fn (r y) (g y) (m y) e st) { n := args.length + (fn.ntmps - args.length), l := args, r := [], G := G, nx := nx }) : PC P f args G nx fun r' G' nx' => ∃ y, S y ∧ r' = r y ∧ G' = g y ∧ nx' = m y := by
 intro E w vs hr hg0
 have key := pc_of_body (K := fun r' G' nx' => ∃ y, S y ∧ r' = r y ∧ m y ≤ nx' ∧ ∀ n o, g y n = some o → G' n = some o) hf hb (AW.mono h fun e st hq => by
  obtain ⟨y, hs, hq⟩ := hq
  cases e with
  | normal => exact ⟨r y, hq.1, y, hs, rfl, hq.2.1, hq.2.2⟩
  | ret => exact ⟨r y, hq.1, y, hs, rfl, hq.2.1, hq.2.2⟩
  | _ => exact hq)
 refine (key E w vs hr hg0).mono ?_
 rintro e w' ⟨r', v, E', G', nx', e1, e2, e3, e4, y, hS, rfl, e5, e6⟩
 have hnx := hg0.nx
 have hm0 := hm y hS
 refine ⟨r y, v, E'.drop (m y), g y, m y, e1, e2.drop (by omega), e3.drop (hl y hS), ?_, y, hS, rfl, rfl, rfl⟩
 refine (e4.weak e6).drop fun n o ho => ?_
 rcases hg (fun n o ho => (hg0.lowG ho).1) y hS n o ho with h1 | h1
 ·have := hg0.lowG h1
  exact ⟨by omega, GObj.low_mono this.2 hm0⟩
 exact h1
theorem e_call_namedY {Y : Type} {P : Program} {o : Oper} {st : St} {K : St → Prop} {f : FuncId} [Fun P f] {fv : Operand} {args : List Operand} {ats : Array TypeId} {caps as0 : List C} {r : Y → C} {g : Y → Nat → Option GObj} {m : Y → Nat} {S : Y → Prop} (ho : o.op = .call { callee := .value fv, args := args.toArray, argTypes := ats }) (hf : evC st fv = .fn (.func f) caps) (has : args.map (evC st) ++ caps = as0)
  (hp : PC P f as0 st.G st.nx fun r' G' nx' => ∃ y, S y ∧ r' = r y ∧ G' = g y ∧ nx' = m y) (h : ∀ y, S y → K (St.put { st with G := g y, nx := m y } o.dst (r y))) : EStep P o st K :=
 e_call ho hf has (hp.mono fun r' G' nx' ⟨y, hs, e1, e2, e3⟩ => by subst e1; subst e2; subst e3; exact h y hs)
theorem sub_unrange {G H : Nat → Option GObj} {m : Nat} {ob : GObj} (hG : G m = some ob) (h : ∀ k o, k ≠ m → G k = some o → H k = some o) : ∀ k o, G k = some o → setG H m ob k = some o := fun k o hk => by
 by_cases e : k = m
 ·subst e; rw [hG] at hk; cases hk; exact setG_same _ _ _
 rw [setG_other e]; exact h k o e hk
theorem delG_some {G : Nat → Option GObj} {n k : Nat} {o : GObj} (h : delG G n k = some o) : k ≠ n ∧ G k = some o := by
 unfold delG at h
 split at h
 ·cases h
 rename_i e; exact ⟨e, h⟩
theorem capp_some {f : L2 → Option L2} {p : L2} {c : C} (h : capp f p = some c) : ∃ v, f p = some v ∧ pairC v = c := by
 unfold capp at h
 cases hf : f p with
 | none => rw [hf] at h; cases h
 | some v => rw [hf] at h; cases h; exact ⟨v, rfl, rfl⟩
theorem capp_move_ne {f : L2 → Option L2} {c l to mo : Int} {done : List L2} {x : L2} : capp (moveD f (moveF f c l to mo) done) x ≠ none ↔ capp f x ≠ none := by
 unfold capp moveD moveF
 cases hf : f x with
 | none => cases decide (x ∈ done) <;> simp [hf]
 | some v => cases decide (x ∈ done) <;> simp [hf]
end Go.AB
namespace Go.Proofs.YtjjklfgpffgnfabGreatDoor
set_option maxRecDepth 10000
open Go.RowKit Go.AB
open Go.AB.Enc (cells)
open Go.PB (Chap TextD PlaceD ReadingD CopyD WayD)
theorem bookLast_pc (t : TextD) (e : EditionD) (n m V : Nat) (cp : Int) (hS : Sound t e.ss) (G : Nat → Option GObj) (nx : Nat) (hn : n < nx) (hm : m < nx) (hG : G m = some (gmap Tryz.prog 95 V (capp (backOf e.ss)))) :
  PC Tryz.prog 59 [.elem (bookC t e n m), .v (.int .i64 cp)] G nx fun r' G' nx' => r' = .v (.int .i64 (lastC t e.ss cp)) ∧ G' = G ∧ nx' = nx := by
 refine pc_named_of_body (G) (nx) Tryz.func59 rfl (.v) zN (fun hlt => zH) ?_
 simp only [Tryz.ntmps59, List.length_cons, List.length_nil, Nat.reduceAdd, Nat.reduceSub]
 refine aw_lt fun hlt => ?_
 dsimp only at hlt
 refine yS fun _ K1 => ?_
 refine yR ?_
 refine yA rfl rfl ?_
 refine yN ?_
 dsimp only [St.put]
 refine K1 _ ?_
 refine yS fun _ K2 => ?_
 refine yR ?_
 refine yA rfl rfl ?_
 refine yN ?_
 dsimp only [St.put]
 refine K2 _ ?_
 refine yS fun _ K3 => ?_
 refine yS fun _ K4 => ?_
 refine yR ?_
 refine yM rfl rfl ?_
 refine aops_n rfl (n_nilCheck rfl rfl) ?_
 refine yF rfl rfl rfl rfl ?_
 refine yL rfl rfl rfl ?_
 try dsimp only [St.put]
 refine aops_e rfl (e_range rfl rfl zG fun r β cl ks hnd hks hinj => ?_)
 refine yN ?_
 dsimp only [St.put]
 refine K4 _ ?_
 have hlt0 := hlt
 replace hlt : ∀ k o, delG G m k = some o → k < nx ∧ k ≠ m := fun k o h => ⟨hlt0 k o (delG_some h).2, (delG_some h).1⟩
 refine aw_forget ((setG (setG (setG (delG G m) m (gmapB Tryz.prog 95 V (capp (backOf e.ss)) β cl)) nx (.raw 0 (.mapIter (some r) cl (seenOf β (([] : List L2))) cl))) (nx + 1) (.fact (.map (some r)) (.map m)))) (subG_set zG (subG_set zG (subG_set zG fun k o h => by (have h1 := hlt k o h; dsimp only; rw [setG_other (by omega), setG_other (by omega), setG_other (by omega)]; exact (delG_some h).2)))) ?_
 dsimp only
 refine aw_block ?_
 refine aw_wipe 12 ?_
 simp only [firsts, getA, Nat.reduceAdd, List.getD_cons_zero, List.getD_cons_succ, List.getD_nil, natBeq, Nat.reduceBEq, cond_true, cond_false]
 refine aw_loopD (X := List L2 × Nat) (fun x => ∀ y ∈ x.1, y ∈ ks) (fun x => leftN ks x.1) (fun x => [(5, .v (.int .i64 (maxF (gKey cp) x.1))), (6, .any)]) (fun x G' => (setG (setG (setG (delG G m) m (gmapB Tryz.prog 95 V (capp (backOf e.ss)) β cl)) nx (.raw x.2 (.mapIter (some r) cl (seenOf β x.1) cl))) (nx + 1) (.fact (.map (some r)) (.map m)))) ([], 0) rfl ?_ ?_ ?_ ?_ ?_ ?_
 ·intro y hy; simp at hy
 ·exact zF
 ·exact zX
 ·rintro ⟨done, wi⟩ hI
  exact (by (try dsimp only); repeat' (first | exact trivial | refine ⟨?_, ?_⟩ | exact .v | exact .any | refine .elem ?_ | exact lst_low _ _ | exact cells_low _ _ | exact val_low _ _ | exact data_low _ (by (try dsimp only); omega) | exact .box (by (try dsimp only); omega) | exact nil_low | exact low_nil | exact gmapB_low (capp_low _ _) | refine set_low ?_ ?_ | exact .arr (by (try dsimp only); omega) | exact .own (by (try dsimp only); omega) | exact .map (by (try dsimp only); omega) | exact flatC_low _ | refine low_cons ?_ ?_ | exact lst_low _ _))
 ·rintro ⟨done, wi⟩ hI
  exact (by (repeat' (refine lowG_set ?_ (by (try dsimp only); omega) ?_)); all_goals (first | exact lowG_base zS | (repeat' (first | exact trivial | refine ⟨?_, ?_⟩ | exact .v | exact .any | refine .elem ?_ | exact lst_low _ _ | exact cells_low _ _ | exact val_low _ _ | exact data_low _ (by (try dsimp only); omega) | exact .box (by (try dsimp only); omega) | exact nil_low | exact low_nil | exact gmapB_low (capp_low _ _) | refine set_low ?_ ?_ | exact .arr (by (try dsimp only); omega) | exact .own (by (try dsimp only); omega) | exact .map (by (try dsimp only); omega) | exact flatC_low _ | refine low_cons ?_ ?_ | exact lst_low _ _))))
 rintro ⟨done, wi⟩ hI
 dsimp only at hI ⊢
 refine yS fun _ K5 => ?_
 refine yR ?_
 try dsimp only [St.put]
 refine aops_e rfl (e_next (done := done) rfl rfl zG zG zG (hks) (hinj) (hI) (fun hend => ?_) (fun y c hym hyk hyd => ?_))
 ·refine yX rfl rfl rfl rfl ?_
  refine yN ?_
  dsimp only [St.put]
  refine K5 _ ?_
  refine yS fun _ K6 => ?_
  refine aw_cond rfl (fun h => by cases h) (fun _ => ?_)
  refine aw_exit ?_
  refine K3 _ ?_
  refine yS fun _ K7 => ?_
  refine aw_unrange (n := m) zG ?_
  refine yR ?_
  refine yM rfl rfl ?_
  refine yA rfl rfl ?_
  refine yN ?_
  dsimp only [St.put]
  refine K7 _ ?_
  refine aw_ret ?_
  refine ends_1 rfl (by constructor) zN (sub_unrange hG fun k o hk h => by (have := hlt0 k o h; rw [setG_other (by omega), setG_other (by omega), setG_other hk, delG_other hk]; exact h)) ?_
  exact vi (last_same hS (fun x => ⟨fun h => hend _ ((hks x).1 fun h0 => h (capp_none.1 h0)), fun h => fun h0 => (hks x).2 (hI x h) (capp_none.2 h0)⟩) cp)
 obtain ⟨v, hfv, rfl⟩ := capp_some hym
 refine yX rfl rfl rfl rfl ?_
 refine yN ?_
 dsimp only [St.put]
 refine K5 _ ?_
 refine yS fun _ K8 => ?_
 refine aw_cond rfl (fun _ => ?_) (fun h => by cases h)
 refine aw_skip ?_
 refine K8 _ ?_
 refine aw_block ?_
 refine yS fun _ K9 => ?_
 refine yR ?_
 try dsimp only [St.put]
 refine aops_s rfl (s_entry (fx := nx + 1) (n := m) rfl rfl zG trivial zG zG trivial (by assumption)) ?_
 refine yX rfl rfl rfl rfl ?_
 try dsimp only [St.put]
 refine aops_e rfl (e_allocC rfl ?_)
 try dsimp only [St.put]
 refine aops_e rfl (e_store_all rfl rfl rfl zG rfl rfl (by rfl) ?_)
 refine yN ?_
 dsimp only [St.put]
 refine K9 _ ?_
 refine aw_commitD (i := 6) rfl zG (by first | exact List.cons_ne_nil _ _ | (simp; done) | (simp [putAt]; done)) ?_
 dsimp only
 refine yS fun _ K10 => ?_
 refine yR ?_
 try dsimp only [St.put]
 refine aops_n rfl (n_indexAddr_aelem (k := 0) rfl rfl rfl (by first | exact rfl | omega) (by first | decide | omega) rfl) ?_
 refine yL rfl rfl rfl ?_
 refine yM rfl rfl ?_
 refine aops_n rfl (n_eql rfl rfl rfl) ?_
 refine yN ?_
 dsimp only [St.put]
 refine K10 _ ?_
 refine aw_cond rfl (fun hc => ?_) (fun hc => ?_)
 ·have e1 : maxF (gKey cp) (done ++ [y]) = max (maxF (gKey cp) done) y.2 := by
   have := of_decide_eq_true hc
   rw [maxF_snoc]; simp [stepM, gKey, this]
  refine yR ?_
  refine yM rfl rfl ?_
  try dsimp only [St.put]
  refine aops_n rfl (n_indexAddr_aelem (k := 1) rfl rfl rfl (by first | exact rfl | omega) (by first | decide | omega) rfl) ?_
  refine yL rfl rfl rfl ?_
  refine aops_n rfl (n_max rfl rfl rfl rfl) ?_
  refine yA rfl rfl ?_
  refine yN ?_
  dsimp only [St.put]
  rw [← e1]
  exact ⟨(done ++ [y], wi + 1), leftN_lt hyk hyd, by (intro z hz; rcases List.mem_append.1 hz with hz | hz; exact hI z hz; rw [List.mem_singleton] at hz; exact hz ▸ hyk), ⟨⟨rfl, rfl⟩, zF, zB, zN, zX⟩⟩
 have e1 : maxF (gKey cp) (done ++ [y]) = maxF (gKey cp) done := by
  have := of_decide_eq_false hc
  rw [maxF_snoc]; simp [stepM, gKey, this]
 refine aw_skip ?_
 rw [← e1]
 exact ⟨(done ++ [y], wi + 1), leftN_lt hyk hyd, by (intro z hz; rcases List.mem_append.1 hz with hz | hz; exact hI z hz; rw [List.mem_singleton] at hz; exact hz ▸ hyk), ⟨⟨rfl, rfl⟩, zF, zB, zN, zX⟩⟩
theorem moved_pc (t : TextD) (e : EditionD) (n m V W : Nat) (cp l to mo : Int) (f b : L2 → Option L2) (ht : textB t = true) (hb : ∀ p v, moveF f cp l to mo p = some v → -100000 ≤ v.2 ∧ v.2 ≤ 100000) (hv1 : ∀ p v, f p = some v → -100000 ≤ v.2 ∧ v.2 ≤ 100000) (hmo : -2000 ≤ mo ∧ mo ≤ 2000) (G : Nat → Option GObj) (nx : Nat) (hn : n < nx) (hm : m < nx) (hnm : n ≠ m) (hG : G n = some (gmap Tryz.prog 95 V (capp f))) (hGm : G m = some (gmap Tryz.prog 95 W (capp b))) :
  PC Tryz.prog 60 [.elem (bookC t e n m), .v (.int .i64 cp), .v (.int .i64 l), .v (.int .i64 to), .v (.int .i64 mo)] G nx fun r' G' nx' => ∃ y : Nat × Nat, nx ≤ y.1 ∧ r' = .tup [.agg [.v (.int .i64 ((edIf e (madeEr ((plainS (moveF f cp l to mo) (linesT t)))) ((plainS (moveF f cp l to mo) (linesT t))))).id), .own y.1 ((edIf e (madeEr ((plainS (moveF f cp l to mo) (linesT t)))) ((plainS (moveF f cp l to mo) (linesT t))))).ss.length ((edIf e (madeEr ((plainS (moveF f cp l to mo) (linesT t)))) ((plainS (moveF f cp l to mo) (linesT t))))).ss.length], .v (.int .i64 (madeEr (plainS (moveF f cp l to mo) (linesT t))))] ∧ G' = setG (delG (delG G n) m) y.1 (.arr ((edIf e (madeEr ((plainS (moveF f cp l to mo) (linesT t)))) ((plainS (moveF f cp l to mo) (linesT t))))).ss.length y.2 28 5 ((edIf e (madeEr ((plainS (moveF f cp l to mo) (linesT t)))) ((plainS (moveF f cp l to mo) (linesT t))))).ss.length (flatC ((edIf e (madeEr ((plainS (moveF f cp l to mo) (linesT t)))) ((plainS (moveF f cp l to mo) (linesT t))))).ss)) ∧ nx' = y.1 + 1 := by
 obtain ⟨L, hL⟩ : ∃ L, plainS (moveF f cp l to mo) (linesT t) = L := ⟨_, rfl⟩
 rw [hL]
 refine pc_namedY_of_body (fun y : Nat × Nat => .tup [.agg [.v (.int .i64 ((edIf e (madeEr L) L)).id), .own y.1 ((edIf e (madeEr L) L)).ss.length ((edIf e (madeEr L) L)).ss.length], .v (.int .i64 (madeEr L))]) (fun y => setG (delG (delG G n) m) y.1 (.arr ((edIf e (madeEr L) L)).ss.length y.2 28 5 ((edIf e (madeEr L) L)).ss.length (flatC ((edIf e (madeEr L) L)).ss))) (fun y => y.1 + 1) (fun y => nx ≤ y.1) Tryz.func60 rfl (fun y hS => .tup (low_cons (.agg (low_cons .v (low_cons (.own (Nat.lt_succ_self _)) low_nil))) (low_cons .v low_nil))) (fun y hS => zN) (fun hlt y hS => (by (repeat' (refine lowG_set ?_ (by (try dsimp only); omega) ?_)); all_goals (first | exact lowG_base zS | (repeat' (first | exact trivial | refine ⟨?_, ?_⟩ | exact .v | exact .any | refine .elem ?_ | exact lst_low _ _ | exact cells_low _ _ | exact val_low _ _ | exact data_low _ (by (try dsimp only); omega) | exact .box (by (try dsimp only); omega) | exact nil_low | exact low_nil | exact flatC_low _ | exact lowG_base fun k o h => (delG_some (delG_some h).2).2 | refine set_low ?_ ?_ | exact .arr (by (try dsimp only); omega) | exact .own (by (try dsimp only); omega) | exact .map (by (try dsimp only); omega) | exact flatC_low _ | refine low_cons ?_ ?_ | exact lst_low _ _))))) ?_
 simp only [Tryz.ntmps60, List.length_cons, List.length_nil, Nat.reduceAdd, Nat.reduceSub]
 refine aw_lt fun hlt => ?_
 dsimp only at hlt
 have hLb : L.length ≤ 60 := by rw [← hL]; exact Nat.le_trans (plainS_len _ _) (linesT_len ht)
 refine yS fun _ K1 => ?_
 refine yR ?_
 try dsimp only [St.put]
 refine aops_e rfl (e_allocC rfl ?_)
 refine yA rfl rfl ?_
 refine yN ?_
 dsimp only [St.put]
 refine K1 _ ?_
 refine yS fun _ K2 => ?_
 refine yS fun _ K3 => ?_
 refine yR ?_
 refine yM rfl rfl ?_
 refine aops_n rfl (n_nilCheck rfl rfl) ?_
 refine yF rfl rfl rfl rfl ?_
 refine yL rfl rfl rfl ?_
 try dsimp only [St.put]
 refine aops_e rfl (e_range rfl rfl zG fun r β cl ks hnd hks hinj => ?_)
 refine yN ?_
 dsimp only [St.put]
 refine K3 _ ?_
 have hlt0 := hlt
 replace hlt : ∀ k o, delG (delG G n) m k = some o → k < nx ∧ k ≠ m ∧ k ≠ n := fun k o h => ⟨hlt0 k o (delG_some (delG_some h).2).2, (delG_some h).1, (delG_some (delG_some h).2).1⟩
 rw [show capp f = capp (moveD f (moveF f cp l to mo) []) by rw [moveD_nil]]
 refine aw_forget ((setG (setG (setG (setG (setG (delG (delG G n) m) nx (.box 0 [.v (.int .i64 0), .list [] .nil])) n (gmapB Tryz.prog 95 V (capp (moveD f (moveF f cp l to mo) (([] : List L2)))) β cl)) m (gmap Tryz.prog 95 W (capp b))) (nx + 1) (.raw 0 (.mapIter (some r) cl (seenOf β (([] : List L2))) cl))) (nx + 1 + 1) (.fact (.map (some r)) (.map n)))) (subG_set zG (subG_set zG (subG_set zG (subG_set zG (subG_set zG fun k o h => by (have h1 := hlt k o h; dsimp only; repeat (first | exact (delG_some (delG_some h).2).2 | rw [setG_other (by omega)]))))))) ?_
 dsimp only
 refine aw_block ?_
 refine aw_wipe 20 ?_
 simp only [firsts, getA, Nat.reduceAdd, List.getD_cons_zero, List.getD_cons_succ, List.getD_nil, natBeq, Nat.reduceBEq, cond_true, cond_false]
 refine aw_loopD (X := List L2 × Nat × Nat × Nat × (L2 → Option L2)) (fun x => ∀ y ∈ x.1, y ∈ ks) (fun x => leftN ks x.1) (fun x => [(12, .any), (13, .any)]) (fun x G' => (setG (setG (setG (setG (setG (delG (delG G n) m) nx (.box 0 [.v (.int .i64 0), .list [] .nil])) n (gmapB Tryz.prog 95 x.2.2.1 (capp (moveD f (moveF f cp l to mo) x.1)) β cl)) m (gmap Tryz.prog 95 x.2.2.2.1 (capp x.2.2.2.2))) (nx + 1) (.raw x.2.1 (.mapIter (some r) cl (seenOf β x.1) cl))) (nx + 1 + 1) (.fact (.map (some r)) (.map n)))) ([], 0, V, W, b) rfl ?_ ?_ ?_ ?_ ?_ ?_
 ·intro y hy; simp at hy
 ·exact zF
 ·exact zX
 ·rintro ⟨done, wi, V2, W2, b2⟩ hI
  exact (by (try dsimp only); repeat' (first | exact trivial | refine ⟨?_, ?_⟩ | exact .v | exact .any | refine .elem ?_ | exact lst_low _ _ | exact cells_low _ _ | exact val_low _ _ | exact data_low _ (by (try dsimp only); omega) | exact .box (by (try dsimp only); omega) | exact nil_low | exact low_nil | exact gmapB_low (capp_low _ _) | exact gmap_low (capp_low _ _) | refine set_low ?_ ?_ | exact .arr (by (try dsimp only); omega) | exact .own (by (try dsimp only); omega) | exact .map (by (try dsimp only); omega) | exact flatC_low _ | refine low_cons ?_ ?_ | exact lst_low _ _))
 ·rintro ⟨done, wi, V2, W2, b2⟩ hI
  exact (by (repeat' (refine lowG_set ?_ (by (try dsimp only); omega) ?_)); all_goals (first | exact lowG_base zS | (repeat' (first | exact trivial | refine ⟨?_, ?_⟩ | exact .v | exact .any | refine .elem ?_ | exact lst_low _ _ | exact cells_low _ _ | exact val_low _ _ | exact data_low _ (by (try dsimp only); omega) | exact .box (by (try dsimp only); omega) | exact nil_low | exact low_nil | exact gmapB_low (capp_low _ _) | exact gmap_low (capp_low _ _) | refine set_low ?_ ?_ | exact .arr (by (try dsimp only); omega) | exact .own (by (try dsimp only); omega) | exact .map (by (try dsimp only); omega) | exact flatC_low _ | refine low_cons ?_ ?_ | exact lst_low _ _))))
 rintro ⟨done, wi, V2, W2, b2⟩ hI
 dsimp only at hI ⊢
 refine yS fun _ K4 => ?_
 refine yR ?_
 try dsimp only [St.put]
 refine aops_e rfl (e_next (done := done) rfl rfl zG zG zG (fun x => by rw [capp_move_ne]; exact hks x) (hinj) (hI) (fun hend => ?_) (fun y c hym hyk hyd => ?_))
 ·refine yX rfl rfl rfl rfl ?_
  refine yN ?_
  dsimp only [St.put]
  refine K4 _ ?_
  refine yS fun _ K5 => ?_
  refine aw_cond rfl (fun h => by cases h) (fun _ => ?_)
  refine aw_exit ?_
  refine K2 _ ?_
  refine yS fun _ K6 => ?_
  refine aw_unrange (n := n) zG ?_
  rw [moveD_all (fun p hp => hend p ((hks p).1 fun h0 => hp (capp_none.1 h0))) (fun p hp => by simp [moveF, hp])]
  refine yR ?_
  refine yM rfl rfl ?_
  try dsimp only [St.put]
  refine aops_e rfl (e_call_namedX rfl rfl rfl (bookPlain_pc t e (moveF f cp l to mo) _ _ _ ht hb _ _ (by dsimp only [St.put]; omega) (by dsimp only [St.put]; omega) zG) (fun y2 => ?_))
  try dsimp only [St.put]
  refine aops_e rfl (e_allocC rfl ?_)
  try dsimp only [St.put]
  refine aops_e rfl (e_store_all rfl rfl rfl zG rfl rfl (by rfl) ?_)
  refine yN ?_
  dsimp only [St.put]
  rw [hL]
  refine K6 _ ?_
  refine yS fun _ K7 => ?_
  refine yS fun _ K8 => ?_
  refine yR ?_
  refine aops_n rfl (n_fieldAddr_box rfl rfl) ?_
  try dsimp only [St.put]
  refine aops_s rfl (s_load_box rfl rfl zG trivial (by first | rfl | assumption)) ?_
  refine aops_n rfl (n_len_own rfl rfl) ?_
  refine aops_n rfl (n_gtr rfl rfl rfl) ?_
  refine yN ?_
  dsimp only [St.put]
  refine K8 _ ?_
  refine aw_cond rfl (fun hc => ?_) (fun hc => ?_)
  ·have hbig : 12 < L.length := by have := of_decide_eq_true hc; omega
   have her : madeEr L = 9 := by simp [madeEr, hbig]
   have hed : edIf e 9 L = ⟨0, []⟩ := rfl
   refine yS fun _ K9 => ?_
   refine yR ?_
   refine aops_n rfl (n_build rfl rfl) ?_
   try dsimp only [St.put]
   refine aops_e rfl (e_store_all rfl rfl rfl zG rfl rfl (by rfl) ?_)
   refine yA rfl rfl ?_
   refine yN ?_
   dsimp only [St.put]
   refine K9 _ ?_
   refine aw_adopt_own_box nx 1 _ _ 28 5 zG rfl (by decide) ?_
   dsimp only [List.set_cons_zero, List.set_cons_succ]
   refine aw_ret ?_
   refine ⟨(nx + 7, 0), by (dsimp only; omega), ?_⟩
   rw [her, hed]
   refine ends_v2 rfl (rv_box rfl zG (by rfl) (by first | exact List.cons_ne_nil _ _ | (simp; done) | (simp [putAt]; done)) rfl) (rv_tmp (by constructor)) zN zX ?_ ?_
   ·exact zW
   exact zW
  have hbig : ¬ 12 < L.length := by have := of_decide_eq_false hc; omega
  have her : madeEr L = 0 := by simp [madeEr, hbig]
  have hed : edIf e 0 L = ⟨e.id, L⟩ := rfl
  refine aw_skip ?_
  refine K7 _ ?_
  refine yS fun _ K10 => ?_
  refine yR ?_
  try dsimp only [St.put]
  refine aops_s rfl (s_load_box_all rfl rfl zG trivial (by rfl)) ?_
  try dsimp only [St.put]
  refine aops_e rfl (e_store_all rfl rfl rfl zG rfl rfl (by rfl) ?_)
  refine yA rfl rfl ?_
  refine yN ?_
  dsimp only [St.put]
  refine K10 _ ?_
  refine aw_ret ?_
  refine ⟨(nx + 5, y2), by (dsimp only; omega), ?_⟩
  rw [her, hed]
  refine ends_v2 rfl (rv_box rfl zG (by rfl) (by first | exact List.cons_ne_nil _ _ | (simp; done) | (simp [putAt]; done)) rfl) (rv_tmp (by constructor)) zN zX ?_ ?_
  ·exact zW
  exact zW
 obtain ⟨v, hfv, rfl⟩ := capp_some hym
 rw [moveD_other hyd] at hfv
 have hvb := hv1 y v hfv
 refine yX rfl rfl rfl rfl ?_
 refine yN ?_
 dsimp only [St.put]
 refine K4 _ ?_
 refine yS fun _ K11 => ?_
 refine aw_cond rfl (fun _ => ?_) (fun h => by cases h)
 refine aw_skip ?_
 refine K11 _ ?_
 refine aw_block ?_
 refine yS fun _ K12 => ?_
 refine yR ?_
 try dsimp only [St.put]
 refine aops_s rfl (s_entry (fx := nx + 1 + 1) (n := n) rfl rfl zG trivial zG zG trivial (by assumption)) ?_
 refine yX rfl rfl rfl rfl ?_
 refine yX rfl rfl rfl rfl ?_
 try dsimp only [St.put]
 refine aops_e rfl (e_allocC rfl ?_)
 try dsimp only [St.put]
 refine aops_e rfl (e_allocC rfl ?_)
 try dsimp only [St.put]
 refine aops_e rfl (e_store_all rfl rfl rfl zG rfl rfl (by rfl) ?_)
 try dsimp only [St.put]
 refine aops_e rfl (e_store_all rfl rfl rfl zG rfl rfl (by rfl) ?_)
 refine yN ?_
 dsimp only [St.put]
 refine K12 _ ?_
 refine aw_commitD (i := 12) rfl zG (by first | exact List.cons_ne_nil _ _ | (simp; done) | (simp [putAt]; done)) ?_
 refine aw_commitD (i := 13) rfl zG (by first | exact List.cons_ne_nil _ _ | (simp; done) | (simp [putAt]; done)) ?_
 dsimp only
 refine yS fun _ K13 => ?_
 refine yR ?_
 try dsimp only [St.put]
 refine aops_n rfl (n_indexAddr_aelem (k := 0) rfl rfl rfl (by first | exact rfl | omega) (by first | decide | omega) rfl) ?_
 refine yL rfl rfl rfl ?_
 refine yM rfl rfl ?_
 refine aops_n rfl (n_eql rfl rfl rfl) ?_
 refine aops_split (fun hs => ?_) (fun hs => ?_)
 ·have h43 := of_decide_eq_true hs
  refine yM rfl rfl ?_
  try dsimp only [St.put]
  refine aops_n rfl (n_indexAddr_aelem (k := 1) rfl rfl rfl (by first | exact rfl | omega) (by first | decide | omega) rfl) ?_
  refine yL rfl rfl rfl ?_
  refine yM rfl rfl ?_
  refine aops_n rfl (n_geq rfl rfl rfl) ?_
  refine aops_n rfl (n_pt rfl rfl (by constructor)) ?_
  refine yN ?_
  dsimp only [St.put]
  refine K13 _ ?_
  refine aw_cond rfl (fun hc => ?_) (fun hc => ?_)
  ·have hmv1 : moveF f cp l to mo y = some (to, v.2 + mo) := by
    have := of_decide_eq_true hc
    simp [moveF, hfv, moveO, h43, this]
   refine yS fun _ K14 => ?_
   refine aw_draw [(0, none), (1, none), (2, none), (3, none), (4, none), (5, none)] (fun i => [5].contains i) (fun i => [5].contains i) (fun i => [0, 1, 2].contains i) [] (by kernel_rfl) (by kernel_rfl) ?_
   refine xM rfl rfl rfl rfl rfl ?_
   refine acan1_n rfl rfl rfl rfl (n_nilCheck rfl rfl) ?_
   refine acan1_n rfl rfl rfl rfl (n_fieldAddr' rfl rfl rfl) ?_
   try dsimp only [St.put]
   refine acan1_s rfl rfl rfl rfl (s_load rfl rfl) ?_
   try dsimp only [St.put]
   refine acan1_s rfl rfl rfl rfl (s_load_agg' rfl rfl rfl) ?_
   refine acan1_two ?_
   try dsimp only [St.put]
   refine acan2_late rfl rfl rfl rfl (e_delete v rfl rfl zG rfl (capp_del b2 v) ?_)
   refine acan2_nil ?_
   dsimp only [St.put]
   refine K14 _ ?_
   refine aw_draw [(0, none), (1, none), (2, none), (3, none), (4, none), (5, none), (6, none), (7, none), (8, none), (9, none), (10, none), (11, none)] (fun i => [11].contains i) (fun i => [11].contains i) (fun i => [0, 1, 2, 5, 6, 8, 9, 10].contains i) [] (by kernel_rfl) (by kernel_rfl) ?_
   refine xM rfl rfl rfl rfl rfl ?_
   refine acan1_n rfl rfl rfl rfl (n_nilCheck rfl rfl) ?_
   refine acan1_n rfl rfl rfl rfl (n_fieldAddr' rfl rfl rfl) ?_
   try dsimp only [St.put]
   refine acan1_s rfl rfl rfl rfl (s_load rfl rfl) ?_
   try dsimp only [St.put]
   refine acan1_s rfl rfl rfl rfl (s_load_agg' rfl rfl rfl) ?_
   refine xM rfl rfl rfl rfl rfl ?_
   try dsimp only [St.put]
   refine acan1_n rfl rfl rfl rfl (n_indexAddr_aelem (k := 1) rfl rfl rfl (by first | exact rfl | omega) (by first | decide | omega) rfl) ?_
   try dsimp only [St.put]
   refine acan1_s rfl rfl rfl rfl (s_load rfl rfl) ?_
   refine xM rfl rfl rfl rfl rfl ?_
   refine acan1_n rfl rfl rfl rfl (n_add rfl rfl rfl (by omega)) ?_
   refine acan1_n rfl rfl rfl rfl (n_buildA rfl rfl) ?_
   refine acan1_two ?_
   try dsimp only [St.put]
   refine acan2_late rfl rfl rfl rfl (e_mapUpdateB y (by rw [hym]; simp) rfl rfl rfl zG rfl (moveD_snoc hmv1) ?_)
   refine acan2_nil ?_
   dsimp only [St.put]
   first
    | (exact ⟨(done ++ [y], wi + 1, V2 + 1, W2 + 1, _), leftN_lt hyk hyd, by (intro z hz; rcases List.mem_append.1 hz with hz | hz; exact hI z hz; rw [List.mem_singleton] at hz; exact hz ▸ hyk), ⟨⟨rfl, rfl⟩, zF, zB, zN, zX⟩⟩)
    | (rw [← moveD_same hyd hmv0]; exact ⟨(done ++ [y], wi + 1, V2, W2, b2), leftN_lt hyk hyd, by (intro z hz; rcases List.mem_append.1 hz with hz | hz; exact hI z hz; rw [List.mem_singleton] at hz; exact hz ▸ hyk), ⟨⟨rfl, rfl⟩, zF, zB, zN, zX⟩⟩)
  have hmv0 : moveF f cp l to mo y = f y := by
   first
   | (have := of_decide_eq_false hc; simp [moveF, hfv, moveO, this]; done)
   | (simp [moveF, hfv, moveO, h43]; done)
  refine aw_skip ?_
  first
   | (exact ⟨(done ++ [y], wi + 1, V2 + 1, W2 + 1, _), leftN_lt hyk hyd, by (intro z hz; rcases List.mem_append.1 hz with hz | hz; exact hI z hz; rw [List.mem_singleton] at hz; exact hz ▸ hyk), ⟨⟨rfl, rfl⟩, zF, zB, zN, zX⟩⟩)
   | (rw [← moveD_same hyd hmv0]; exact ⟨(done ++ [y], wi + 1, V2, W2, b2), leftN_lt hyk hyd, by (intro z hz; rcases List.mem_append.1 hz with hz | hz; exact hI z hz; rw [List.mem_singleton] at hz; exact hz ▸ hyk), ⟨⟨rfl, rfl⟩, zF, zB, zN, zX⟩⟩)
 have h43 := of_decide_eq_false hs
 refine yM rfl rfl ?_
 refine yK rfl ?_
 refine yK rfl ?_
 refine yK rfl ?_
 refine yK rfl ?_
 refine aops_n rfl (n_pf rfl rfl (by constructor)) ?_
 refine yN ?_
 dsimp only [St.put]
 refine K13 _ ?_
 refine aw_cond rfl (fun h => by cases h) (fun _ => ?_)
 have hmv0 : moveF f cp l to mo y = f y := by
  first
  | (have := of_decide_eq_false hc; simp [moveF, hfv, moveO, this]; done)
  | (simp [moveF, hfv, moveO, h43]; done)
 refine aw_skip ?_
 first
  | (exact ⟨(done ++ [y], wi + 1, V2 + 1, W2 + 1, _), leftN_lt hyk hyd, by (intro z hz; rcases List.mem_append.1 hz with hz | hz; exact hI z hz; rw [List.mem_singleton] at hz; exact hz ▸ hyk), ⟨⟨rfl, rfl⟩, zF, zB, zN, zX⟩⟩)
  | (rw [← moveD_same hyd hmv0]; exact ⟨(done ++ [y], wi + 1, V2, W2, b2), leftN_lt hyk hyd, by (intro z hz; rcases List.mem_append.1 hz with hz | hz; exact hI z hz; rw [List.mem_singleton] at hz; exact hz ▸ hyk), ⟨⟨rfl, rfl⟩, zF, zB, zN, zX⟩⟩)
theorem split_no (t : TextD) (e : EditionD) (cp l to : Int) (hl : e.ss.length ≤ 20) (h : soundEr t e ≠ 0) (G : Nat → Option GObj) (nx : Nat) (hF : G 0 = some chkF) :
  PC Tryz.prog 23 [textC t, val e, .v (.int .i64 cp), .v (.int .i64 l), .v (.int .i64 to)] G nx fun r' G' nx' => ∃ y : Nat × Nat, nx ≤ y.1 ∧ r' = (.tup [.agg [.v (.int .i64 (edIf e (splitEr t e cp l to) (splitL t e cp l to)).id), .own y.1 (edIf e (splitEr t e cp l to) (splitL t e cp l to)).ss.length (edIf e (splitEr t e cp l to) (splitL t e cp l to)).ss.length], .v (.int .i64 (splitEr t e cp l to))]) ∧ G' = (setG G y.1 (.arr (edIf e (splitEr t e cp l to) (splitL t e cp l to)).ss.length y.2 28 5 (edIf e (splitEr t e cp l to) (splitL t e cp l to)).ss.length (flatC (edIf e (splitEr t e cp l to) (splitL t e cp l to)).ss))) ∧ nx' = y.1 + 1 := by
 have hE : splitEr t e cp l to = soundEr t e := by simp [splitEr, h]
 have hD : edIf e (soundEr t e) (splitL t e cp l to) = ⟨0, []⟩ := by simp [edIf, h]
 rw [hE, hD]
 refine pc_namedY_of_body (fun y : Nat × Nat => (.tup [.agg [.v (.int .i64 ((⟨0, []⟩ : EditionD)).id), .own y.1 ((⟨0, []⟩ : EditionD)).ss.length ((⟨0, []⟩ : EditionD)).ss.length], .v (.int .i64 (soundEr t e))])) (fun y => (setG G y.1 (.arr ((⟨0, []⟩ : EditionD)).ss.length y.2 28 5 ((⟨0, []⟩ : EditionD)).ss.length (flatC ((⟨0, []⟩ : EditionD)).ss)))) (fun y => y.1 + 1) (fun y => nx ≤ y.1) Tryz.func23 rfl (fun y hS => .tup (low_cons (.agg (low_cons .v (low_cons (.own (Nat.lt_succ_self _)) low_nil))) (low_cons .v low_nil))) (fun y hS => zN) (fun hlt y hS => (by (repeat' (refine lowG_set ?_ (by (try dsimp only); omega) ?_)); all_goals (first | exact lowG_base zS | (repeat' (first | exact trivial | refine ⟨?_, ?_⟩ | exact .v | exact .any | refine .elem ?_ | exact lst_low _ _ | exact cells_low _ _ | exact val_low _ _ | exact data_low _ (by (try dsimp only); omega) | exact .box (by (try dsimp only); omega) | exact nil_low | exact low_nil | exact flatC_low _ | refine set_low ?_ ?_ | exact .arr (by (try dsimp only); omega) | exact .own (by (try dsimp only); omega) | exact .map (by (try dsimp only); omega) | exact flatC_low _ | refine low_cons ?_ ?_ | exact lst_low _ _))))) ?_
 simp only [Tryz.ntmps23, List.length_cons, List.length_nil, Nat.reduceAdd, Nat.reduceSub]
 refine aw_lt fun hlt => ?_
 dsimp only at hlt
 have hnx := hlt 0 _ hF
 refine yS fun _ K1 => ?_
 refine yR ?_
 try dsimp only [St.put]
 refine yB rfl rfl rfl ?_
 try dsimp only [St.put]
 refine yB rfl rfl rfl ?_
 try dsimp only [St.put]
 refine aops_e rfl (e_allocC rfl ?_)
 refine yA rfl rfl ?_
 refine yN ?_
 dsimp only [St.put]
 refine K1 _ ?_
 refine yS fun _ K2 => ?_
 refine yR ?_
 try dsimp only [St.put]
 refine aops_s rfl (s_load_agg' rfl rfl rfl) ?_
 refine yE rfl rfl rfl ?_
 try dsimp only [St.put]
 refine aops_e rfl (e_buildSlice rfl rfl rfl (by decide) (by decide) zR (by decide) ?_)
 try dsimp only [St.put]
 refine aops_e rfl (e_call_f rfl rfl rfl (sound1_no t e hl h) zG ?_)
 refine yM rfl rfl ?_
 refine yX rfl rfl rfl rfl ?_
 refine yX rfl rfl rfl rfl ?_
 refine yA rfl rfl ?_
 refine yA rfl rfl ?_
 refine yN ?_
 dsimp only [St.put]
 refine K2 _ ?_
 refine yS fun _ K3 => ?_
 refine yS fun _ K4 => ?_
 refine yR ?_
 refine yM rfl rfl ?_
 refine aops_n rfl (n_bool (c := true) (n_neq rfl rfl rfl) (not_dec_t h)) ?_
 refine yN ?_
 dsimp only [St.put]
 refine K4 _ ?_
 refine aw_cond rfl (fun _ => ?_) (fun h => by cases h)
 refine yS fun _ K5 => ?_
 refine yR ?_
 refine aops_n rfl (n_build rfl rfl) ?_
 refine yM rfl rfl ?_
 try dsimp only [St.put]
 refine aops_e rfl (e_store_all rfl rfl rfl zG rfl rfl (by rfl) ?_)
 refine yA rfl rfl ?_
 refine yN ?_
 dsimp only [St.put]
 refine K5 _ ?_
 refine aw_adopt_own_box nx 1 _ _ 28 5 zG rfl (by decide) ?_
 dsimp only [List.set_cons_zero, List.set_cons_succ]
 refine aw_ret ?_
 refine ⟨(nx + 1, 0), by (dsimp only; omega), ?_⟩
 refine ends_v2 rfl (rv_box rfl zG (by rfl) (by first | exact List.cons_ne_nil _ _ | (simp; done) | (simp [putAt]; done)) rfl) (rv_tmp (by constructor)) zN zX ?_ ?_
 ·exact zW
 exact zW
theorem split_ok (t : TextD) (e : EditionD) (cp l to : Int) (hl : e.ss.length ≤ 20) (h : soundEr t e = 0) (G : Nat → Option GObj) (nx : Nat) (hF : G 0 = some chkF) :
  PC Tryz.prog 23 [textC t, val e, .v (.int .i64 cp), .v (.int .i64 l), .v (.int .i64 to)] G nx fun r' G' nx' => ∃ y : Nat × Nat, nx ≤ y.1 ∧ r' = (.tup [.agg [.v (.int .i64 (edIf e (splitEr t e cp l to) (splitL t e cp l to)).id), .own y.1 (edIf e (splitEr t e cp l to) (splitL t e cp l to)).ss.length (edIf e (splitEr t e cp l to) (splitL t e cp l to)).ss.length], .v (.int .i64 (splitEr t e cp l to))]) ∧ G' = (setG G y.1 (.arr (edIf e (splitEr t e cp l to) (splitL t e cp l to)).ss.length y.2 28 5 (edIf e (splitEr t e cp l to) (splitL t e cp l to)).ss.length (flatC (edIf e (splitEr t e cp l to) (splitL t e cp l to)).ss))) ∧ nx' = y.1 + 1 := by
 refine pc_namedY_of_body (fun y : Nat × Nat => (.tup [.agg [.v (.int .i64 (edIf e (splitEr t e cp l to) (splitL t e cp l to)).id), .own y.1 (edIf e (splitEr t e cp l to) (splitL t e cp l to)).ss.length (edIf e (splitEr t e cp l to) (splitL t e cp l to)).ss.length], .v (.int .i64 (splitEr t e cp l to))])) (fun y => (setG G y.1 (.arr (edIf e (splitEr t e cp l to) (splitL t e cp l to)).ss.length y.2 28 5 (edIf e (splitEr t e cp l to) (splitL t e cp l to)).ss.length (flatC (edIf e (splitEr t e cp l to) (splitL t e cp l to)).ss)))) (fun y => y.1 + 1) (fun y => nx ≤ y.1) Tryz.func23 rfl (fun y hS => .tup (low_cons (.agg (low_cons .v (low_cons (.own (Nat.lt_succ_self _)) low_nil))) (low_cons .v low_nil))) (fun y hS => zN) (fun hlt y hS => (by (repeat' (refine lowG_set ?_ (by (try dsimp only); omega) ?_)); all_goals (first | exact lowG_base zS | (repeat' (first | exact trivial | refine ⟨?_, ?_⟩ | exact .v | exact .any | refine .elem ?_ | exact lst_low _ _ | exact cells_low _ _ | exact val_low _ _ | exact data_low _ (by (try dsimp only); omega) | exact .box (by (try dsimp only); omega) | exact nil_low | exact low_nil | exact flatC_low _ | refine set_low ?_ ?_ | exact .arr (by (try dsimp only); omega) | exact .own (by (try dsimp only); omega) | exact .map (by (try dsimp only); omega) | exact flatC_low _ | refine low_cons ?_ ?_ | exact lst_low _ _))))) ?_
 simp only [Tryz.ntmps23, List.length_cons, List.length_nil, Nat.reduceAdd, Nat.reduceSub]
 refine aw_lt fun hlt => ?_
 dsimp only at hlt
 have hnx := hlt 0 _ hF
 have hS := soundEr_sound h
 obtain ⟨ht, hl12, he⟩ := checkEr_text (soundEr_check h).1
 have hbo : ∀ p v, asOf e.ss p = some v → -100000 ≤ v.2 ∧ v.2 ≤ 100000 := fun p v hv => by
  have := asOf_pos he hv
  omega
 refine yS fun _ K1 => ?_
 refine yR ?_
 try dsimp only [St.put]
 refine yB rfl rfl rfl ?_
 try dsimp only [St.put]
 refine yB rfl rfl rfl ?_
 try dsimp only [St.put]
 refine aops_e rfl (e_allocC rfl ?_)
 refine yA rfl rfl ?_
 refine yN ?_
 dsimp only [St.put]
 refine K1 _ ?_
 refine yS fun _ K2 => ?_
 refine yR ?_
 try dsimp only [St.put]
 refine aops_s rfl (s_load_agg' rfl rfl rfl) ?_
 refine yE rfl rfl rfl ?_
 try dsimp only [St.put]
 refine aops_e rfl (e_buildSlice rfl rfl rfl (by decide) (by decide) zR (by decide) ?_)
 try dsimp only [St.put]
 refine aops_e rfl (e_call_namedX rfl rfl rfl (sound1_ok t e hl h _ _ zG) (fun y => ?_))
 refine yM rfl rfl ?_
 refine yX rfl rfl rfl rfl ?_
 refine yX rfl rfl rfl rfl ?_
 refine yA rfl rfl ?_
 refine yA rfl rfl ?_
 refine yN ?_
 dsimp only [St.put]
 refine K2 _ ?_
 refine yS fun _ K3 => ?_
 refine yS fun _ K4 => ?_
 refine yR ?_
 refine yM rfl rfl ?_
 refine aops_n rfl (n_bool (c := false) (n_neq rfl rfl rfl) (by rfl)) ?_
 refine yN ?_
 dsimp only [St.put]
 refine K4 _ ?_
 refine aw_cond rfl (fun h => by cases h) (fun _ => ?_)
 refine aw_skip ?_
 refine K3 _ ?_
 refine yS fun _ K5 => ?_
 refine yR ?_
 refine yM rfl rfl ?_
 try dsimp only [St.put]
 refine aops_n rfl (n_indexAddr (k := 0) rfl rfl rfl (by first | rfl | omega) rfl rfl) ?_
 refine yL rfl rfl rfl ?_
 refine yA rfl rfl ?_
 refine yN ?_
 dsimp only [St.put]
 refine K5 _ ?_
 refine yS fun _ K6 => ?_
 refine aw_block ?_
 refine yS fun _ K7 => ?_
 refine yR ?_
 refine yM rfl rfl ?_
 refine yM rfl rfl ?_
 refine yM rfl rfl ?_
 try dsimp only [St.put]
 refine aops_e rfl (e_buildSlice rfl rfl rfl (by decide) (by decide) zR (by decide) ?_)
 try dsimp only [St.put]
 refine aops_e rfl (e_call_pure rfl rfl rfl (chartIn_pure 1 999 [cp, l, to]) ?_)
 refine aops_n rfl (n_not rfl rfl) ?_
 refine yA rfl rfl ?_
 refine yN ?_
 dsimp only [St.put]
 refine K7 _ ?_
 refine aw_cond rfl (fun hc => ?_) (fun hc => ?_)
 ·have hin : inAll 1 999 [cp, l, to] = false := by simpa using hc
  have hE : splitEr t e cp l to = 2 := by simp [splitEr, h, hin]
  refine yS fun _ K8 => ?_
  refine yR ?_
  refine aops_n rfl (n_build rfl rfl) ?_
  try dsimp only [St.put]
  refine aops_e rfl (e_store_all rfl rfl rfl zG rfl rfl (by rfl) ?_)
  refine yA rfl rfl ?_
  refine yN ?_
  dsimp only [St.put]
  refine K8 _ ?_
  refine aw_adopt_own_box nx 1 _ _ 28 5 zG rfl (by decide) ?_
  dsimp only [List.set_cons_zero, List.set_cons_succ]
  refine aw_ret ?_
  refine ⟨(nx + 5, 0), by (dsimp only; omega), ?_⟩
  rw [hE, show edIf e 2 (splitL t e cp l to) = ⟨0, []⟩ from rfl]
  refine ends_v2 rfl (rv_box rfl zG (by rfl) (by first | exact List.cons_ne_nil _ _ | (simp; done) | (simp [putAt]; done)) rfl) (rv_tmp (by constructor)) zN zX ?_ ?_
  ·exact zW
  exact zW
 have hin : inAll 1 999 [cp, l, to] = true := by simpa using hc
 have hin' := hin
 simp only [inAll_three, Bool.and_eq_true, inB_true] at hin'
 refine yS fun _ K9 => ?_
 refine yR ?_
 refine yM rfl rfl ?_
 refine yM rfl rfl ?_
 try dsimp only [St.put]
 refine aops_e rfl (e_call_one rfl rfl rfl (bookLast_pc t e _ _ _ cp hS _ _ (by dsimp only [St.put]; omega) (by dsimp only [St.put]; omega) zG) ?_)
 refine yM rfl rfl ?_
 refine aops_n rfl (n_lss rfl rfl rfl) ?_
 refine yA rfl rfl ?_
 refine yN ?_
 dsimp only [St.put]
 refine K9 _ ?_
 refine aw_cond rfl (fun hc => ?_) (fun hc => ?_)
 ·have hE : splitEr t e cp l to = 6 := by
   have := of_decide_eq_true hc
   simp [splitEr, h, hin, this]
  refine yS fun _ K10 => ?_
  refine yR ?_
  refine aops_n rfl (n_build rfl rfl) ?_
  try dsimp only [St.put]
  refine aops_e rfl (e_store_all rfl rfl rfl zG rfl rfl (by rfl) ?_)
  refine yA rfl rfl ?_
  refine yN ?_
  dsimp only [St.put]
  refine K10 _ ?_
  refine aw_adopt_own_box nx 1 _ _ 28 5 zG rfl (by decide) ?_
  dsimp only [List.set_cons_zero, List.set_cons_succ]
  refine aw_ret ?_
  refine ⟨(nx + 5, 0), by (dsimp only; omega), ?_⟩
  rw [hE, show edIf e 6 (splitL t e cp l to) = ⟨0, []⟩ from rfl]
  refine ends_v2 rfl (rv_box rfl zG (by rfl) (by first | exact List.cons_ne_nil _ _ | (simp; done) | (simp [putAt]; done)) rfl) (rv_tmp (by constructor)) zN zX ?_ ?_
  ·exact zW
  exact zW
 have hlt6 := of_decide_eq_false hc
 refine yS fun _ K11 => ?_
 refine yR ?_
 refine yM rfl rfl ?_
 refine yM rfl rfl ?_
 refine aops_n rfl (n_eql rfl rfl rfl) ?_
 refine aops_split (fun hs => ?_) (fun hs => ?_)
 ·have h92 := of_decide_eq_true hs
  refine yM rfl rfl ?_
  refine yK rfl ?_
  refine yK rfl ?_
  refine yK rfl ?_
  refine yK rfl ?_
  refine aops_n rfl (n_pt rfl rfl (by constructor)) ?_
  refine yA rfl rfl ?_
  refine yN ?_
  dsimp only [St.put]
  refine K11 _ ?_
  refine aw_cond rfl (fun _ => ?_) (fun h => by cases h)
  have hfull : (decide (cp = to) || decide (0 < lastC t e.ss to)) = true := by
   (simp [h92]; done)
  have hE : splitEr t e cp l to = 9 := by simp only [splitEr, h, hin, hlt6, hfull, decide_true, decide_false, cond_true, cond_false]
  refine yS fun _ K12 => ?_
  refine yR ?_
  refine aops_n rfl (n_build rfl rfl) ?_
  try dsimp only [St.put]
  refine aops_e rfl (e_store_all rfl rfl rfl zG rfl rfl (by rfl) ?_)
  refine yA rfl rfl ?_
  refine yN ?_
  dsimp only [St.put]
  refine K12 _ ?_
  refine aw_adopt_own_box nx 1 _ _ 28 5 zG rfl (by decide) ?_
  dsimp only [List.set_cons_zero, List.set_cons_succ]
  refine aw_ret ?_
  refine ⟨(nx + 5, 0), by (dsimp only; omega), ?_⟩
  rw [hE, show edIf e 9 (splitL t e cp l to) = ⟨0, []⟩ from rfl]
  refine ends_v2 rfl (rv_box rfl zG (by rfl) (by first | exact List.cons_ne_nil _ _ | (simp; done) | (simp [putAt]; done)) rfl) (rv_tmp (by constructor)) zN zX ?_ ?_
  ·exact zW
  exact zW
 have h92 := of_decide_eq_false hs
 refine yM rfl rfl ?_
 refine yM rfl rfl ?_
 refine yM rfl rfl ?_
 try dsimp only [St.put]
 refine aops_e rfl (e_call_one rfl rfl rfl (bookLast_pc t e _ _ _ to hS _ _ (by dsimp only [St.put]; omega) (by dsimp only [St.put]; omega) zG) ?_)
 refine aops_n rfl (n_gtr rfl rfl rfl) ?_
 refine aops_n rfl (n_pf rfl rfl (by constructor)) ?_
 refine yA rfl rfl ?_
 refine yN ?_
 dsimp only [St.put]
 refine K11 _ ?_
 refine aw_cond rfl (fun hc => ?_) (fun hc => ?_)
 ·have hfull : (decide (cp = to) || decide (0 < lastC t e.ss to)) = true := by
   (have := of_decide_eq_true hc; simp [this]; done)
  have hE : splitEr t e cp l to = 9 := by simp only [splitEr, h, hin, hlt6, hfull, decide_true, decide_false, cond_true, cond_false]
  refine yS fun _ K13 => ?_
  refine yR ?_
  refine aops_n rfl (n_build rfl rfl) ?_
  try dsimp only [St.put]
  refine aops_e rfl (e_store_all rfl rfl rfl zG rfl rfl (by rfl) ?_)
  refine yA rfl rfl ?_
  refine yN ?_
  dsimp only [St.put]
  refine K13 _ ?_
  refine aw_adopt_own_box nx 1 _ _ 28 5 zG rfl (by decide) ?_
  dsimp only [List.set_cons_zero, List.set_cons_succ]
  refine aw_ret ?_
  refine ⟨(nx + 5, 0), by (dsimp only; omega), ?_⟩
  rw [hE, show edIf e 9 (splitL t e cp l to) = ⟨0, []⟩ from rfl]
  refine ends_v2 rfl (rv_box rfl zG (by rfl) (by first | exact List.cons_ne_nil _ _ | (simp; done) | (simp [putAt]; done)) rfl) (rv_tmp (by constructor)) zN zX ?_ ?_
  ·exact zW
  exact zW
 have hfull : (decide (cp = to) || decide (0 < lastC t e.ss to)) = false := by
  have := of_decide_eq_false hc
  simp [h92, this]
 have hE : splitEr t e cp l to = madeEr (splitL t e cp l to) := by
  simp only [splitEr, h, hin, hlt6, hfull, decide_true, decide_false, cond_true, cond_false]
 refine aw_skip ?_
 refine K6 _ ?_
 refine yS fun _ K14 => ?_
 refine yR ?_
 refine yM rfl rfl ?_
 refine yM rfl rfl ?_
 refine yM rfl rfl ?_
 refine yM rfl rfl ?_
 refine yM rfl rfl ?_
 refine aops_n rfl (n_sub rfl rfl rfl (by omega)) ?_
 try dsimp only [St.put]
 refine aops_e rfl (e_call_namedY rfl rfl rfl (moved_pc t e _ _ _ _ cp l to (1 - l) (asOf e.ss) (backOf e.ss) ht (moveF_bd he (by omega)) hbo (by omega) _ _ (by dsimp only [St.put]; omega) (by dsimp only [St.put]; omega) (by omega) zG zG) (fun y3 hy3 => ?_))
 dsimp only [St.put] at hy3
 refine yX rfl rfl rfl rfl ?_
 refine yX rfl rfl rfl rfl ?_
 try dsimp only [St.put]
 refine aops_e rfl (e_store_all rfl rfl rfl zG rfl rfl (by rfl) ?_)
 refine yA rfl rfl ?_
 refine yN ?_
 dsimp only [St.put]
 rw [show plainS (moveF (asOf e.ss) cp l to (1 - l)) (linesT t) = splitL t e cp l to from rfl]
 refine K14 _ ?_
 refine aw_ret ?_
 refine ⟨(y3.1, y3.2), by (dsimp only; omega), ?_⟩
 rw [hE]
 refine ends_v2 rfl (rv_box rfl zG (by rfl) (by first | exact List.cons_ne_nil _ _ | (simp; done) | (simp [putAt]; done)) rfl) (rv_tmp (by constructor)) zN zX ?_ ?_
 ·exact zW
 exact zW
theorem split_pc (t : TextD) (e : EditionD) (cp l to : Int) (hl : e.ss.length ≤ 20) (G : Nat → Option GObj) (nx : Nat) (hF : G 0 = some chkF) :
  PC Tryz.prog 23 [textC t, val e, .v (.int .i64 cp), .v (.int .i64 l), .v (.int .i64 to)] G nx fun r' G' nx' => ∃ y : Nat × Nat, nx ≤ y.1 ∧ r' = (.tup [.agg [.v (.int .i64 (edIf e (splitEr t e cp l to) (splitL t e cp l to)).id), .own y.1 (edIf e (splitEr t e cp l to) (splitL t e cp l to)).ss.length (edIf e (splitEr t e cp l to) (splitL t e cp l to)).ss.length], .v (.int .i64 (splitEr t e cp l to))]) ∧ G' = (setG G y.1 (.arr (edIf e (splitEr t e cp l to) (splitL t e cp l to)).ss.length y.2 28 5 (edIf e (splitEr t e cp l to) (splitL t e cp l to)).ss.length (flatC (edIf e (splitEr t e cp l to) (splitL t e cp l to)).ss))) ∧ nx' = y.1 + 1 := by
 by_cases h : soundEr t e = 0
 ·exact split_ok t e cp l to hl h G nx hF
 exact split_no t e cp l to hl h G nx hF
theorem join_no (t : TextD) (e : EditionD) (cp to : Int) (hl : e.ss.length ≤ 20) (h : soundEr t e ≠ 0) (G : Nat → Option GObj) (nx : Nat) (hF : G 0 = some chkF) :
  PC Tryz.prog 24 [textC t, val e, .v (.int .i64 cp), .v (.int .i64 to)] G nx fun r' G' nx' => ∃ y : Nat × Nat, nx ≤ y.1 ∧ r' = (.tup [.agg [.v (.int .i64 (edIf e (joinEr t e cp to) (joinL t e cp to)).id), .own y.1 (edIf e (joinEr t e cp to) (joinL t e cp to)).ss.length (edIf e (joinEr t e cp to) (joinL t e cp to)).ss.length], .v (.int .i64 (joinEr t e cp to))]) ∧ G' = (setG G y.1 (.arr (edIf e (joinEr t e cp to) (joinL t e cp to)).ss.length y.2 28 5 (edIf e (joinEr t e cp to) (joinL t e cp to)).ss.length (flatC (edIf e (joinEr t e cp to) (joinL t e cp to)).ss))) ∧ nx' = y.1 + 1 := by
 have hE : joinEr t e cp to = soundEr t e := by simp [joinEr, h]
 have hD : edIf e (soundEr t e) (joinL t e cp to) = ⟨0, []⟩ := by simp [edIf, h]
 rw [hE, hD]
 refine pc_namedY_of_body (fun y : Nat × Nat => (.tup [.agg [.v (.int .i64 ((⟨0, []⟩ : EditionD)).id), .own y.1 ((⟨0, []⟩ : EditionD)).ss.length ((⟨0, []⟩ : EditionD)).ss.length], .v (.int .i64 (soundEr t e))])) (fun y => (setG G y.1 (.arr ((⟨0, []⟩ : EditionD)).ss.length y.2 28 5 ((⟨0, []⟩ : EditionD)).ss.length (flatC ((⟨0, []⟩ : EditionD)).ss)))) (fun y => y.1 + 1) (fun y => nx ≤ y.1) Tryz.func24 rfl (fun y hS => .tup (low_cons (.agg (low_cons .v (low_cons (.own (Nat.lt_succ_self _)) low_nil))) (low_cons .v low_nil))) (fun y hS => zN) (fun hlt y hS => (by (repeat' (refine lowG_set ?_ (by (try dsimp only); omega) ?_)); all_goals (first | exact lowG_base zS | (repeat' (first | exact trivial | refine ⟨?_, ?_⟩ | exact .v | exact .any | refine .elem ?_ | exact lst_low _ _ | exact cells_low _ _ | exact val_low _ _ | exact data_low _ (by (try dsimp only); omega) | exact .box (by (try dsimp only); omega) | exact nil_low | exact low_nil | exact flatC_low _ | refine set_low ?_ ?_ | exact .arr (by (try dsimp only); omega) | exact .own (by (try dsimp only); omega) | exact .map (by (try dsimp only); omega) | exact flatC_low _ | refine low_cons ?_ ?_ | exact lst_low _ _))))) ?_
 simp only [Tryz.ntmps24, List.length_cons, List.length_nil, Nat.reduceAdd, Nat.reduceSub]
 refine aw_lt fun hlt => ?_
 dsimp only at hlt
 have hnx := hlt 0 _ hF
 refine yS fun _ K1 => ?_
 refine yR ?_
 try dsimp only [St.put]
 refine yB rfl rfl rfl ?_
 try dsimp only [St.put]
 refine yB rfl rfl rfl ?_
 try dsimp only [St.put]
 refine aops_e rfl (e_allocC rfl ?_)
 refine yA rfl rfl ?_
 refine yN ?_
 dsimp only [St.put]
 refine K1 _ ?_
 refine yS fun _ K2 => ?_
 refine yR ?_
 try dsimp only [St.put]
 refine aops_s rfl (s_load_agg' rfl rfl rfl) ?_
 refine yE rfl rfl rfl ?_
 try dsimp only [St.put]
 refine aops_e rfl (e_buildSlice rfl rfl rfl (by decide) (by decide) zR (by decide) ?_)
 try dsimp only [St.put]
 refine aops_e rfl (e_call_f rfl rfl rfl (sound1_no t e hl h) zG ?_)
 refine yM rfl rfl ?_
 refine yX rfl rfl rfl rfl ?_
 refine yX rfl rfl rfl rfl ?_
 refine yA rfl rfl ?_
 refine yA rfl rfl ?_
 refine yN ?_
 dsimp only [St.put]
 refine K2 _ ?_
 refine yS fun _ K3 => ?_
 refine yS fun _ K4 => ?_
 refine yR ?_
 refine yM rfl rfl ?_
 refine aops_n rfl (n_bool (c := true) (n_neq rfl rfl rfl) (not_dec_t h)) ?_
 refine yN ?_
 dsimp only [St.put]
 refine K4 _ ?_
 refine aw_cond rfl (fun _ => ?_) (fun h => by cases h)
 refine yS fun _ K5 => ?_
 refine yR ?_
 refine aops_n rfl (n_build rfl rfl) ?_
 refine yM rfl rfl ?_
 try dsimp only [St.put]
 refine aops_e rfl (e_store_all rfl rfl rfl zG rfl rfl (by rfl) ?_)
 refine yA rfl rfl ?_
 refine yN ?_
 dsimp only [St.put]
 refine K5 _ ?_
 refine aw_adopt_own_box nx 1 _ _ 28 5 zG rfl (by decide) ?_
 dsimp only [List.set_cons_zero, List.set_cons_succ]
 refine aw_ret ?_
 refine ⟨(nx + 1, 0), by (dsimp only; omega), ?_⟩
 refine ends_v2 rfl (rv_box rfl zG (by rfl) (by first | exact List.cons_ne_nil _ _ | (simp; done) | (simp [putAt]; done)) rfl) (rv_tmp (by constructor)) zN zX ?_ ?_
 ·exact zW
 exact zW
theorem join_ok (t : TextD) (e : EditionD) (cp to : Int) (hl : e.ss.length ≤ 20) (h : soundEr t e = 0) (G : Nat → Option GObj) (nx : Nat) (hF : G 0 = some chkF) :
  PC Tryz.prog 24 [textC t, val e, .v (.int .i64 cp), .v (.int .i64 to)] G nx fun r' G' nx' => ∃ y : Nat × Nat, nx ≤ y.1 ∧ r' = (.tup [.agg [.v (.int .i64 (edIf e (joinEr t e cp to) (joinL t e cp to)).id), .own y.1 (edIf e (joinEr t e cp to) (joinL t e cp to)).ss.length (edIf e (joinEr t e cp to) (joinL t e cp to)).ss.length], .v (.int .i64 (joinEr t e cp to))]) ∧ G' = (setG G y.1 (.arr (edIf e (joinEr t e cp to) (joinL t e cp to)).ss.length y.2 28 5 (edIf e (joinEr t e cp to) (joinL t e cp to)).ss.length (flatC (edIf e (joinEr t e cp to) (joinL t e cp to)).ss))) ∧ nx' = y.1 + 1 := by
 refine pc_namedY_of_body (fun y : Nat × Nat => (.tup [.agg [.v (.int .i64 (edIf e (joinEr t e cp to) (joinL t e cp to)).id), .own y.1 (edIf e (joinEr t e cp to) (joinL t e cp to)).ss.length (edIf e (joinEr t e cp to) (joinL t e cp to)).ss.length], .v (.int .i64 (joinEr t e cp to))])) (fun y => (setG G y.1 (.arr (edIf e (joinEr t e cp to) (joinL t e cp to)).ss.length y.2 28 5 (edIf e (joinEr t e cp to) (joinL t e cp to)).ss.length (flatC (edIf e (joinEr t e cp to) (joinL t e cp to)).ss)))) (fun y => y.1 + 1) (fun y => nx ≤ y.1) Tryz.func24 rfl (fun y hS => .tup (low_cons (.agg (low_cons .v (low_cons (.own (Nat.lt_succ_self _)) low_nil))) (low_cons .v low_nil))) (fun y hS => zN) (fun hlt y hS => (by (repeat' (refine lowG_set ?_ (by (try dsimp only); omega) ?_)); all_goals (first | exact lowG_base zS | (repeat' (first | exact trivial | refine ⟨?_, ?_⟩ | exact .v | exact .any | refine .elem ?_ | exact lst_low _ _ | exact cells_low _ _ | exact val_low _ _ | exact data_low _ (by (try dsimp only); omega) | exact .box (by (try dsimp only); omega) | exact nil_low | exact low_nil | exact flatC_low _ | refine set_low ?_ ?_ | exact .arr (by (try dsimp only); omega) | exact .own (by (try dsimp only); omega) | exact .map (by (try dsimp only); omega) | exact flatC_low _ | refine low_cons ?_ ?_ | exact lst_low _ _))))) ?_
 simp only [Tryz.ntmps24, List.length_cons, List.length_nil, Nat.reduceAdd, Nat.reduceSub]
 refine aw_lt fun hlt => ?_
 dsimp only at hlt
 have hnx := hlt 0 _ hF
 have hS := soundEr_sound h
 obtain ⟨ht, hl12, he⟩ := checkEr_text (soundEr_check h).1
 have hbo : ∀ p v, asOf e.ss p = some v → -100000 ≤ v.2 ∧ v.2 ≤ 100000 := fun p v hv => by
  have := asOf_pos he hv
  omega
 refine yS fun _ K1 => ?_
 refine yR ?_
 try dsimp only [St.put]
 refine yB rfl rfl rfl ?_
 try dsimp only [St.put]
 refine yB rfl rfl rfl ?_
 try dsimp only [St.put]
 refine aops_e rfl (e_allocC rfl ?_)
 refine yA rfl rfl ?_
 refine yN ?_
 dsimp only [St.put]
 refine K1 _ ?_
 refine yS fun _ K2 => ?_
 refine yR ?_
 try dsimp only [St.put]
 refine aops_s rfl (s_load_agg' rfl rfl rfl) ?_
 refine yE rfl rfl rfl ?_
 try dsimp only [St.put]
 refine aops_e rfl (e_buildSlice rfl rfl rfl (by decide) (by decide) zR (by decide) ?_)
 try dsimp only [St.put]
 refine aops_e rfl (e_call_namedX rfl rfl rfl (sound1_ok t e hl h _ _ zG) (fun y => ?_))
 refine yM rfl rfl ?_
 refine yX rfl rfl rfl rfl ?_
 refine yX rfl rfl rfl rfl ?_
 refine yA rfl rfl ?_
 refine yA rfl rfl ?_
 refine yN ?_
 dsimp only [St.put]
 refine K2 _ ?_
 refine yS fun _ K3 => ?_
 refine yS fun _ K4 => ?_
 refine yR ?_
 refine yM rfl rfl ?_
 refine aops_n rfl (n_bool (c := false) (n_neq rfl rfl rfl) (by rfl)) ?_
 refine yN ?_
 dsimp only [St.put]
 refine K4 _ ?_
 refine aw_cond rfl (fun h => by cases h) (fun _ => ?_)
 refine aw_skip ?_
 refine K3 _ ?_
 refine yS fun _ K5 => ?_
 refine yR ?_
 refine yM rfl rfl ?_
 try dsimp only [St.put]
 refine aops_n rfl (n_indexAddr (k := 0) rfl rfl rfl (by first | rfl | omega) rfl rfl) ?_
 refine yL rfl rfl rfl ?_
 refine yA rfl rfl ?_
 refine yN ?_
 dsimp only [St.put]
 refine K5 _ ?_
 refine yS fun _ K6 => ?_
 refine aw_block ?_
 refine yS fun _ K7 => ?_
 refine yR ?_
 refine yM rfl rfl ?_
 refine yM rfl rfl ?_
 try dsimp only [St.put]
 refine aops_e rfl (e_buildSlice rfl rfl rfl (by decide) (by decide) zR (by decide) ?_)
 try dsimp only [St.put]
 refine aops_e rfl (e_call_pure rfl rfl rfl (chartIn_pure 1 999 [cp, to]) ?_)
 refine aops_n rfl (n_not rfl rfl) ?_
 refine yA rfl rfl ?_
 refine yN ?_
 dsimp only [St.put]
 refine K7 _ ?_
 refine aw_cond rfl (fun hc => ?_) (fun hc => ?_)
 ·have hin : inAll 1 999 [cp, to] = false := by simpa using hc
  have hE : joinEr t e cp to = 2 := by simp [joinEr, h, hin]
  refine yS fun _ K8 => ?_
  refine yR ?_
  refine aops_n rfl (n_build rfl rfl) ?_
  try dsimp only [St.put]
  refine aops_e rfl (e_store_all rfl rfl rfl zG rfl rfl (by rfl) ?_)
  refine yA rfl rfl ?_
  refine yN ?_
  dsimp only [St.put]
  refine K8 _ ?_
  refine aw_adopt_own_box nx 1 _ _ 28 5 zG rfl (by decide) ?_
  dsimp only [List.set_cons_zero, List.set_cons_succ]
  refine aw_ret ?_
  refine ⟨(nx + 5, 0), by (dsimp only; omega), ?_⟩
  rw [hE, show edIf e 2 (joinL t e cp to) = ⟨0, []⟩ from rfl]
  refine ends_v2 rfl (rv_box rfl zG (by rfl) (by first | exact List.cons_ne_nil _ _ | (simp; done) | (simp [putAt]; done)) rfl) (rv_tmp (by constructor)) zN zX ?_ ?_
  ·exact zW
  exact zW
 have hin : inAll 1 999 [cp, to] = true := by simpa using hc
 have hin' := hin
 simp only [inAll_two, Bool.and_eq_true, inB_true] at hin'
 have hl1 := lastC_bd (t := t) he cp
 have hl2 := lastC_bd (t := t) he to
 refine yS fun _ K9 => ?_
 refine yR ?_
 refine yM rfl rfl ?_
 refine yM rfl rfl ?_
 try dsimp only [St.put]
 refine aops_e rfl (e_call_one rfl rfl rfl (bookLast_pc t e _ _ _ cp hS _ _ (by dsimp only [St.put]; omega) (by dsimp only [St.put]; omega) zG) ?_)
 refine aops_n rfl (n_eql rfl rfl rfl) ?_
 refine yA rfl rfl ?_
 refine yN ?_
 dsimp only [St.put]
 refine K9 _ ?_
 refine aw_cond rfl (fun hc => ?_) (fun hc => ?_)
 ·have hE : joinEr t e cp to = 6 := by
   have := of_decide_eq_true hc
   simp [joinEr, h, hin, this]
  refine yS fun _ K10 => ?_
  refine yR ?_
  refine aops_n rfl (n_build rfl rfl) ?_
  try dsimp only [St.put]
  refine aops_e rfl (e_store_all rfl rfl rfl zG rfl rfl (by rfl) ?_)
  refine yA rfl rfl ?_
  refine yN ?_
  dsimp only [St.put]
  refine K10 _ ?_
  refine aw_adopt_own_box nx 1 _ _ 28 5 zG rfl (by decide) ?_
  dsimp only [List.set_cons_zero, List.set_cons_succ]
  refine aw_ret ?_
  refine ⟨(nx + 5, 0), by (dsimp only; omega), ?_⟩
  rw [hE, show edIf e 6 (joinL t e cp to) = ⟨0, []⟩ from rfl]
  refine ends_v2 rfl (rv_box rfl zG (by rfl) (by first | exact List.cons_ne_nil _ _ | (simp; done) | (simp [putAt]; done)) rfl) (rv_tmp (by constructor)) zN zX ?_ ?_
  ·exact zW
  exact zW
 have hlt6 := of_decide_eq_false hc
 refine yS fun _ K11 => ?_
 refine yR ?_
 refine yM rfl rfl ?_
 refine yM rfl rfl ?_
 refine aops_n rfl (n_eql rfl rfl rfl) ?_
 refine aops_split (fun hs => ?_) (fun hs => ?_)
 ·have h92 := of_decide_eq_true hs
  refine yM rfl rfl ?_
  refine yK rfl ?_
  refine yK rfl ?_
  refine yK rfl ?_
  refine yK rfl ?_
  refine yK rfl ?_
  refine yK rfl ?_
  refine yK rfl ?_
  refine yK rfl ?_
  refine aops_n rfl (n_pt rfl rfl (by constructor)) ?_
  refine yA rfl rfl ?_
  refine yN ?_
  dsimp only [St.put]
  refine K11 _ ?_
  refine aw_cond rfl (fun _ => ?_) (fun h => by cases h)
  have hfull : (decide (cp = to) || decide (999 < lastC t e.ss cp + lastC t e.ss to)) = true := by
   (simp [h92]; done)
  have hE : joinEr t e cp to = 9 := by simp only [joinEr, h, hin, hlt6, hfull, decide_true, decide_false, cond_true, cond_false]
  refine yS fun _ K12 => ?_
  refine yR ?_
  refine aops_n rfl (n_build rfl rfl) ?_
  try dsimp only [St.put]
  refine aops_e rfl (e_store_all rfl rfl rfl zG rfl rfl (by rfl) ?_)
  refine yA rfl rfl ?_
  refine yN ?_
  dsimp only [St.put]
  refine K12 _ ?_
  refine aw_adopt_own_box nx 1 _ _ 28 5 zG rfl (by decide) ?_
  dsimp only [List.set_cons_zero, List.set_cons_succ]
  refine aw_ret ?_
  refine ⟨(nx + 5, 0), by (dsimp only; omega), ?_⟩
  rw [hE, show edIf e 9 (joinL t e cp to) = ⟨0, []⟩ from rfl]
  refine ends_v2 rfl (rv_box rfl zG (by rfl) (by first | exact List.cons_ne_nil _ _ | (simp; done) | (simp [putAt]; done)) rfl) (rv_tmp (by constructor)) zN zX ?_ ?_
  ·exact zW
  exact zW
 have h92 := of_decide_eq_false hs
 refine yM rfl rfl ?_
 refine yM rfl rfl ?_
 refine yM rfl rfl ?_
 try dsimp only [St.put]
 refine aops_e rfl (e_call_one rfl rfl rfl (bookLast_pc t e _ _ _ cp hS _ _ (by dsimp only [St.put]; omega) (by dsimp only [St.put]; omega) zG) ?_)
 refine yM rfl rfl ?_
 refine yM rfl rfl ?_
 try dsimp only [St.put]
 refine aops_e rfl (e_call_one rfl rfl rfl (bookLast_pc t e _ _ _ to hS _ _ (by dsimp only [St.put]; omega) (by dsimp only [St.put]; omega) zG) ?_)
 refine aops_n rfl (n_add rfl rfl rfl (by omega)) ?_
 refine aops_n rfl (n_gtr rfl rfl rfl) ?_
 refine aops_n rfl (n_pf rfl rfl (by constructor)) ?_
 refine yA rfl rfl ?_
 refine yN ?_
 dsimp only [St.put]
 refine K11 _ ?_
 refine aw_cond rfl (fun hc => ?_) (fun hc => ?_)
 ·have hfull : (decide (cp = to) || decide (999 < lastC t e.ss cp + lastC t e.ss to)) = true := by
   (have := of_decide_eq_true hc; simp [this]; done)
  have hE : joinEr t e cp to = 9 := by simp only [joinEr, h, hin, hlt6, hfull, decide_true, decide_false, cond_true, cond_false]
  refine yS fun _ K13 => ?_
  refine yR ?_
  refine aops_n rfl (n_build rfl rfl) ?_
  try dsimp only [St.put]
  refine aops_e rfl (e_store_all rfl rfl rfl zG rfl rfl (by rfl) ?_)
  refine yA rfl rfl ?_
  refine yN ?_
  dsimp only [St.put]
  refine K13 _ ?_
  refine aw_adopt_own_box nx 1 _ _ 28 5 zG rfl (by decide) ?_
  dsimp only [List.set_cons_zero, List.set_cons_succ]
  refine aw_ret ?_
  refine ⟨(nx + 5, 0), by (dsimp only; omega), ?_⟩
  rw [hE, show edIf e 9 (joinL t e cp to) = ⟨0, []⟩ from rfl]
  refine ends_v2 rfl (rv_box rfl zG (by rfl) (by first | exact List.cons_ne_nil _ _ | (simp; done) | (simp [putAt]; done)) rfl) (rv_tmp (by constructor)) zN zX ?_ ?_
  ·exact zW
  exact zW
 have hfull : (decide (cp = to) || decide (999 < lastC t e.ss cp + lastC t e.ss to)) = false := by
  have := of_decide_eq_false hc
  simp [h92, this]
 have hE : joinEr t e cp to = madeEr (joinL t e cp to) := by
  simp only [joinEr, h, hin, hlt6, hfull, decide_true, decide_false, cond_true, cond_false]
 refine aw_skip ?_
 refine K6 _ ?_
 refine yS fun _ K14 => ?_
 refine yR ?_
 refine yM rfl rfl ?_
 refine yM rfl rfl ?_
 refine yM rfl rfl ?_
 refine yM rfl rfl ?_
 refine yM rfl rfl ?_
 try dsimp only [St.put]
 refine aops_e rfl (e_call_one rfl rfl rfl (bookLast_pc t e _ _ _ to hS _ _ (by dsimp only [St.put]; omega) (by dsimp only [St.put]; omega) zG) ?_)
 try dsimp only [St.put]
 refine aops_e rfl (e_call_namedY rfl rfl rfl (moved_pc t e _ _ _ _ cp 1 to (lastC t e.ss to) (asOf e.ss) (backOf e.ss) ht (moveF_bd he (by omega)) hbo (by omega) _ _ (by dsimp only [St.put]; omega) (by dsimp only [St.put]; omega) (by omega) zG zG) (fun y3 hy3 => ?_))
 dsimp only [St.put] at hy3
 refine yX rfl rfl rfl rfl ?_
 refine yX rfl rfl rfl rfl ?_
 try dsimp only [St.put]
 refine aops_e rfl (e_store_all rfl rfl rfl zG rfl rfl (by rfl) ?_)
 refine yA rfl rfl ?_
 refine yN ?_
 dsimp only [St.put]
 rw [show plainS (moveF (asOf e.ss) cp 1 to (lastC t e.ss to)) (linesT t) = joinL t e cp to from rfl]
 refine K14 _ ?_
 refine aw_ret ?_
 refine ⟨(y3.1, y3.2), by (dsimp only; omega), ?_⟩
 rw [hE]
 refine ends_v2 rfl (rv_box rfl zG (by rfl) (by first | exact List.cons_ne_nil _ _ | (simp; done) | (simp [putAt]; done)) rfl) (rv_tmp (by constructor)) zN zX ?_ ?_
 ·exact zW
 exact zW
theorem join_pc (t : TextD) (e : EditionD) (cp to : Int) (hl : e.ss.length ≤ 20) (G : Nat → Option GObj) (nx : Nat) (hF : G 0 = some chkF) :
  PC Tryz.prog 24 [textC t, val e, .v (.int .i64 cp), .v (.int .i64 to)] G nx fun r' G' nx' => ∃ y : Nat × Nat, nx ≤ y.1 ∧ r' = (.tup [.agg [.v (.int .i64 (edIf e (joinEr t e cp to) (joinL t e cp to)).id), .own y.1 (edIf e (joinEr t e cp to) (joinL t e cp to)).ss.length (edIf e (joinEr t e cp to) (joinL t e cp to)).ss.length], .v (.int .i64 (joinEr t e cp to))]) ∧ G' = (setG G y.1 (.arr (edIf e (joinEr t e cp to) (joinL t e cp to)).ss.length y.2 28 5 (edIf e (joinEr t e cp to) (joinL t e cp to)).ss.length (flatC (edIf e (joinEr t e cp to) (joinL t e cp to)).ss))) ∧ nx' = y.1 + 1 := by
 by_cases h : soundEr t e = 0
 ·exact join_ok t e cp to hl h G nx hF
 exact join_no t e cp to hl h G nx hF
end Go.Proofs.YtjjklfgpffgnfabGreatDoor

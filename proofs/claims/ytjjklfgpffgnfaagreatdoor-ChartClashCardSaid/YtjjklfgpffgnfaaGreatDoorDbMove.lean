/-
 Contracts of the program's functions of charts: the last line of a chapter; lines that are moved.
-/
import Derived.Test.YtjjklfgpffgnfaaGreatDoorDaPlain
import Derived.Test.YtjjklfgpffgnfaaGreatDoorDcRef
import Derived.Test.YtjjklfgpffgnfaaGreatDoorCyPlain
namespace Go.AB
open Go Go.RowKit
open Go.AB.Enc (cells)
open Go.PB (bv ai PlaceD cy c6 cz)
/-- A contract whose result, and what it names, are told up to something of the run. -/
theorem qw {Y : Type} {P : Program} {f : FuncId} {fn : Func} {c : Code} {args : List C} {G : Nat → Option GObj} {nx : Nat} (r : Y → C) (g : Y → Nat → Option GObj) (m : Y → Nat) (S : Y → Prop) (hf : P.funcs[f]? = some fn) (hb : fn.body = some c) (hl : ∀ y, S y → (r y).low (m y)) (hm : ∀ y, S y → nx ≤ m y) (hg : (∀ n o, G n = some o → n < nx) → ∀ y, S y → ∀ n o, g y n = some o → G n = some o ∨ (n < m y ∧ o.low (m y)))
  (h : AW none P c (fun e st => ∃ y, S y ∧ kx P fn (r y) (g y) (m y) e st) { n := args.length + (fn.ntmps - args.length), l := args, r := [], G := G, nx := nx }) : PC P f args G nx fun r' G' nx' => ∃ y, S y ∧ r' = r y ∧ G' = g y ∧ nx' = m y := by
 intro E w vs hr hg0
 have key := sl (K := fun r' G' nx' => ∃ y, S y ∧ r' = r y ∧ m y ≤ nx' ∧ ∀ n o, g y n = some o → G' n = some o) hf hb (AW.mono h fun e st hq => by
  obtain ⟨y, hs, hq⟩ := hq
  cases e with
  | normal => exact ⟨r y, hq.1, y, hs, rfl, hq.2.1, hq.2.2⟩
  | ret => exact ⟨r y, hq.1, y, hs, rfl, hq.2.1, hq.2.2⟩
  | _ => exact hq)
 refine (key E w vs hr hg0).mono ?_
 rintro e w' ⟨r', v, E', G', nx', e1, e2, e3, e4, y, hS, rfl, e5, e6⟩
 have hnx := hg0.nx
 have hm0 := hm y hS
 refine ⟨r y, v, E'.drop (m y), g y, m y, e1, e2.drop (by omega), e3.drop (hl y hS), ?_, y, hS, rfl, rfl, rfl⟩
 refine (e4.weak e6).drop fun n o ho => ?_
 rcases hg (fun n o ho => (hg0.lowG ho).1) y hS n o ho with h1 | h1
 ·have := hg0.lowG h1
  exact ⟨by omega, GObj.low_mono this.2 hm0⟩
 exact h1
theorem ub6 {Y : Type} {P : Program} {o : Oper} {st : St} {K : St → Prop} {f : FuncId} [Fun P f] {fv : Operand} {args : List Operand} {ats : Array TypeId} {caps as0 : List C} {r : Y → C} {g : Y → Nat → Option GObj} {m : Y → Nat} {S : Y → Prop} (ho : o.op = .call { callee := .value fv, args := args.toArray, argTypes := ats }) (hf : evC st fv = .fn (.func f) caps) (has : args.map (evC st) ++ caps = as0)
  (hp : PC P f as0 st.G st.nx fun r' G' nx' => ∃ y, S y ∧ r' = r y ∧ G' = g y ∧ nx' = m y) (h : ∀ y, S y → K (St.put { st with G := g y, nx := m y } o.dst (r y))) : EStep P o st K :=
 rn ho hf has (hp.mono fun r' G' nx' ⟨y, hs, e1, e2, e3⟩ => by subst e1; subst e2; subst e3; exact h y hs)
theorem uej {G H : Nat → Option GObj} {m : Nat} {ob : GObj} (hG : G m = some ob) (h : ∀ k o, k ≠ m → G k = some o → H k = some o) : ∀ k o, G k = some o → ak H m ob k = some o := fun k o hk => by
 by_cases e : k = m
 ·subst e; rw [hG] at hk; cases hk; exact ns _ _ _
 rw [io e]; exact h k o e hk
theorem lu {G : Nat → Option GObj} {n k : Nat} {o : GObj} (h : gu G n k = some o) : k ≠ n ∧ G k = some o := by
 unfold gu at h
 split at h
 ·cases h
 rename_i e; exact ⟨e, h⟩
theorem ucu {f : L2 → Option L2} {p : L2} {c : C} (h : az f p = some c) : ∃ v, f p = some v ∧ oh v = c := by
 unfold az at h
 cases hf : f p with
 | none => rw [hf] at h; cases h
 | some v => rw [hf] at h; cases h; exact ⟨v, rfl, rfl⟩
theorem ulr {f : L2 → Option L2} {c l to mo : Int} {done : List L2} {x : L2} : az (jn f (fh f c l to mo) done) x ≠ none ↔ az f x ≠ none := by
 unfold az jn fh
 cases hf : f x with
 | none => cases decide (x ∈ done) <;> simp [hf]
 | some v => cases decide (x ∈ done) <;> simp [hf]
end Go.AB
namespace Go.Proofs.YtjjklfgpffgnfaaGreatDoor
set_option maxRecDepth 10000
open Go.RowKit Go.AB
open Go.AB.Enc (cells)
open Go.PB (bv ai PlaceD cy c6 cz)
theorem qh (t : ai) (e : av) (n m V : Nat) (cp : Int) (hS : Sound t e.ss) (G : Nat → Option GObj) (nx : Nat) (hn : n < nx) (hm : m < nx) (hG : G m = some (bo Tryz.prog 115 V (az (cn e.ss)))) :
  PC Tryz.prog 68 [.elem (gi t e n m), .v (.int .i64 cp)] G nx fun r' G' nx' => r' = .v (.int .i64 (i4 t e.ss cp)) ∧ G' = G ∧ nx' = nx := by
 refine l8 (G) (nx) Tryz.func68 rfl (.v) zN (fun hlt => zH) ?_
 simp only [Tryz.ntmps68, List.length_cons, List.length_nil, Nat.reduceAdd, Nat.reduceSub]
 refine bi fun hlt => ?_
 dsimp only at hlt
 refine yS fun _ K1 => ?_
 refine yR ?_
 refine yA rfl rfl ?_
 refine yN ?_
 dsimp only [St.put]
 refine K1 _ ?_
 refine yS fun _ K2 => ?_
 refine yR ?_
 refine yA rfl rfl ?_
 refine yN ?_
 dsimp only [St.put]
 refine K2 _ ?_
 refine yS fun _ K3 => ?_
 refine yS fun _ K4 => ?_
 refine yR ?_
 refine yM rfl rfl ?_
 refine aa rfl (iq rfl rfl) ?_
 refine yF rfl rfl rfl rfl ?_
 refine yL rfl rfl rfl ?_
 try dsimp only [St.put]
 refine ae rfl (w7 rfl rfl zG fun r β cl ks hnd hks hinj => ?_)
 refine yN ?_
 dsimp only [St.put]
 refine K4 _ ?_
 have hlt0 := hlt
 replace hlt : ∀ k o, gu G m k = some o → k < nx ∧ k ≠ m := fun k o h => ⟨hlt0 k o (lu h).2, (lu h).1⟩
 refine fg ((ak (ak (ak (gu G m) m (ko Tryz.prog 115 V (az (cn e.ss)) β cl)) nx (.raw 0 (.mapIter (some r) cl (i2 β (([] : List L2))) cl))) (nx + 1) (.fact (.map (some r)) (.map m)))) (mz zG (mz zG (mz zG fun k o h => by (have h1 := hlt k o h; dsimp only; rw [io (by omega), io (by omega), io (by omega)]; exact (lu h).2)))) ?_
 dsimp only
 refine bn ?_
 refine eg 12 ?_
 simp only [dj, bq, Nat.reduceAdd, List.getD_cons_zero, List.getD_cons_succ, List.getD_nil, dw, Nat.reduceBEq, cond_true, cond_false]
 refine fu (X := List L2 × Nat) (fun x => ∀ y ∈ x.1, y ∈ ks) (fun x => p4 ks x.1) (fun x => [(5, .v (.int .i64 (k6 (me cp) x.1))), (6, .any)]) (fun x G' => (ak (ak (ak (gu G m) m (ko Tryz.prog 115 V (az (cn e.ss)) β cl)) nx (.raw x.2 (.mapIter (some r) cl (i2 β x.1) cl))) (nx + 1) (.fact (.map (some r)) (.map m)))) ([], 0) rfl ?_ ?_ ?_ ?_ ?_ ?_
 ·intro y hy; simp at hy
 ·exact zF
 ·exact zX
 ·rintro ⟨done, wi⟩ hI
  exact (by (try dsimp only); repeat' (first | exact trivial | refine ⟨?_, ?_⟩ | exact .v | exact .any | refine .elem ?_ | exact bh _ _ | exact e9 _ _ | exact dq _ _ | exact ff _ (by (try dsimp only); omega) | exact .box (by (try dsimp only); omega) | exact ed | exact bl | exact p7 (f9 _ _) | refine fa ?_ ?_ | exact .arr (by (try dsimp only); omega) | exact .own (by (try dsimp only); omega) | exact .map (by (try dsimp only); omega) | exact ez _ | refine ar ?_ ?_ | exact bh _ _))
 ·rintro ⟨done, wi⟩ hI
  exact (by (repeat' (refine gt ?_ (by (try dsimp only); omega) ?_)); all_goals (first | exact ie zS | (repeat' (first | exact trivial | refine ⟨?_, ?_⟩ | exact .v | exact .any | refine .elem ?_ | exact bh _ _ | exact e9 _ _ | exact dq _ _ | exact ff _ (by (try dsimp only); omega) | exact .box (by (try dsimp only); omega) | exact ed | exact bl | exact p7 (f9 _ _) | refine fa ?_ ?_ | exact .arr (by (try dsimp only); omega) | exact .own (by (try dsimp only); omega) | exact .map (by (try dsimp only); omega) | exact ez _ | refine ar ?_ ?_ | exact bh _ _))))
 rintro ⟨done, wi⟩ hI
 dsimp only at hI ⊢
 refine yS fun _ K5 => ?_
 refine yR ?_
 try dsimp only [St.put]
 refine ae rfl (w8 (done := done) rfl rfl zG zG zG (hks) (hinj) (hI) (fun hend => ?_) (fun y c hym hyk hyd => ?_))
 ·refine yX rfl rfl rfl rfl ?_
  refine yN ?_
  dsimp only [St.put]
  refine K5 _ ?_
  refine yS fun _ K6 => ?_
  refine al rfl (fun h => by cases h) (fun _ => ?_)
  refine ey ?_
  refine K3 _ ?_
  refine yS fun _ K7 => ?_
  refine xm (n := m) zG ?_
  refine yR ?_
  refine yM rfl rfl ?_
  refine yA rfl rfl ?_
  refine yN ?_
  dsimp only [St.put]
  refine K7 _ ?_
  refine am ?_
  refine bf rfl (by constructor) zN (uej hG fun k o hk h => by (have := hlt0 k o h; rw [io (by omega), io (by omega), io hk, k7 hk]; exact h)) ?_
  exact vi (uh3 hS (fun x => ⟨fun h => hend _ ((hks x).1 fun h0 => h (capp_none.1 h0)), fun h => fun h0 => (hks x).2 (hI x h) (capp_none.2 h0)⟩) cp)
 obtain ⟨v, hfv, rfl⟩ := ucu hym
 refine yX rfl rfl rfl rfl ?_
 refine yN ?_
 dsimp only [St.put]
 refine K5 _ ?_
 refine yS fun _ K8 => ?_
 refine al rfl (fun _ => ?_) (fun h => by cases h)
 refine aw ?_
 refine K8 _ ?_
 refine bn ?_
 refine yS fun _ K9 => ?_
 refine yR ?_
 try dsimp only [St.put]
 refine af rfl (uw (fx := nx + 1) (n := m) rfl rfl zG trivial zG zG trivial (by assumption)) ?_
 refine yX rfl rfl rfl rfl ?_
 try dsimp only [St.put]
 refine ae rfl (bp rfl ?_)
 try dsimp only [St.put]
 refine ae rfl (ay rfl rfl rfl zG rfl rfl (by rfl) ?_)
 refine yN ?_
 dsimp only [St.put]
 refine K9 _ ?_
 refine dg (i := 6) rfl zG (by first | exact List.cons_ne_nil _ _ | (simp; done) | (simp [putAt]; done)) ?_
 dsimp only
 refine yS fun _ K10 => ?_
 refine yR ?_
 try dsimp only [St.put]
 refine aa rfl (fb (k := 0) rfl rfl rfl (by first | exact rfl | omega) (by first | decide | omega) rfl) ?_
 refine yL rfl rfl rfl ?_
 refine yM rfl rfl ?_
 refine aa rfl (g3 rfl rfl rfl) ?_
 refine yN ?_
 dsimp only [St.put]
 refine K10 _ ?_
 refine al rfl (fun hc => ?_) (fun hc => ?_)
 ·have e1 : k6 (me cp) (done ++ [y]) = max (k6 (me cp) done) y.2 := by
   have := of_decide_eq_true hc
   rw [uag]; simp [jy, me, this]
  refine yR ?_
  refine yM rfl rfl ?_
  try dsimp only [St.put]
  refine aa rfl (fb (k := 1) rfl rfl rfl (by first | exact rfl | omega) (by first | decide | omega) rfl) ?_
  refine yL rfl rfl rfl ?_
  refine aa rfl (sw rfl rfl rfl rfl) ?_
  refine yA rfl rfl ?_
  refine yN ?_
  dsimp only [St.put]
  rw [← e1]
  exact ⟨(done ++ [y], wi + 1), lj hyk hyd, by (intro z hz; rcases List.mem_append.1 hz with hz | hz; exact hI z hz; rw [List.mem_singleton] at hz; exact hz ▸ hyk), ⟨⟨rfl, rfl⟩, zF, zB, zN, zX⟩⟩
 have e1 : k6 (me cp) (done ++ [y]) = k6 (me cp) done := by
  have := of_decide_eq_false hc
  rw [uag]; simp [jy, me, this]
 refine aw ?_
 rw [← e1]
 exact ⟨(done ++ [y], wi + 1), lj hyk hyd, by (intro z hz; rcases List.mem_append.1 hz with hz | hz; exact hI z hz; rw [List.mem_singleton] at hz; exact hz ▸ hyk), ⟨⟨rfl, rfl⟩, zF, zB, zN, zX⟩⟩
theorem uae (t : ai) (e : av) (n m V W : Nat) (cp l to mo : Int) (f b : L2 → Option L2) (ht : ct t = true) (hb : ∀ p v, fh f cp l to mo p = some v → -100000 ≤ v.2 ∧ v.2 ≤ 100000) (hv1 : ∀ p v, f p = some v → -100000 ≤ v.2 ∧ v.2 ≤ 100000) (hmo : -2000 ≤ mo ∧ mo ≤ 2000) (G : Nat → Option GObj) (nx : Nat) (hn : n < nx) (hm : m < nx) (hnm : n ≠ m) (hG : G n = some (bo Tryz.prog 115 V (az f))) (hGm : G m = some (bo Tryz.prog 115 W (az b))) :
  PC Tryz.prog 69 [.elem (gi t e n m), .v (.int .i64 cp), .v (.int .i64 l), .v (.int .i64 to), .v (.int .i64 mo)] G nx fun r' G' nx' => ∃ y : Nat × Nat, nx ≤ y.1 ∧ r' = .tup [.agg [.v (.int .i64 ((ci e (iy ((gd (fh f cp l to mo) (d9 t)))) ((gd (fh f cp l to mo) (d9 t))))).id), .own y.1 ((ci e (iy ((gd (fh f cp l to mo) (d9 t)))) ((gd (fh f cp l to mo) (d9 t))))).ss.length ((ci e (iy ((gd (fh f cp l to mo) (d9 t)))) ((gd (fh f cp l to mo) (d9 t))))).ss.length], .v (.int .i64 (iy (gd (fh f cp l to mo) (d9 t))))] ∧ G' = ak (gu (gu G n) m) y.1 (.arr ((ci e (iy ((gd (fh f cp l to mo) (d9 t)))) ((gd (fh f cp l to mo) (d9 t))))).ss.length y.2 48 5 ((ci e (iy ((gd (fh f cp l to mo) (d9 t)))) ((gd (fh f cp l to mo) (d9 t))))).ss.length (co ((ci e (iy ((gd (fh f cp l to mo) (d9 t)))) ((gd (fh f cp l to mo) (d9 t))))).ss)) ∧ nx' = y.1 + 1 := by
 obtain ⟨L, hL⟩ : ∃ L, gd (fh f cp l to mo) (d9 t) = L := ⟨_, rfl⟩
 rw [hL]
 refine qw (fun y : Nat × Nat => .tup [.agg [.v (.int .i64 ((ci e (iy L) L)).id), .own y.1 ((ci e (iy L) L)).ss.length ((ci e (iy L) L)).ss.length], .v (.int .i64 (iy L))]) (fun y => ak (gu (gu G n) m) y.1 (.arr ((ci e (iy L) L)).ss.length y.2 48 5 ((ci e (iy L) L)).ss.length (co ((ci e (iy L) L)).ss))) (fun y => y.1 + 1) (fun y => nx ≤ y.1) Tryz.func69 rfl (fun y hS => .tup (ar (.agg (ar .v (ar (.own (Nat.lt_succ_self _)) bl))) (ar .v bl))) (fun y hS => zN) (fun hlt y hS => (by (repeat' (refine gt ?_ (by (try dsimp only); omega) ?_)); all_goals (first | exact ie zS | (repeat' (first | exact trivial | refine ⟨?_, ?_⟩ | exact .v | exact .any | refine .elem ?_ | exact bh _ _ | exact e9 _ _ | exact dq _ _ | exact ff _ (by (try dsimp only); omega) | exact .box (by (try dsimp only); omega) | exact ed | exact bl | exact ez _ | exact ie fun k o h => (lu (lu h).2).2 | refine fa ?_ ?_ | exact .arr (by (try dsimp only); omega) | exact .own (by (try dsimp only); omega) | exact .map (by (try dsimp only); omega) | exact ez _ | refine ar ?_ ?_ | exact bh _ _))))) ?_
 simp only [Tryz.ntmps69, List.length_cons, List.length_nil, Nat.reduceAdd, Nat.reduceSub]
 refine bi fun hlt => ?_
 dsimp only at hlt
 have hLb : L.length ≤ 60 := by rw [← hL]; exact Nat.le_trans (zb _ _) (ov ht)
 refine yS fun _ K1 => ?_
 refine yR ?_
 try dsimp only [St.put]
 refine ae rfl (bp rfl ?_)
 refine yA rfl rfl ?_
 refine yN ?_
 dsimp only [St.put]
 refine K1 _ ?_
 refine yS fun _ K2 => ?_
 refine yS fun _ K3 => ?_
 refine yR ?_
 refine yM rfl rfl ?_
 refine aa rfl (iq rfl rfl) ?_
 refine yF rfl rfl rfl rfl ?_
 refine yL rfl rfl rfl ?_
 try dsimp only [St.put]
 refine ae rfl (w7 rfl rfl zG fun r β cl ks hnd hks hinj => ?_)
 refine yN ?_
 dsimp only [St.put]
 refine K3 _ ?_
 have hlt0 := hlt
 replace hlt : ∀ k o, gu (gu G n) m k = some o → k < nx ∧ k ≠ m ∧ k ≠ n := fun k o h => ⟨hlt0 k o (lu (lu h).2).2, (lu h).1, (lu (lu h).2).1⟩
 rw [show az f = az (jn f (fh f cp l to mo) []) by rw [ug6]]
 refine fg ((ak (ak (ak (ak (ak (gu (gu G n) m) nx (.box 0 [.v (.int .i64 0), .list [] .nil])) n (ko Tryz.prog 115 V (az (jn f (fh f cp l to mo) (([] : List L2)))) β cl)) m (bo Tryz.prog 115 W (az b))) (nx + 1) (.raw 0 (.mapIter (some r) cl (i2 β (([] : List L2))) cl))) (nx + 1 + 1) (.fact (.map (some r)) (.map n)))) (mz zG (mz zG (mz zG (mz zG (mz zG fun k o h => by (have h1 := hlt k o h; dsimp only; repeat (first | exact (lu (lu h).2).2 | rw [io (by omega)]))))))) ?_
 dsimp only
 refine bn ?_
 refine eg 20 ?_
 simp only [dj, bq, Nat.reduceAdd, List.getD_cons_zero, List.getD_cons_succ, List.getD_nil, dw, Nat.reduceBEq, cond_true, cond_false]
 refine fu (X := List L2 × Nat × Nat × Nat × (L2 → Option L2)) (fun x => ∀ y ∈ x.1, y ∈ ks) (fun x => p4 ks x.1) (fun x => [(12, .any), (13, .any)]) (fun x G' => (ak (ak (ak (ak (ak (gu (gu G n) m) nx (.box 0 [.v (.int .i64 0), .list [] .nil])) n (ko Tryz.prog 115 x.2.2.1 (az (jn f (fh f cp l to mo) x.1)) β cl)) m (bo Tryz.prog 115 x.2.2.2.1 (az x.2.2.2.2))) (nx + 1) (.raw x.2.1 (.mapIter (some r) cl (i2 β x.1) cl))) (nx + 1 + 1) (.fact (.map (some r)) (.map n)))) ([], 0, V, W, b) rfl ?_ ?_ ?_ ?_ ?_ ?_
 ·intro y hy; simp at hy
 ·exact zF
 ·exact zX
 ·rintro ⟨done, wi, V2, W2, b2⟩ hI
  exact (by (try dsimp only); repeat' (first | exact trivial | refine ⟨?_, ?_⟩ | exact .v | exact .any | refine .elem ?_ | exact bh _ _ | exact e9 _ _ | exact dq _ _ | exact ff _ (by (try dsimp only); omega) | exact .box (by (try dsimp only); omega) | exact ed | exact bl | exact p7 (f9 _ _) | exact gg (f9 _ _) | refine fa ?_ ?_ | exact .arr (by (try dsimp only); omega) | exact .own (by (try dsimp only); omega) | exact .map (by (try dsimp only); omega) | exact ez _ | refine ar ?_ ?_ | exact bh _ _))
 ·rintro ⟨done, wi, V2, W2, b2⟩ hI
  exact (by (repeat' (refine gt ?_ (by (try dsimp only); omega) ?_)); all_goals (first | exact ie zS | (repeat' (first | exact trivial | refine ⟨?_, ?_⟩ | exact .v | exact .any | refine .elem ?_ | exact bh _ _ | exact e9 _ _ | exact dq _ _ | exact ff _ (by (try dsimp only); omega) | exact .box (by (try dsimp only); omega) | exact ed | exact bl | exact p7 (f9 _ _) | exact gg (f9 _ _) | refine fa ?_ ?_ | exact .arr (by (try dsimp only); omega) | exact .own (by (try dsimp only); omega) | exact .map (by (try dsimp only); omega) | exact ez _ | refine ar ?_ ?_ | exact bh _ _))))
 rintro ⟨done, wi, V2, W2, b2⟩ hI
 dsimp only at hI ⊢
 refine yS fun _ K4 => ?_
 refine yR ?_
 try dsimp only [St.put]
 refine ae rfl (w8 (done := done) rfl rfl zG zG zG (fun x => by rw [ulr]; exact hks x) (hinj) (hI) (fun hend => ?_) (fun y c hym hyk hyd => ?_))
 ·refine yX rfl rfl rfl rfl ?_
  refine yN ?_
  dsimp only [St.put]
  refine K4 _ ?_
  refine yS fun _ K5 => ?_
  refine al rfl (fun h => by cases h) (fun _ => ?_)
  refine ey ?_
  refine K2 _ ?_
  refine yS fun _ K6 => ?_
  refine xm (n := n) zG ?_
  rw [ug7 (fun p hp => hend p ((hks p).1 fun h0 => hp (capp_none.1 h0))) (fun p hp => by simp [fh, hp])]
  refine yR ?_
  refine yM rfl rfl ?_
  try dsimp only [St.put]
  refine ae rfl (i0 rfl rfl rfl (ulz t e (fh f cp l to mo) _ _ _ ht hb _ _ (by dsimp only [St.put]; omega) (by dsimp only [St.put]; omega) zG) (fun y2 => ?_))
  try dsimp only [St.put]
  refine ae rfl (bp rfl ?_)
  try dsimp only [St.put]
  refine ae rfl (ay rfl rfl rfl zG rfl rfl (by rfl) ?_)
  refine yN ?_
  dsimp only [St.put]
  rw [hL]
  refine K6 _ ?_
  refine yS fun _ K7 => ?_
  refine yS fun _ K8 => ?_
  refine yR ?_
  refine aa rfl (ge rfl rfl) ?_
  try dsimp only [St.put]
  refine af rfl (dd rfl rfl zG trivial (by first | rfl | assumption)) ?_
  refine aa rfl (oq rfl rfl) ?_
  refine aa rfl (gz rfl rfl rfl) ?_
  refine yN ?_
  dsimp only [St.put]
  refine K8 _ ?_
  refine al rfl (fun hc => ?_) (fun hc => ?_)
  ·have hbig : 12 < L.length := by have := of_decide_eq_true hc; omega
   have her : iy L = 9 := by simp [iy, hbig]
   have hed : ci e 9 L = ⟨0, []⟩ := rfl
   refine yS fun _ K9 => ?_
   refine yR ?_
   refine aa rfl (du rfl rfl) ?_
   try dsimp only [St.put]
   refine ae rfl (ay rfl rfl rfl zG rfl rfl (by rfl) ?_)
   refine yA rfl rfl ?_
   refine yN ?_
   dsimp only [St.put]
   refine K9 _ ?_
   refine ld nx 1 _ _ 48 5 zG rfl (by decide) ?_
   dsimp only [List.set_cons_zero, List.set_cons_succ]
   refine am ?_
   refine ⟨(nx + 7, 0), by (dsimp only; omega), ?_⟩
   rw [her, hed]
   refine dv rfl (et rfl zG (by rfl) (by first | exact List.cons_ne_nil _ _ | (simp; done) | (simp [putAt]; done)) rfl) (cj (by constructor)) zN zX ?_ ?_
   ·exact zW
   exact zW
  have hbig : ¬ 12 < L.length := by have := of_decide_eq_false hc; omega
  have her : iy L = 0 := by simp [iy, hbig]
  have hed : ci e 0 L = ⟨e.id, L⟩ := rfl
  refine aw ?_
  refine K7 _ ?_
  refine yS fun _ K10 => ?_
  refine yR ?_
  try dsimp only [St.put]
  refine af rfl (dc rfl rfl zG trivial (by rfl)) ?_
  try dsimp only [St.put]
  refine ae rfl (ay rfl rfl rfl zG rfl rfl (by rfl) ?_)
  refine yA rfl rfl ?_
  refine yN ?_
  dsimp only [St.put]
  refine K10 _ ?_
  refine am ?_
  refine ⟨(nx + 5, y2), by (dsimp only; omega), ?_⟩
  rw [her, hed]
  refine dv rfl (et rfl zG (by rfl) (by first | exact List.cons_ne_nil _ _ | (simp; done) | (simp [putAt]; done)) rfl) (cj (by constructor)) zN zX ?_ ?_
  ·exact zW
  exact zW
 obtain ⟨v, hfv, rfl⟩ := ucu hym
 rw [ug5 hyd] at hfv
 have hvb := hv1 y v hfv
 refine yX rfl rfl rfl rfl ?_
 refine yN ?_
 dsimp only [St.put]
 refine K4 _ ?_
 refine yS fun _ K11 => ?_
 refine al rfl (fun _ => ?_) (fun h => by cases h)
 refine aw ?_
 refine K11 _ ?_
 refine bn ?_
 refine yS fun _ K12 => ?_
 refine yR ?_
 try dsimp only [St.put]
 refine af rfl (uw (fx := nx + 1 + 1) (n := n) rfl rfl zG trivial zG zG trivial (by assumption)) ?_
 refine yX rfl rfl rfl rfl ?_
 refine yX rfl rfl rfl rfl ?_
 try dsimp only [St.put]
 refine ae rfl (bp rfl ?_)
 try dsimp only [St.put]
 refine ae rfl (bp rfl ?_)
 try dsimp only [St.put]
 refine ae rfl (ay rfl rfl rfl zG rfl rfl (by rfl) ?_)
 try dsimp only [St.put]
 refine ae rfl (ay rfl rfl rfl zG rfl rfl (by rfl) ?_)
 refine yN ?_
 dsimp only [St.put]
 refine K12 _ ?_
 refine dg (i := 12) rfl zG (by first | exact List.cons_ne_nil _ _ | (simp; done) | (simp [putAt]; done)) ?_
 refine dg (i := 13) rfl zG (by first | exact List.cons_ne_nil _ _ | (simp; done) | (simp [putAt]; done)) ?_
 dsimp only
 refine yS fun _ K13 => ?_
 refine yR ?_
 try dsimp only [St.put]
 refine aa rfl (fb (k := 0) rfl rfl rfl (by first | exact rfl | omega) (by first | decide | omega) rfl) ?_
 refine yL rfl rfl rfl ?_
 refine yM rfl rfl ?_
 refine aa rfl (g3 rfl rfl rfl) ?_
 refine e7 (fun hs => ?_) (fun hs => ?_)
 ·have h43 := of_decide_eq_true hs
  refine yM rfl rfl ?_
  try dsimp only [St.put]
  refine aa rfl (fb (k := 1) rfl rfl rfl (by first | exact rfl | omega) (by first | decide | omega) rfl) ?_
  refine yL rfl rfl rfl ?_
  refine yM rfl rfl ?_
  refine aa rfl (m9 rfl rfl rfl) ?_
  refine aa rfl (bg rfl rfl (by constructor)) ?_
  refine yN ?_
  dsimp only [St.put]
  refine K13 _ ?_
  refine al rfl (fun hc => ?_) (fun hc => ?_)
  ·have hmv1 : fh f cp l to mo y = some (to, v.2 + mo) := by
    have := of_decide_eq_true hc
    simp [fh, hfv, ot, h43, this]
   refine yS fun _ K14 => ?_
   refine gj [(0, none), (1, none), (2, none), (3, none), (4, none), (5, none)] (fun i => [5].contains i) (fun i => [5].contains i) (fun i => [0, 1, 2].contains i) [] (by kernel_rfl) (by kernel_rfl) ?_
   refine xM rfl rfl rfl rfl rfl ?_
   refine ah rfl rfl rfl rfl (iq rfl rfl) ?_
   refine ah rfl rfl rfl rfl (b9 rfl rfl rfl) ?_
   try dsimp only [St.put]
   refine aj rfl rfl rfl rfl (a7 rfl rfl) ?_
   try dsimp only [St.put]
   refine aj rfl rfl rfl rfl (aq rfl rfl rfl) ?_
   refine il ?_
   try dsimp only [St.put]
   refine gn rfl rfl rfl rfl (uj2 v rfl rfl zG rfl (uls b2 v) ?_)
   refine ij ?_
   dsimp only [St.put]
   refine K14 _ ?_
   refine gj [(0, none), (1, none), (2, none), (3, none), (4, none), (5, none), (6, none), (7, none), (8, none), (9, none), (10, none), (11, none)] (fun i => [11].contains i) (fun i => [11].contains i) (fun i => [0, 1, 2, 5, 6, 8, 9, 10].contains i) [] (by kernel_rfl) (by kernel_rfl) ?_
   refine xM rfl rfl rfl rfl rfl ?_
   refine ah rfl rfl rfl rfl (iq rfl rfl) ?_
   refine ah rfl rfl rfl rfl (b9 rfl rfl rfl) ?_
   try dsimp only [St.put]
   refine aj rfl rfl rfl rfl (a7 rfl rfl) ?_
   try dsimp only [St.put]
   refine aj rfl rfl rfl rfl (aq rfl rfl rfl) ?_
   refine xM rfl rfl rfl rfl rfl ?_
   try dsimp only [St.put]
   refine ah rfl rfl rfl rfl (fb (k := 1) rfl rfl rfl (by first | exact rfl | omega) (by first | decide | omega) rfl) ?_
   try dsimp only [St.put]
   refine aj rfl rfl rfl rfl (a7 rfl rfl) ?_
   refine xM rfl rfl rfl rfl rfl ?_
   refine ah rfl rfl rfl rfl (bw rfl rfl rfl (by omega)) ?_
   refine ah rfl rfl rfl rfl (ir rfl rfl) ?_
   refine il ?_
   try dsimp only [St.put]
   refine gn rfl rfl rfl rfl (ujz y (by rw [hym]; simp) rfl rfl rfl zG rfl (ug4 hmv1) ?_)
   refine ij ?_
   dsimp only [St.put]
   first
    | (exact ⟨(done ++ [y], wi + 1, V2 + 1, W2 + 1, _), lj hyk hyd, by (intro z hz; rcases List.mem_append.1 hz with hz | hz; exact hI z hz; rw [List.mem_singleton] at hz; exact hz ▸ hyk), ⟨⟨rfl, rfl⟩, zF, zB, zN, zX⟩⟩)
    | (rw [← vn hyd hmv0]; exact ⟨(done ++ [y], wi + 1, V2, W2, b2), lj hyk hyd, by (intro z hz; rcases List.mem_append.1 hz with hz | hz; exact hI z hz; rw [List.mem_singleton] at hz; exact hz ▸ hyk), ⟨⟨rfl, rfl⟩, zF, zB, zN, zX⟩⟩)
  have hmv0 : fh f cp l to mo y = f y := by
   first
   | (have := of_decide_eq_false hc; simp [fh, hfv, ot, this]; done)
   | (simp [fh, hfv, ot, h43]; done)
  refine aw ?_
  first
   | (exact ⟨(done ++ [y], wi + 1, V2 + 1, W2 + 1, _), lj hyk hyd, by (intro z hz; rcases List.mem_append.1 hz with hz | hz; exact hI z hz; rw [List.mem_singleton] at hz; exact hz ▸ hyk), ⟨⟨rfl, rfl⟩, zF, zB, zN, zX⟩⟩)
   | (rw [← vn hyd hmv0]; exact ⟨(done ++ [y], wi + 1, V2, W2, b2), lj hyk hyd, by (intro z hz; rcases List.mem_append.1 hz with hz | hz; exact hI z hz; rw [List.mem_singleton] at hz; exact hz ▸ hyk), ⟨⟨rfl, rfl⟩, zF, zB, zN, zX⟩⟩)
 have h43 := of_decide_eq_false hs
 refine yM rfl rfl ?_
 refine yK rfl ?_
 refine yK rfl ?_
 refine yK rfl ?_
 refine yK rfl ?_
 refine aa rfl (cd rfl rfl (by constructor)) ?_
 refine yN ?_
 dsimp only [St.put]
 refine K13 _ ?_
 refine al rfl (fun h => by cases h) (fun _ => ?_)
 have hmv0 : fh f cp l to mo y = f y := by
  first
  | (have := of_decide_eq_false hc; simp [fh, hfv, ot, this]; done)
  | (simp [fh, hfv, ot, h43]; done)
 refine aw ?_
 first
  | (exact ⟨(done ++ [y], wi + 1, V2 + 1, W2 + 1, _), lj hyk hyd, by (intro z hz; rcases List.mem_append.1 hz with hz | hz; exact hI z hz; rw [List.mem_singleton] at hz; exact hz ▸ hyk), ⟨⟨rfl, rfl⟩, zF, zB, zN, zX⟩⟩)
  | (rw [← vn hyd hmv0]; exact ⟨(done ++ [y], wi + 1, V2, W2, b2), lj hyk hyd, by (intro z hz; rcases List.mem_append.1 hz with hz | hz; exact hI z hz; rw [List.mem_singleton] at hz; exact hz ▸ hyk), ⟨⟨rfl, rfl⟩, zF, zB, zN, zX⟩⟩)
theorem ue3 (t : ai) (e : av) (cp l to : Int) (hl : e.ss.length ≤ 20) (h : bz t e ≠ 0) (G : Nat → Option GObj) (nx : Nat) (hF : G 0 = some cv) :
  PC Tryz.prog 31 [b8 t, val e, .v (.int .i64 cp), .v (.int .i64 l), .v (.int .i64 to)] G nx fun r' G' nx' => ∃ y : Nat × Nat, nx ≤ y.1 ∧ r' = (.tup [.agg [.v (.int .i64 (ci e (eh t e cp l to) (fm t e cp l to)).id), .own y.1 (ci e (eh t e cp l to) (fm t e cp l to)).ss.length (ci e (eh t e cp l to) (fm t e cp l to)).ss.length], .v (.int .i64 (eh t e cp l to))]) ∧ G' = (ak G y.1 (.arr (ci e (eh t e cp l to) (fm t e cp l to)).ss.length y.2 48 5 (ci e (eh t e cp l to) (fm t e cp l to)).ss.length (co (ci e (eh t e cp l to) (fm t e cp l to)).ss))) ∧ nx' = y.1 + 1 := by
 have hE : eh t e cp l to = bz t e := by simp [eh, h]
 have hD : ci e (bz t e) (fm t e cp l to) = ⟨0, []⟩ := by simp [ci, h]
 rw [hE, hD]
 refine qw (fun y : Nat × Nat => (.tup [.agg [.v (.int .i64 ((⟨0, []⟩ : av)).id), .own y.1 ((⟨0, []⟩ : av)).ss.length ((⟨0, []⟩ : av)).ss.length], .v (.int .i64 (bz t e))])) (fun y => (ak G y.1 (.arr ((⟨0, []⟩ : av)).ss.length y.2 48 5 ((⟨0, []⟩ : av)).ss.length (co ((⟨0, []⟩ : av)).ss)))) (fun y => y.1 + 1) (fun y => nx ≤ y.1) Tryz.func31 rfl (fun y hS => .tup (ar (.agg (ar .v (ar (.own (Nat.lt_succ_self _)) bl))) (ar .v bl))) (fun y hS => zN) (fun hlt y hS => (by (repeat' (refine gt ?_ (by (try dsimp only); omega) ?_)); all_goals (first | exact ie zS | (repeat' (first | exact trivial | refine ⟨?_, ?_⟩ | exact .v | exact .any | refine .elem ?_ | exact bh _ _ | exact e9 _ _ | exact dq _ _ | exact ff _ (by (try dsimp only); omega) | exact .box (by (try dsimp only); omega) | exact ed | exact bl | exact ez _ | refine fa ?_ ?_ | exact .arr (by (try dsimp only); omega) | exact .own (by (try dsimp only); omega) | exact .map (by (try dsimp only); omega) | exact ez _ | refine ar ?_ ?_ | exact bh _ _))))) ?_
 simp only [Tryz.ntmps31, List.length_cons, List.length_nil, Nat.reduceAdd, Nat.reduceSub]
 refine bi fun hlt => ?_
 dsimp only at hlt
 have hnx := hlt 0 _ hF
 refine yS fun _ K1 => ?_
 refine yR ?_
 try dsimp only [St.put]
 refine yB rfl rfl rfl ?_
 try dsimp only [St.put]
 refine yB rfl rfl rfl ?_
 try dsimp only [St.put]
 refine ae rfl (bp rfl ?_)
 refine yA rfl rfl ?_
 refine yN ?_
 dsimp only [St.put]
 refine K1 _ ?_
 refine yS fun _ K2 => ?_
 refine yR ?_
 try dsimp only [St.put]
 refine af rfl (aq rfl rfl rfl) ?_
 refine yE rfl rfl rfl ?_
 try dsimp only [St.put]
 refine ae rfl (c9 rfl rfl rfl (by decide) (by decide) zR (by decide) ?_)
 try dsimp only [St.put]
 refine ae rfl (eb rfl rfl rfl (qr t e hl h) zG ?_)
 refine yM rfl rfl ?_
 refine yX rfl rfl rfl rfl ?_
 refine yX rfl rfl rfl rfl ?_
 refine yA rfl rfl ?_
 refine yA rfl rfl ?_
 refine yN ?_
 dsimp only [St.put]
 refine K2 _ ?_
 refine yS fun _ K3 => ?_
 refine yS fun _ K4 => ?_
 refine yR ?_
 refine yM rfl rfl ?_
 refine aa rfl (bt (c := true) (dt rfl rfl rfl) (kh h)) ?_
 refine yN ?_
 dsimp only [St.put]
 refine K4 _ ?_
 refine al rfl (fun _ => ?_) (fun h => by cases h)
 refine yS fun _ K5 => ?_
 refine yR ?_
 refine aa rfl (du rfl rfl) ?_
 refine yM rfl rfl ?_
 try dsimp only [St.put]
 refine ae rfl (ay rfl rfl rfl zG rfl rfl (by rfl) ?_)
 refine yA rfl rfl ?_
 refine yN ?_
 dsimp only [St.put]
 refine K5 _ ?_
 refine ld nx 1 _ _ 48 5 zG rfl (by decide) ?_
 dsimp only [List.set_cons_zero, List.set_cons_succ]
 refine am ?_
 refine ⟨(nx + 1, 0), by (dsimp only; omega), ?_⟩
 refine dv rfl (et rfl zG (by rfl) (by first | exact List.cons_ne_nil _ _ | (simp; done) | (simp [putAt]; done)) rfl) (cj (by constructor)) zN zX ?_ ?_
 ·exact zW
 exact zW
theorem ue2 (t : ai) (e : av) (cp l to : Int) (hl : e.ss.length ≤ 20) (h : bz t e = 0) (G : Nat → Option GObj) (nx : Nat) (hF : G 0 = some cv) :
  PC Tryz.prog 31 [b8 t, val e, .v (.int .i64 cp), .v (.int .i64 l), .v (.int .i64 to)] G nx fun r' G' nx' => ∃ y : Nat × Nat, nx ≤ y.1 ∧ r' = (.tup [.agg [.v (.int .i64 (ci e (eh t e cp l to) (fm t e cp l to)).id), .own y.1 (ci e (eh t e cp l to) (fm t e cp l to)).ss.length (ci e (eh t e cp l to) (fm t e cp l to)).ss.length], .v (.int .i64 (eh t e cp l to))]) ∧ G' = (ak G y.1 (.arr (ci e (eh t e cp l to) (fm t e cp l to)).ss.length y.2 48 5 (ci e (eh t e cp l to) (fm t e cp l to)).ss.length (co (ci e (eh t e cp l to) (fm t e cp l to)).ss))) ∧ nx' = y.1 + 1 := by
 refine qw (fun y : Nat × Nat => (.tup [.agg [.v (.int .i64 (ci e (eh t e cp l to) (fm t e cp l to)).id), .own y.1 (ci e (eh t e cp l to) (fm t e cp l to)).ss.length (ci e (eh t e cp l to) (fm t e cp l to)).ss.length], .v (.int .i64 (eh t e cp l to))])) (fun y => (ak G y.1 (.arr (ci e (eh t e cp l to) (fm t e cp l to)).ss.length y.2 48 5 (ci e (eh t e cp l to) (fm t e cp l to)).ss.length (co (ci e (eh t e cp l to) (fm t e cp l to)).ss)))) (fun y => y.1 + 1) (fun y => nx ≤ y.1) Tryz.func31 rfl (fun y hS => .tup (ar (.agg (ar .v (ar (.own (Nat.lt_succ_self _)) bl))) (ar .v bl))) (fun y hS => zN) (fun hlt y hS => (by (repeat' (refine gt ?_ (by (try dsimp only); omega) ?_)); all_goals (first | exact ie zS | (repeat' (first | exact trivial | refine ⟨?_, ?_⟩ | exact .v | exact .any | refine .elem ?_ | exact bh _ _ | exact e9 _ _ | exact dq _ _ | exact ff _ (by (try dsimp only); omega) | exact .box (by (try dsimp only); omega) | exact ed | exact bl | exact ez _ | refine fa ?_ ?_ | exact .arr (by (try dsimp only); omega) | exact .own (by (try dsimp only); omega) | exact .map (by (try dsimp only); omega) | exact ez _ | refine ar ?_ ?_ | exact bh _ _))))) ?_
 simp only [Tryz.ntmps31, List.length_cons, List.length_nil, Nat.reduceAdd, Nat.reduceSub]
 refine bi fun hlt => ?_
 dsimp only at hlt
 have hnx := hlt 0 _ hF
 have hS := mn h
 obtain ⟨ht, hl12, he⟩ := kq (lg h).1
 have hbo : ∀ p v, ax e.ss p = some v → -100000 ≤ v.2 ∧ v.2 ≤ 100000 := fun p v hv => by
  have := l3 he hv
  omega
 refine yS fun _ K1 => ?_
 refine yR ?_
 try dsimp only [St.put]
 refine yB rfl rfl rfl ?_
 try dsimp only [St.put]
 refine yB rfl rfl rfl ?_
 try dsimp only [St.put]
 refine ae rfl (bp rfl ?_)
 refine yA rfl rfl ?_
 refine yN ?_
 dsimp only [St.put]
 refine K1 _ ?_
 refine yS fun _ K2 => ?_
 refine yR ?_
 try dsimp only [St.put]
 refine af rfl (aq rfl rfl rfl) ?_
 refine yE rfl rfl rfl ?_
 try dsimp only [St.put]
 refine ae rfl (c9 rfl rfl rfl (by decide) (by decide) zR (by decide) ?_)
 try dsimp only [St.put]
 refine ae rfl (i0 rfl rfl rfl (pp t e hl h _ _ zG) (fun y => ?_))
 refine yM rfl rfl ?_
 refine yX rfl rfl rfl rfl ?_
 refine yX rfl rfl rfl rfl ?_
 refine yA rfl rfl ?_
 refine yA rfl rfl ?_
 refine yN ?_
 dsimp only [St.put]
 refine K2 _ ?_
 refine yS fun _ K3 => ?_
 refine yS fun _ K4 => ?_
 refine yR ?_
 refine yM rfl rfl ?_
 refine aa rfl (bt (c := false) (dt rfl rfl rfl) (by rfl)) ?_
 refine yN ?_
 dsimp only [St.put]
 refine K4 _ ?_
 refine al rfl (fun h => by cases h) (fun _ => ?_)
 refine aw ?_
 refine K3 _ ?_
 refine yS fun _ K5 => ?_
 refine yR ?_
 refine yM rfl rfl ?_
 try dsimp only [St.put]
 refine aa rfl (b7 (k := 0) rfl rfl rfl (by first | rfl | omega) rfl rfl) ?_
 refine yL rfl rfl rfl ?_
 refine yA rfl rfl ?_
 refine yN ?_
 dsimp only [St.put]
 refine K5 _ ?_
 refine yS fun _ K6 => ?_
 refine bn ?_
 refine yS fun _ K7 => ?_
 refine yR ?_
 refine yM rfl rfl ?_
 refine yM rfl rfl ?_
 refine yM rfl rfl ?_
 try dsimp only [St.put]
 refine ae rfl (c9 rfl rfl rfl (by decide) (by decide) zR (by decide) ?_)
 try dsimp only [St.put]
 refine ae rfl (bd rfl rfl rfl (nq 1 999 [cp, l, to]) ?_)
 refine aa rfl (dn rfl rfl) ?_
 refine yA rfl rfl ?_
 refine yN ?_
 dsimp only [St.put]
 refine K7 _ ?_
 refine al rfl (fun hc => ?_) (fun hc => ?_)
 ·have hin : jp 1 999 [cp, l, to] = false := by simpa using hc
  have hE : eh t e cp l to = 2 := by simp [eh, h, hin]
  refine yS fun _ K8 => ?_
  refine yR ?_
  refine aa rfl (du rfl rfl) ?_
  try dsimp only [St.put]
  refine ae rfl (ay rfl rfl rfl zG rfl rfl (by rfl) ?_)
  refine yA rfl rfl ?_
  refine yN ?_
  dsimp only [St.put]
  refine K8 _ ?_
  refine ld nx 1 _ _ 48 5 zG rfl (by decide) ?_
  dsimp only [List.set_cons_zero, List.set_cons_succ]
  refine am ?_
  refine ⟨(nx + 5, 0), by (dsimp only; omega), ?_⟩
  rw [hE, show ci e 2 (fm t e cp l to) = ⟨0, []⟩ from rfl]
  refine dv rfl (et rfl zG (by rfl) (by first | exact List.cons_ne_nil _ _ | (simp; done) | (simp [putAt]; done)) rfl) (cj (by constructor)) zN zX ?_ ?_
  ·exact zW
  exact zW
 have hin : jp 1 999 [cp, l, to] = true := by simpa using hc
 have hin' := hin
 simp only [uil, Bool.and_eq_true, inB_true] at hin'
 refine yS fun _ K9 => ?_
 refine yR ?_
 refine yM rfl rfl ?_
 refine yM rfl rfl ?_
 try dsimp only [St.put]
 refine ae rfl (f8 rfl rfl rfl (qh t e _ _ _ cp hS _ _ (by dsimp only [St.put]; omega) (by dsimp only [St.put]; omega) zG) ?_)
 refine yM rfl rfl ?_
 refine aa rfl (cr rfl rfl rfl) ?_
 refine yA rfl rfl ?_
 refine yN ?_
 dsimp only [St.put]
 refine K9 _ ?_
 refine al rfl (fun hc => ?_) (fun hc => ?_)
 ·have hE : eh t e cp l to = 6 := by
   have := of_decide_eq_true hc
   simp [eh, h, hin, this]
  refine yS fun _ K10 => ?_
  refine yR ?_
  refine aa rfl (du rfl rfl) ?_
  try dsimp only [St.put]
  refine ae rfl (ay rfl rfl rfl zG rfl rfl (by rfl) ?_)
  refine yA rfl rfl ?_
  refine yN ?_
  dsimp only [St.put]
  refine K10 _ ?_
  refine ld nx 1 _ _ 48 5 zG rfl (by decide) ?_
  dsimp only [List.set_cons_zero, List.set_cons_succ]
  refine am ?_
  refine ⟨(nx + 5, 0), by (dsimp only; omega), ?_⟩
  rw [hE, show ci e 6 (fm t e cp l to) = ⟨0, []⟩ from rfl]
  refine dv rfl (et rfl zG (by rfl) (by first | exact List.cons_ne_nil _ _ | (simp; done) | (simp [putAt]; done)) rfl) (cj (by constructor)) zN zX ?_ ?_
  ·exact zW
  exact zW
 have hlt6 := of_decide_eq_false hc
 refine yS fun _ K11 => ?_
 refine yR ?_
 refine yM rfl rfl ?_
 refine yM rfl rfl ?_
 refine aa rfl (g3 rfl rfl rfl) ?_
 refine e7 (fun hs => ?_) (fun hs => ?_)
 ·have h92 := of_decide_eq_true hs
  refine yM rfl rfl ?_
  refine yK rfl ?_
  refine yK rfl ?_
  refine yK rfl ?_
  refine yK rfl ?_
  refine aa rfl (bg rfl rfl (by constructor)) ?_
  refine yA rfl rfl ?_
  refine yN ?_
  dsimp only [St.put]
  refine K11 _ ?_
  refine al rfl (fun _ => ?_) (fun h => by cases h)
  have hfull : (decide (cp = to) || decide (0 < i4 t e.ss to)) = true := by
   (simp [h92]; done)
  have hE : eh t e cp l to = 9 := by simp only [eh, h, hin, hlt6, hfull, decide_true, decide_false, cond_true, cond_false]
  refine yS fun _ K12 => ?_
  refine yR ?_
  refine aa rfl (du rfl rfl) ?_
  try dsimp only [St.put]
  refine ae rfl (ay rfl rfl rfl zG rfl rfl (by rfl) ?_)
  refine yA rfl rfl ?_
  refine yN ?_
  dsimp only [St.put]
  refine K12 _ ?_
  refine ld nx 1 _ _ 48 5 zG rfl (by decide) ?_
  dsimp only [List.set_cons_zero, List.set_cons_succ]
  refine am ?_
  refine ⟨(nx + 5, 0), by (dsimp only; omega), ?_⟩
  rw [hE, show ci e 9 (fm t e cp l to) = ⟨0, []⟩ from rfl]
  refine dv rfl (et rfl zG (by rfl) (by first | exact List.cons_ne_nil _ _ | (simp; done) | (simp [putAt]; done)) rfl) (cj (by constructor)) zN zX ?_ ?_
  ·exact zW
  exact zW
 have h92 := of_decide_eq_false hs
 refine yM rfl rfl ?_
 refine yM rfl rfl ?_
 refine yM rfl rfl ?_
 try dsimp only [St.put]
 refine ae rfl (f8 rfl rfl rfl (qh t e _ _ _ to hS _ _ (by dsimp only [St.put]; omega) (by dsimp only [St.put]; omega) zG) ?_)
 refine aa rfl (gz rfl rfl rfl) ?_
 refine aa rfl (cd rfl rfl (by constructor)) ?_
 refine yA rfl rfl ?_
 refine yN ?_
 dsimp only [St.put]
 refine K11 _ ?_
 refine al rfl (fun hc => ?_) (fun hc => ?_)
 ·have hfull : (decide (cp = to) || decide (0 < i4 t e.ss to)) = true := by
   (have := of_decide_eq_true hc; simp [this]; done)
  have hE : eh t e cp l to = 9 := by simp only [eh, h, hin, hlt6, hfull, decide_true, decide_false, cond_true, cond_false]
  refine yS fun _ K13 => ?_
  refine yR ?_
  refine aa rfl (du rfl rfl) ?_
  try dsimp only [St.put]
  refine ae rfl (ay rfl rfl rfl zG rfl rfl (by rfl) ?_)
  refine yA rfl rfl ?_
  refine yN ?_
  dsimp only [St.put]
  refine K13 _ ?_
  refine ld nx 1 _ _ 48 5 zG rfl (by decide) ?_
  dsimp only [List.set_cons_zero, List.set_cons_succ]
  refine am ?_
  refine ⟨(nx + 5, 0), by (dsimp only; omega), ?_⟩
  rw [hE, show ci e 9 (fm t e cp l to) = ⟨0, []⟩ from rfl]
  refine dv rfl (et rfl zG (by rfl) (by first | exact List.cons_ne_nil _ _ | (simp; done) | (simp [putAt]; done)) rfl) (cj (by constructor)) zN zX ?_ ?_
  ·exact zW
  exact zW
 have hfull : (decide (cp = to) || decide (0 < i4 t e.ss to)) = false := by
  have := of_decide_eq_false hc
  simp [h92, this]
 have hE : eh t e cp l to = iy (fm t e cp l to) := by
  simp only [eh, h, hin, hlt6, hfull, decide_true, decide_false, cond_true, cond_false]
 refine aw ?_
 refine K6 _ ?_
 refine yS fun _ K14 => ?_
 refine yR ?_
 refine yM rfl rfl ?_
 refine yM rfl rfl ?_
 refine yM rfl rfl ?_
 refine yM rfl rfl ?_
 refine yM rfl rfl ?_
 refine aa rfl (ip rfl rfl rfl (by omega)) ?_
 try dsimp only [St.put]
 refine ae rfl (ub6 rfl rfl rfl (uae t e _ _ _ _ cp l to (1 - l) (ax e.ss) (cn e.ss) ht (uaf he (by omega)) hbo (by omega) _ _ (by dsimp only [St.put]; omega) (by dsimp only [St.put]; omega) (by omega) zG zG) (fun y3 hy3 => ?_))
 dsimp only [St.put] at hy3
 refine yX rfl rfl rfl rfl ?_
 refine yX rfl rfl rfl rfl ?_
 try dsimp only [St.put]
 refine ae rfl (ay rfl rfl rfl zG rfl rfl (by rfl) ?_)
 refine yA rfl rfl ?_
 refine yN ?_
 dsimp only [St.put]
 rw [show gd (fh (ax e.ss) cp l to (1 - l)) (d9 t) = fm t e cp l to from rfl]
 refine K14 _ ?_
 refine am ?_
 refine ⟨(y3.1, y3.2), by (dsimp only; omega), ?_⟩
 rw [hE]
 refine dv rfl (et rfl zG (by rfl) (by first | exact List.cons_ne_nil _ _ | (simp; done) | (simp [putAt]; done)) rfl) (cj (by constructor)) zN zX ?_ ?_
 ·exact zW
 exact zW
theorem ue1 (t : ai) (e : av) (cp l to : Int) (hl : e.ss.length ≤ 20) (G : Nat → Option GObj) (nx : Nat) (hF : G 0 = some cv) :
  PC Tryz.prog 31 [b8 t, val e, .v (.int .i64 cp), .v (.int .i64 l), .v (.int .i64 to)] G nx fun r' G' nx' => ∃ y : Nat × Nat, nx ≤ y.1 ∧ r' = (.tup [.agg [.v (.int .i64 (ci e (eh t e cp l to) (fm t e cp l to)).id), .own y.1 (ci e (eh t e cp l to) (fm t e cp l to)).ss.length (ci e (eh t e cp l to) (fm t e cp l to)).ss.length], .v (.int .i64 (eh t e cp l to))]) ∧ G' = (ak G y.1 (.arr (ci e (eh t e cp l to) (fm t e cp l to)).ss.length y.2 48 5 (ci e (eh t e cp l to) (fm t e cp l to)).ss.length (co (ci e (eh t e cp l to) (fm t e cp l to)).ss))) ∧ nx' = y.1 + 1 := by
 by_cases h : bz t e = 0
 ·exact ue2 t e cp l to hl h G nx hF
 exact ue3 t e cp l to hl h G nx hF
theorem uh9 (t : ai) (e : av) (cp to : Int) (hl : e.ss.length ≤ 20) (h : bz t e ≠ 0) (G : Nat → Option GObj) (nx : Nat) (hF : G 0 = some cv) :
  PC Tryz.prog 27 [b8 t, val e, .v (.int .i64 cp), .v (.int .i64 to)] G nx fun r' G' nx' => ∃ y : Nat × Nat, nx ≤ y.1 ∧ r' = (.tup [.agg [.v (.int .i64 (ci e (el t e cp to) (fo t e cp to)).id), .own y.1 (ci e (el t e cp to) (fo t e cp to)).ss.length (ci e (el t e cp to) (fo t e cp to)).ss.length], .v (.int .i64 (el t e cp to))]) ∧ G' = (ak G y.1 (.arr (ci e (el t e cp to) (fo t e cp to)).ss.length y.2 48 5 (ci e (el t e cp to) (fo t e cp to)).ss.length (co (ci e (el t e cp to) (fo t e cp to)).ss))) ∧ nx' = y.1 + 1 := by
 have hE : el t e cp to = bz t e := by simp [el, h]
 have hD : ci e (bz t e) (fo t e cp to) = ⟨0, []⟩ := by simp [ci, h]
 rw [hE, hD]
 refine qw (fun y : Nat × Nat => (.tup [.agg [.v (.int .i64 ((⟨0, []⟩ : av)).id), .own y.1 ((⟨0, []⟩ : av)).ss.length ((⟨0, []⟩ : av)).ss.length], .v (.int .i64 (bz t e))])) (fun y => (ak G y.1 (.arr ((⟨0, []⟩ : av)).ss.length y.2 48 5 ((⟨0, []⟩ : av)).ss.length (co ((⟨0, []⟩ : av)).ss)))) (fun y => y.1 + 1) (fun y => nx ≤ y.1) Tryz.func27 rfl (fun y hS => .tup (ar (.agg (ar .v (ar (.own (Nat.lt_succ_self _)) bl))) (ar .v bl))) (fun y hS => zN) (fun hlt y hS => (by (repeat' (refine gt ?_ (by (try dsimp only); omega) ?_)); all_goals (first | exact ie zS | (repeat' (first | exact trivial | refine ⟨?_, ?_⟩ | exact .v | exact .any | refine .elem ?_ | exact bh _ _ | exact e9 _ _ | exact dq _ _ | exact ff _ (by (try dsimp only); omega) | exact .box (by (try dsimp only); omega) | exact ed | exact bl | exact ez _ | refine fa ?_ ?_ | exact .arr (by (try dsimp only); omega) | exact .own (by (try dsimp only); omega) | exact .map (by (try dsimp only); omega) | exact ez _ | refine ar ?_ ?_ | exact bh _ _))))) ?_
 simp only [Tryz.ntmps27, List.length_cons, List.length_nil, Nat.reduceAdd, Nat.reduceSub]
 refine bi fun hlt => ?_
 dsimp only at hlt
 have hnx := hlt 0 _ hF
 refine yS fun _ K1 => ?_
 refine yR ?_
 try dsimp only [St.put]
 refine yB rfl rfl rfl ?_
 try dsimp only [St.put]
 refine yB rfl rfl rfl ?_
 try dsimp only [St.put]
 refine ae rfl (bp rfl ?_)
 refine yA rfl rfl ?_
 refine yN ?_
 dsimp only [St.put]
 refine K1 _ ?_
 refine yS fun _ K2 => ?_
 refine yR ?_
 try dsimp only [St.put]
 refine af rfl (aq rfl rfl rfl) ?_
 refine yE rfl rfl rfl ?_
 try dsimp only [St.put]
 refine ae rfl (c9 rfl rfl rfl (by decide) (by decide) zR (by decide) ?_)
 try dsimp only [St.put]
 refine ae rfl (eb rfl rfl rfl (qr t e hl h) zG ?_)
 refine yM rfl rfl ?_
 refine yX rfl rfl rfl rfl ?_
 refine yX rfl rfl rfl rfl ?_
 refine yA rfl rfl ?_
 refine yA rfl rfl ?_
 refine yN ?_
 dsimp only [St.put]
 refine K2 _ ?_
 refine yS fun _ K3 => ?_
 refine yS fun _ K4 => ?_
 refine yR ?_
 refine yM rfl rfl ?_
 refine aa rfl (bt (c := true) (dt rfl rfl rfl) (kh h)) ?_
 refine yN ?_
 dsimp only [St.put]
 refine K4 _ ?_
 refine al rfl (fun _ => ?_) (fun h => by cases h)
 refine yS fun _ K5 => ?_
 refine yR ?_
 refine aa rfl (du rfl rfl) ?_
 refine yM rfl rfl ?_
 try dsimp only [St.put]
 refine ae rfl (ay rfl rfl rfl zG rfl rfl (by rfl) ?_)
 refine yA rfl rfl ?_
 refine yN ?_
 dsimp only [St.put]
 refine K5 _ ?_
 refine ld nx 1 _ _ 48 5 zG rfl (by decide) ?_
 dsimp only [List.set_cons_zero, List.set_cons_succ]
 refine am ?_
 refine ⟨(nx + 1, 0), by (dsimp only; omega), ?_⟩
 refine dv rfl (et rfl zG (by rfl) (by first | exact List.cons_ne_nil _ _ | (simp; done) | (simp [putAt]; done)) rfl) (cj (by constructor)) zN zX ?_ ?_
 ·exact zW
 exact zW
theorem uh8 (t : ai) (e : av) (cp to : Int) (hl : e.ss.length ≤ 20) (h : bz t e = 0) (G : Nat → Option GObj) (nx : Nat) (hF : G 0 = some cv) :
  PC Tryz.prog 27 [b8 t, val e, .v (.int .i64 cp), .v (.int .i64 to)] G nx fun r' G' nx' => ∃ y : Nat × Nat, nx ≤ y.1 ∧ r' = (.tup [.agg [.v (.int .i64 (ci e (el t e cp to) (fo t e cp to)).id), .own y.1 (ci e (el t e cp to) (fo t e cp to)).ss.length (ci e (el t e cp to) (fo t e cp to)).ss.length], .v (.int .i64 (el t e cp to))]) ∧ G' = (ak G y.1 (.arr (ci e (el t e cp to) (fo t e cp to)).ss.length y.2 48 5 (ci e (el t e cp to) (fo t e cp to)).ss.length (co (ci e (el t e cp to) (fo t e cp to)).ss))) ∧ nx' = y.1 + 1 := by
 refine qw (fun y : Nat × Nat => (.tup [.agg [.v (.int .i64 (ci e (el t e cp to) (fo t e cp to)).id), .own y.1 (ci e (el t e cp to) (fo t e cp to)).ss.length (ci e (el t e cp to) (fo t e cp to)).ss.length], .v (.int .i64 (el t e cp to))])) (fun y => (ak G y.1 (.arr (ci e (el t e cp to) (fo t e cp to)).ss.length y.2 48 5 (ci e (el t e cp to) (fo t e cp to)).ss.length (co (ci e (el t e cp to) (fo t e cp to)).ss)))) (fun y => y.1 + 1) (fun y => nx ≤ y.1) Tryz.func27 rfl (fun y hS => .tup (ar (.agg (ar .v (ar (.own (Nat.lt_succ_self _)) bl))) (ar .v bl))) (fun y hS => zN) (fun hlt y hS => (by (repeat' (refine gt ?_ (by (try dsimp only); omega) ?_)); all_goals (first | exact ie zS | (repeat' (first | exact trivial | refine ⟨?_, ?_⟩ | exact .v | exact .any | refine .elem ?_ | exact bh _ _ | exact e9 _ _ | exact dq _ _ | exact ff _ (by (try dsimp only); omega) | exact .box (by (try dsimp only); omega) | exact ed | exact bl | exact ez _ | refine fa ?_ ?_ | exact .arr (by (try dsimp only); omega) | exact .own (by (try dsimp only); omega) | exact .map (by (try dsimp only); omega) | exact ez _ | refine ar ?_ ?_ | exact bh _ _))))) ?_
 simp only [Tryz.ntmps27, List.length_cons, List.length_nil, Nat.reduceAdd, Nat.reduceSub]
 refine bi fun hlt => ?_
 dsimp only at hlt
 have hnx := hlt 0 _ hF
 have hS := mn h
 obtain ⟨ht, hl12, he⟩ := kq (lg h).1
 have hbo : ∀ p v, ax e.ss p = some v → -100000 ≤ v.2 ∧ v.2 ≤ 100000 := fun p v hv => by
  have := l3 he hv
  omega
 refine yS fun _ K1 => ?_
 refine yR ?_
 try dsimp only [St.put]
 refine yB rfl rfl rfl ?_
 try dsimp only [St.put]
 refine yB rfl rfl rfl ?_
 try dsimp only [St.put]
 refine ae rfl (bp rfl ?_)
 refine yA rfl rfl ?_
 refine yN ?_
 dsimp only [St.put]
 refine K1 _ ?_
 refine yS fun _ K2 => ?_
 refine yR ?_
 try dsimp only [St.put]
 refine af rfl (aq rfl rfl rfl) ?_
 refine yE rfl rfl rfl ?_
 try dsimp only [St.put]
 refine ae rfl (c9 rfl rfl rfl (by decide) (by decide) zR (by decide) ?_)
 try dsimp only [St.put]
 refine ae rfl (i0 rfl rfl rfl (pp t e hl h _ _ zG) (fun y => ?_))
 refine yM rfl rfl ?_
 refine yX rfl rfl rfl rfl ?_
 refine yX rfl rfl rfl rfl ?_
 refine yA rfl rfl ?_
 refine yA rfl rfl ?_
 refine yN ?_
 dsimp only [St.put]
 refine K2 _ ?_
 refine yS fun _ K3 => ?_
 refine yS fun _ K4 => ?_
 refine yR ?_
 refine yM rfl rfl ?_
 refine aa rfl (bt (c := false) (dt rfl rfl rfl) (by rfl)) ?_
 refine yN ?_
 dsimp only [St.put]
 refine K4 _ ?_
 refine al rfl (fun h => by cases h) (fun _ => ?_)
 refine aw ?_
 refine K3 _ ?_
 refine yS fun _ K5 => ?_
 refine yR ?_
 refine yM rfl rfl ?_
 try dsimp only [St.put]
 refine aa rfl (b7 (k := 0) rfl rfl rfl (by first | rfl | omega) rfl rfl) ?_
 refine yL rfl rfl rfl ?_
 refine yA rfl rfl ?_
 refine yN ?_
 dsimp only [St.put]
 refine K5 _ ?_
 refine yS fun _ K6 => ?_
 refine bn ?_
 refine yS fun _ K7 => ?_
 refine yR ?_
 refine yM rfl rfl ?_
 refine yM rfl rfl ?_
 try dsimp only [St.put]
 refine ae rfl (c9 rfl rfl rfl (by decide) (by decide) zR (by decide) ?_)
 try dsimp only [St.put]
 refine ae rfl (bd rfl rfl rfl (nq 1 999 [cp, to]) ?_)
 refine aa rfl (dn rfl rfl) ?_
 refine yA rfl rfl ?_
 refine yN ?_
 dsimp only [St.put]
 refine K7 _ ?_
 refine al rfl (fun hc => ?_) (fun hc => ?_)
 ·have hin : jp 1 999 [cp, to] = false := by simpa using hc
  have hE : el t e cp to = 2 := by simp [el, h, hin]
  refine yS fun _ K8 => ?_
  refine yR ?_
  refine aa rfl (du rfl rfl) ?_
  try dsimp only [St.put]
  refine ae rfl (ay rfl rfl rfl zG rfl rfl (by rfl) ?_)
  refine yA rfl rfl ?_
  refine yN ?_
  dsimp only [St.put]
  refine K8 _ ?_
  refine ld nx 1 _ _ 48 5 zG rfl (by decide) ?_
  dsimp only [List.set_cons_zero, List.set_cons_succ]
  refine am ?_
  refine ⟨(nx + 5, 0), by (dsimp only; omega), ?_⟩
  rw [hE, show ci e 2 (fo t e cp to) = ⟨0, []⟩ from rfl]
  refine dv rfl (et rfl zG (by rfl) (by first | exact List.cons_ne_nil _ _ | (simp; done) | (simp [putAt]; done)) rfl) (cj (by constructor)) zN zX ?_ ?_
  ·exact zW
  exact zW
 have hin : jp 1 999 [cp, to] = true := by simpa using hc
 have hin' := hin
 simp only [wc, Bool.and_eq_true, inB_true] at hin'
 have hl1 := ua0 (t := t) he cp
 have hl2 := ua0 (t := t) he to
 refine yS fun _ K9 => ?_
 refine yR ?_
 refine yM rfl rfl ?_
 refine yM rfl rfl ?_
 try dsimp only [St.put]
 refine ae rfl (f8 rfl rfl rfl (qh t e _ _ _ cp hS _ _ (by dsimp only [St.put]; omega) (by dsimp only [St.put]; omega) zG) ?_)
 refine aa rfl (g3 rfl rfl rfl) ?_
 refine yA rfl rfl ?_
 refine yN ?_
 dsimp only [St.put]
 refine K9 _ ?_
 refine al rfl (fun hc => ?_) (fun hc => ?_)
 ·have hE : el t e cp to = 6 := by
   have := of_decide_eq_true hc
   simp [el, h, hin, this]
  refine yS fun _ K10 => ?_
  refine yR ?_
  refine aa rfl (du rfl rfl) ?_
  try dsimp only [St.put]
  refine ae rfl (ay rfl rfl rfl zG rfl rfl (by rfl) ?_)
  refine yA rfl rfl ?_
  refine yN ?_
  dsimp only [St.put]
  refine K10 _ ?_
  refine ld nx 1 _ _ 48 5 zG rfl (by decide) ?_
  dsimp only [List.set_cons_zero, List.set_cons_succ]
  refine am ?_
  refine ⟨(nx + 5, 0), by (dsimp only; omega), ?_⟩
  rw [hE, show ci e 6 (fo t e cp to) = ⟨0, []⟩ from rfl]
  refine dv rfl (et rfl zG (by rfl) (by first | exact List.cons_ne_nil _ _ | (simp; done) | (simp [putAt]; done)) rfl) (cj (by constructor)) zN zX ?_ ?_
  ·exact zW
  exact zW
 have hlt6 := of_decide_eq_false hc
 refine yS fun _ K11 => ?_
 refine yR ?_
 refine yM rfl rfl ?_
 refine yM rfl rfl ?_
 refine aa rfl (g3 rfl rfl rfl) ?_
 refine e7 (fun hs => ?_) (fun hs => ?_)
 ·have h92 := of_decide_eq_true hs
  refine yM rfl rfl ?_
  refine yK rfl ?_
  refine yK rfl ?_
  refine yK rfl ?_
  refine yK rfl ?_
  refine yK rfl ?_
  refine yK rfl ?_
  refine yK rfl ?_
  refine yK rfl ?_
  refine aa rfl (bg rfl rfl (by constructor)) ?_
  refine yA rfl rfl ?_
  refine yN ?_
  dsimp only [St.put]
  refine K11 _ ?_
  refine al rfl (fun _ => ?_) (fun h => by cases h)
  have hfull : (decide (cp = to) || decide (999 < i4 t e.ss cp + i4 t e.ss to)) = true := by
   (simp [h92]; done)
  have hE : el t e cp to = 9 := by simp only [el, h, hin, hlt6, hfull, decide_true, decide_false, cond_true, cond_false]
  refine yS fun _ K12 => ?_
  refine yR ?_
  refine aa rfl (du rfl rfl) ?_
  try dsimp only [St.put]
  refine ae rfl (ay rfl rfl rfl zG rfl rfl (by rfl) ?_)
  refine yA rfl rfl ?_
  refine yN ?_
  dsimp only [St.put]
  refine K12 _ ?_
  refine ld nx 1 _ _ 48 5 zG rfl (by decide) ?_
  dsimp only [List.set_cons_zero, List.set_cons_succ]
  refine am ?_
  refine ⟨(nx + 5, 0), by (dsimp only; omega), ?_⟩
  rw [hE, show ci e 9 (fo t e cp to) = ⟨0, []⟩ from rfl]
  refine dv rfl (et rfl zG (by rfl) (by first | exact List.cons_ne_nil _ _ | (simp; done) | (simp [putAt]; done)) rfl) (cj (by constructor)) zN zX ?_ ?_
  ·exact zW
  exact zW
 have h92 := of_decide_eq_false hs
 refine yM rfl rfl ?_
 refine yM rfl rfl ?_
 refine yM rfl rfl ?_
 try dsimp only [St.put]
 refine ae rfl (f8 rfl rfl rfl (qh t e _ _ _ cp hS _ _ (by dsimp only [St.put]; omega) (by dsimp only [St.put]; omega) zG) ?_)
 refine yM rfl rfl ?_
 refine yM rfl rfl ?_
 try dsimp only [St.put]
 refine ae rfl (f8 rfl rfl rfl (qh t e _ _ _ to hS _ _ (by dsimp only [St.put]; omega) (by dsimp only [St.put]; omega) zG) ?_)
 refine aa rfl (bw rfl rfl rfl (by omega)) ?_
 refine aa rfl (gz rfl rfl rfl) ?_
 refine aa rfl (cd rfl rfl (by constructor)) ?_
 refine yA rfl rfl ?_
 refine yN ?_
 dsimp only [St.put]
 refine K11 _ ?_
 refine al rfl (fun hc => ?_) (fun hc => ?_)
 ·have hfull : (decide (cp = to) || decide (999 < i4 t e.ss cp + i4 t e.ss to)) = true := by
   (have := of_decide_eq_true hc; simp [this]; done)
  have hE : el t e cp to = 9 := by simp only [el, h, hin, hlt6, hfull, decide_true, decide_false, cond_true, cond_false]
  refine yS fun _ K13 => ?_
  refine yR ?_
  refine aa rfl (du rfl rfl) ?_
  try dsimp only [St.put]
  refine ae rfl (ay rfl rfl rfl zG rfl rfl (by rfl) ?_)
  refine yA rfl rfl ?_
  refine yN ?_
  dsimp only [St.put]
  refine K13 _ ?_
  refine ld nx 1 _ _ 48 5 zG rfl (by decide) ?_
  dsimp only [List.set_cons_zero, List.set_cons_succ]
  refine am ?_
  refine ⟨(nx + 5, 0), by (dsimp only; omega), ?_⟩
  rw [hE, show ci e 9 (fo t e cp to) = ⟨0, []⟩ from rfl]
  refine dv rfl (et rfl zG (by rfl) (by first | exact List.cons_ne_nil _ _ | (simp; done) | (simp [putAt]; done)) rfl) (cj (by constructor)) zN zX ?_ ?_
  ·exact zW
  exact zW
 have hfull : (decide (cp = to) || decide (999 < i4 t e.ss cp + i4 t e.ss to)) = false := by
  have := of_decide_eq_false hc
  simp [h92, this]
 have hE : el t e cp to = iy (fo t e cp to) := by
  simp only [el, h, hin, hlt6, hfull, decide_true, decide_false, cond_true, cond_false]
 refine aw ?_
 refine K6 _ ?_
 refine yS fun _ K14 => ?_
 refine yR ?_
 refine yM rfl rfl ?_
 refine yM rfl rfl ?_
 refine yM rfl rfl ?_
 refine yM rfl rfl ?_
 refine yM rfl rfl ?_
 try dsimp only [St.put]
 refine ae rfl (f8 rfl rfl rfl (qh t e _ _ _ to hS _ _ (by dsimp only [St.put]; omega) (by dsimp only [St.put]; omega) zG) ?_)
 try dsimp only [St.put]
 refine ae rfl (ub6 rfl rfl rfl (uae t e _ _ _ _ cp 1 to (i4 t e.ss to) (ax e.ss) (cn e.ss) ht (uaf he (by omega)) hbo (by omega) _ _ (by dsimp only [St.put]; omega) (by dsimp only [St.put]; omega) (by omega) zG zG) (fun y3 hy3 => ?_))
 dsimp only [St.put] at hy3
 refine yX rfl rfl rfl rfl ?_
 refine yX rfl rfl rfl rfl ?_
 try dsimp only [St.put]
 refine ae rfl (ay rfl rfl rfl zG rfl rfl (by rfl) ?_)
 refine yA rfl rfl ?_
 refine yN ?_
 dsimp only [St.put]
 rw [show gd (fh (ax e.ss) cp 1 to (i4 t e.ss to)) (d9 t) = fo t e cp to from rfl]
 refine K14 _ ?_
 refine am ?_
 refine ⟨(y3.1, y3.2), by (dsimp only; omega), ?_⟩
 rw [hE]
 refine dv rfl (et rfl zG (by rfl) (by first | exact List.cons_ne_nil _ _ | (simp; done) | (simp [putAt]; done)) rfl) (cj (by constructor)) zN zX ?_ ?_
 ·exact zW
 exact zW
theorem uh7 (t : ai) (e : av) (cp to : Int) (hl : e.ss.length ≤ 20) (G : Nat → Option GObj) (nx : Nat) (hF : G 0 = some cv) :
  PC Tryz.prog 27 [b8 t, val e, .v (.int .i64 cp), .v (.int .i64 to)] G nx fun r' G' nx' => ∃ y : Nat × Nat, nx ≤ y.1 ∧ r' = (.tup [.agg [.v (.int .i64 (ci e (el t e cp to) (fo t e cp to)).id), .own y.1 (ci e (el t e cp to) (fo t e cp to)).ss.length (ci e (el t e cp to) (fo t e cp to)).ss.length], .v (.int .i64 (el t e cp to))]) ∧ G' = (ak G y.1 (.arr (ci e (el t e cp to) (fo t e cp to)).ss.length y.2 48 5 (ci e (el t e cp to) (fo t e cp to)).ss.length (co (ci e (el t e cp to) (fo t e cp to)).ss))) ∧ nx' = y.1 + 1 := by
 by_cases h : bz t e = 0
 ·exact uh8 t e cp to hl h G nx hF
 exact uh9 t e cp to hl h G nx hF
end Go.Proofs.YtjjklfgpffgnfaaGreatDoor

/-
 Contracts of the program's functions of charts: the last line of a chapter; lines that are moved.
-/
import Derived.Test.YtjjklfgpffgnfabGreatDoorDaPlain
import Derived.Test.YtjjklfgpffgnfabGreatDoorDcRef
import Derived.Test.YtjjklfgpffgnfabGreatDoorCyPlain
namespace Go.AB
open Go Go.RowKit
open Go.AB.Enc (cells)
open Go.PB (bh af PlaceD ar bp cj)
/-- A contract whose result, and what it names, are told up to something of the run. -/
theorem r6 {Y : Type} {P : Program} {f : FuncId} {fn : Func} {c : Code} {args : List C} {G : Nat → Option GObj} {nx : Nat} (r : Y → C) (g : Y → Nat → Option GObj) (m : Y → Nat) (S : Y → Prop) (hf : P.funcs[f]? = some fn) (hb : fn.body = some c) (hl : ∀ y, S y → (r y).low (m y)) (hm : ∀ y, S y → nx ≤ m y) (hg : (∀ n o, G n = some o → n < nx) → ∀ y, S y → ∀ n o, g y n = some o → G n = some o ∨ (n < m y ∧ o.low (m y)))
  (h : AW none P c (fun e st => ∃ y, S y ∧ la P fn (r y) (g y) (m y) e st) { n := args.length + (fn.ntmps - args.length), l := args, r := [], G := G, nx := nx }) : PC P f args G nx fun r' G' nx' => ∃ y, S y ∧ r' = r y ∧ G' = g y ∧ nx' = m y := by
 intro E w vs hr hg0
 have key := t7 (K := fun r' G' nx' => ∃ y, S y ∧ r' = r y ∧ m y ≤ nx' ∧ ∀ n o, g y n = some o → G' n = some o) hf hb (AW.mono h fun e st hq => by
  obtain ⟨y, hs, hq⟩ := hq
  cases e with
  | normal => exact ⟨r y, hq.1, y, hs, rfl, hq.2.1, hq.2.2⟩
  | ret => exact ⟨r y, hq.1, y, hs, rfl, hq.2.1, hq.2.2⟩
  | _ => exact hq)
 refine (key E w vs hr hg0).mono ?_
 rintro e w' ⟨r', v, E', G', nx', e1, e2, e3, e4, y, hS, rfl, e5, e6⟩
 have hnx := hg0.nx
 have hm0 := hm y hS
 refine ⟨r y, v, E'.drop (m y), g y, m y, e1, e2.drop (by omega), e3.drop (hl y hS), ?_, y, hS, rfl, rfl, rfl⟩
 refine (e4.weak e6).drop fun n o ho => ?_
 rcases hg (fun n o ho => (hg0.lowG ho).1) y hS n o ho with h1 | h1
 ·have := hg0.lowG h1
  exact ⟨by omega, GObj.low_mono this.2 hm0⟩
 exact h1
theorem uea {Y : Type} {P : Program} {o : Oper} {st : St} {K : St → Prop} {f : FuncId} [Fun P f] {fv : Operand} {args : List Operand} {ats : Array TypeId} {caps as0 : List C} {r : Y → C} {g : Y → Nat → Option GObj} {m : Y → Nat} {S : Y → Prop} (ho : o.op = .call { callee := .value fv, args := args.toArray, argTypes := ats }) (hf : evC st fv = .fn (.func f) caps) (has : args.map (evC st) ++ caps = as0)
  (hp : PC P f as0 st.G st.nx fun r' G' nx' => ∃ y, S y ∧ r' = r y ∧ G' = g y ∧ nx' = m y) (h : ∀ y, S y → K (St.put { st with G := g y, nx := m y } o.dst (r y))) : EStep P o st K :=
 sw ho hf has (hp.mono fun r' G' nx' ⟨y, hs, e1, e2, e3⟩ => by subst e1; subst e2; subst e3; exact h y hs)
theorem ug1 {G H : Nat → Option GObj} {m : Nat} {ob : GObj} (hG : G m = some ob) (h : ∀ k o, k ≠ m → G k = some o → H k = some o) : ∀ k o, G k = some o → ah H m ob k = some o := fun k o hk => by
 by_cases e : k = m
 ·subst e; rw [hG] at hk; cases hk; exact jd _ _ _
 rw [dz e]; exact h k o e hk
theorem l6 {G : Nat → Option GObj} {n k : Nat} {o : GObj} (h : fl G n k = some o) : k ≠ n ∧ G k = some o := by
 unfold fl at h
 split at h
 ·cases h
 rename_i e; exact ⟨e, h⟩
theorem ue6 {f : L2 → Option L2} {p : L2} {c : C} (h : a8 f p = some c) : ∃ v, f p = some v ∧ o9 v = c := by
 unfold a8 at h
 cases hf : f p with
 | none => rw [hf] at h; cases h
 | some v => rw [hf] at h; cases h; exact ⟨v, rfl, rfl⟩
theorem upp {f : L2 → Option L2} {c l to mo : Int} {done : List L2} {x : L2} : a8 (js f (ep f c l to mo) done) x ≠ none ↔ a8 f x ≠ none := by
 unfold a8 js ep
 cases hf : f x with
 | none => cases decide (x ∈ done) <;> simp [hf]
 | some v => cases decide (x ∈ done) <;> simp [hf]
end Go.AB
namespace Go.Proofs.YtjjklfgpffgnfabGreatDoor
set_option maxRecDepth 10000
open Go.RowKit Go.AB
open Go.AB.Enc (cells)
open Go.PB (bh af PlaceD ar bp cj)
theorem ri (t : af) (e : aw) (n m V : Nat) (cp : Int) (hS : Sound t e.ss) (G : Nat → Option GObj) (nx : Nat) (hn : n < nx) (hm : m < nx) (hG : G m = some (bl Tryz.prog 95 V (a8 (cn e.ss)))) :
  PC Tryz.prog 59 [.elem (gg t e n m), .v (.int .i64 cp)] G nx fun r' G' nx' => r' = .v (.int .i64 (i5 t e.ss cp)) ∧ G' = G ∧ nx' = nx := by
 refine j6 (G) (nx) Tryz.func59 rfl (.v) zN (fun hlt => zH) ?_
 simp only [Tryz.ntmps59, List.length_cons, List.length_nil, Nat.reduceAdd, Nat.reduceSub]
 refine bf fun hlt => ?_
 dsimp only at hlt
 refine yS fun _ K1 => ?_
 refine yR ?_
 refine yA rfl rfl ?_
 refine yN ?_
 dsimp only [St.put]
 refine K1 _ ?_
 refine yS fun _ K2 => ?_
 refine yR ?_
 refine yA rfl rfl ?_
 refine yN ?_
 dsimp only [St.put]
 refine K2 _ ?_
 refine yS fun _ K3 => ?_
 refine yS fun _ K4 => ?_
 refine yR ?_
 refine yM rfl rfl ?_
 refine aa rfl (ie rfl rfl) ?_
 refine yF rfl rfl rfl rfl ?_
 refine yL rfl rfl rfl ?_
 try dsimp only [St.put]
 refine ae rfl (yq rfl rfl zG fun r β cl ks hnd hks hinj => ?_)
 refine yN ?_
 dsimp only [St.put]
 refine K4 _ ?_
 have hlt0 := hlt
 replace hlt : ∀ k o, fl G m k = some o → k < nx ∧ k ≠ m := fun k o h => ⟨hlt0 k o (l6 h).2, (l6 h).1⟩
 refine dv ((ah (ah (ah (fl G m) m (ky Tryz.prog 95 V (a8 (cn e.ss)) β cl)) nx (.raw 0 (.mapIter (some r) cl (i1 β (([] : List L2))) cl))) (nx + 1) (.fact (.map (some r)) (.map m)))) (m7 zG (m7 zG (m7 zG fun k o h => by (have h1 := hlt k o h; dsimp only; rw [dz (by omega), dz (by omega), dz (by omega)]; exact (l6 h).2)))) ?_
 dsimp only
 refine bg ?_
 refine di 12 ?_
 simp only [cx, bi, Nat.reduceAdd, List.getD_cons_zero, List.getD_cons_succ, List.getD_nil, dc, Nat.reduceBEq, cond_true, cond_false]
 refine el (X := List L2 × Nat) (fun x => ∀ y ∈ x.1, y ∈ ks) (fun x => qr ks x.1) (fun x => [(5, .v (.int .i64 (lg (mi cp) x.1))), (6, .any)]) (fun x G' => (ah (ah (ah (fl G m) m (ky Tryz.prog 95 V (a8 (cn e.ss)) β cl)) nx (.raw x.2 (.mapIter (some r) cl (i1 β x.1) cl))) (nx + 1) (.fact (.map (some r)) (.map m)))) ([], 0) rfl ?_ ?_ ?_ ?_ ?_ ?_
 ·intro y hy; simp at hy
 ·exact zF
 ·exact zX
 ·rintro ⟨done, wi⟩ hI
  exact (by (try dsimp only); repeat' (first | exact trivial | refine ⟨?_, ?_⟩ | exact .v | exact .any | refine .elem ?_ | exact bd _ _ | exact ed _ _ | exact da _ _ | exact eg _ (by (try dsimp only); omega) | exact .box (by (try dsimp only); omega) | exact dp | exact bn | exact qy (fo _ _) | refine ef ?_ ?_ | exact .arr (by (try dsimp only); omega) | exact .own (by (try dsimp only); omega) | exact .map (by (try dsimp only); omega) | exact du _ | refine am ?_ ?_ | exact bd _ _))
 ·rintro ⟨done, wi⟩ hI
  exact (by (repeat' (refine f9 ?_ (by (try dsimp only); omega) ?_)); all_goals (first | exact gw zS | (repeat' (first | exact trivial | refine ⟨?_, ?_⟩ | exact .v | exact .any | refine .elem ?_ | exact bd _ _ | exact ed _ _ | exact da _ _ | exact eg _ (by (try dsimp only); omega) | exact .box (by (try dsimp only); omega) | exact dp | exact bn | exact qy (fo _ _) | refine ef ?_ ?_ | exact .arr (by (try dsimp only); omega) | exact .own (by (try dsimp only); omega) | exact .map (by (try dsimp only); omega) | exact du _ | refine am ?_ ?_ | exact bd _ _))))
 rintro ⟨done, wi⟩ hI
 dsimp only at hI ⊢
 refine yS fun _ K5 => ?_
 refine yR ?_
 try dsimp only [St.put]
 refine ae rfl (yr (done := done) rfl rfl zG zG zG (hks) (hinj) (hI) (fun hend => ?_) (fun y c hym hyk hyd => ?_))
 ·refine yX rfl rfl rfl rfl ?_
  refine yN ?_
  dsimp only [St.put]
  refine K5 _ ?_
  refine yS fun _ K6 => ?_
  refine ak rfl (fun h => by cases h) (fun _ => ?_)
  refine dl ?_
  refine K3 _ ?_
  refine yS fun _ K7 => ?_
  refine zd (n := m) zG ?_
  refine yR ?_
  refine yM rfl rfl ?_
  refine yA rfl rfl ?_
  refine yN ?_
  dsimp only [St.put]
  refine K7 _ ?_
  refine aj ?_
  refine ay rfl (by constructor) zN (ug1 hG fun k o hk h => by (have := hlt0 k o h; rw [dz (by omega), dz (by omega), dz hk, kn hk]; exact h)) ?_
  exact vi (ulu hS (fun x => ⟨fun h => hend _ ((hks x).1 fun h0 => h (capp_none.1 h0)), fun h => fun h0 => (hks x).2 (hI x h) (capp_none.2 h0)⟩) cp)
 obtain ⟨v, hfv, rfl⟩ := ue6 hym
 refine yX rfl rfl rfl rfl ?_
 refine yN ?_
 dsimp only [St.put]
 refine K5 _ ?_
 refine yS fun _ K8 => ?_
 refine ak rfl (fun _ => ?_) (fun h => by cases h)
 refine aq ?_
 refine K8 _ ?_
 refine bg ?_
 refine yS fun _ K9 => ?_
 refine yR ?_
 try dsimp only [St.put]
 refine ba rfl (wz (fx := nx + 1) (n := m) rfl rfl zG trivial zG zG trivial (by assumption)) ?_
 refine yX rfl rfl rfl rfl ?_
 try dsimp only [St.put]
 refine ae rfl (bj rfl ?_)
 try dsimp only [St.put]
 refine ae rfl (ax rfl rfl rfl zG rfl rfl (by rfl) ?_)
 refine yN ?_
 dsimp only [St.put]
 refine K9 _ ?_
 refine cw (i := 6) rfl zG (by first | exact List.cons_ne_nil _ _ | (simp; done) | (simp [putAt]; done)) ?_
 dsimp only
 refine yS fun _ K10 => ?_
 refine yR ?_
 try dsimp only [St.put]
 refine aa rfl (em (k := 0) rfl rfl rfl (by first | exact rfl | omega) (by first | decide | omega) rfl) ?_
 refine yL rfl rfl rfl ?_
 refine yM rfl rfl ?_
 refine aa rfl (gx rfl rfl rfl) ?_
 refine yN ?_
 dsimp only [St.put]
 refine K10 _ ?_
 refine ak rfl (fun hc => ?_) (fun hc => ?_)
 ·have e1 : lg (mi cp) (done ++ [y]) = max (lg (mi cp) done) y.2 := by
   have := of_decide_eq_true hc
   rw [ub7]; simp [j4, mi, this]
  refine yR ?_
  refine yM rfl rfl ?_
  try dsimp only [St.put]
  refine aa rfl (em (k := 1) rfl rfl rfl (by first | exact rfl | omega) (by first | decide | omega) rfl) ?_
  refine yL rfl rfl rfl ?_
  refine aa rfl (ue rfl rfl rfl rfl) ?_
  refine yA rfl rfl ?_
  refine yN ?_
  dsimp only [St.put]
  rw [← e1]
  exact ⟨(done ++ [y], wi + 1), lw hyk hyd, by (intro z hz; rcases List.mem_append.1 hz with hz | hz; exact hI z hz; rw [List.mem_singleton] at hz; exact hz ▸ hyk), ⟨⟨rfl, rfl⟩, zF, zB, zN, zX⟩⟩
 have e1 : lg (mi cp) (done ++ [y]) = lg (mi cp) done := by
  have := of_decide_eq_false hc
  rw [ub7]; simp [j4, mi, this]
 refine aq ?_
 rw [← e1]
 exact ⟨(done ++ [y], wi + 1), lw hyk hyd, by (intro z hz; rcases List.mem_append.1 hz with hz | hz; exact hI z hz; rw [List.mem_singleton] at hz; exact hz ▸ hyk), ⟨⟨rfl, rfl⟩, zF, zB, zN, zX⟩⟩
theorem ub5 (t : af) (e : aw) (n m V W : Nat) (cp l to mo : Int) (f b : L2 → Option L2) (ht : bw t = true) (hb : ∀ p v, ep f cp l to mo p = some v → -100000 ≤ v.2 ∧ v.2 ≤ 100000) (hv1 : ∀ p v, f p = some v → -100000 ≤ v.2 ∧ v.2 ≤ 100000) (hmo : -2000 ≤ mo ∧ mo ≤ 2000) (G : Nat → Option GObj) (nx : Nat) (hn : n < nx) (hm : m < nx) (hnm : n ≠ m) (hG : G n = some (bl Tryz.prog 95 V (a8 f))) (hGm : G m = some (bl Tryz.prog 95 W (a8 b))) :
  PC Tryz.prog 60 [.elem (gg t e n m), .v (.int .i64 cp), .v (.int .i64 l), .v (.int .i64 to), .v (.int .i64 mo)] G nx fun r' G' nx' => ∃ y : Nat × Nat, nx ≤ y.1 ∧ r' = .tup [.agg [.v (.int .i64 ((cm e (iw ((fy (ep f cp l to mo) (dn t)))) ((fy (ep f cp l to mo) (dn t))))).id), .own y.1 ((cm e (iw ((fy (ep f cp l to mo) (dn t)))) ((fy (ep f cp l to mo) (dn t))))).ss.length ((cm e (iw ((fy (ep f cp l to mo) (dn t)))) ((fy (ep f cp l to mo) (dn t))))).ss.length], .v (.int .i64 (iw (fy (ep f cp l to mo) (dn t))))] ∧ G' = ah (fl (fl G n) m) y.1 (.arr ((cm e (iw ((fy (ep f cp l to mo) (dn t)))) ((fy (ep f cp l to mo) (dn t))))).ss.length y.2 28 5 ((cm e (iw ((fy (ep f cp l to mo) (dn t)))) ((fy (ep f cp l to mo) (dn t))))).ss.length (bt ((cm e (iw ((fy (ep f cp l to mo) (dn t)))) ((fy (ep f cp l to mo) (dn t))))).ss)) ∧ nx' = y.1 + 1 := by
 obtain ⟨L, hL⟩ : ∃ L, fy (ep f cp l to mo) (dn t) = L := ⟨_, rfl⟩
 rw [hL]
 refine r6 (fun y : Nat × Nat => .tup [.agg [.v (.int .i64 ((cm e (iw L) L)).id), .own y.1 ((cm e (iw L) L)).ss.length ((cm e (iw L) L)).ss.length], .v (.int .i64 (iw L))]) (fun y => ah (fl (fl G n) m) y.1 (.arr ((cm e (iw L) L)).ss.length y.2 28 5 ((cm e (iw L) L)).ss.length (bt ((cm e (iw L) L)).ss))) (fun y => y.1 + 1) (fun y => nx ≤ y.1) Tryz.func60 rfl (fun y hS => .tup (am (.agg (am .v (am (.own (Nat.lt_succ_self _)) bn))) (am .v bn))) (fun y hS => zN) (fun hlt y hS => (by (repeat' (refine f9 ?_ (by (try dsimp only); omega) ?_)); all_goals (first | exact gw zS | (repeat' (first | exact trivial | refine ⟨?_, ?_⟩ | exact .v | exact .any | refine .elem ?_ | exact bd _ _ | exact ed _ _ | exact da _ _ | exact eg _ (by (try dsimp only); omega) | exact .box (by (try dsimp only); omega) | exact dp | exact bn | exact du _ | exact gw fun k o h => (l6 (l6 h).2).2 | refine ef ?_ ?_ | exact .arr (by (try dsimp only); omega) | exact .own (by (try dsimp only); omega) | exact .map (by (try dsimp only); omega) | exact du _ | refine am ?_ ?_ | exact bd _ _))))) ?_
 simp only [Tryz.ntmps60, List.length_cons, List.length_nil, Nat.reduceAdd, Nat.reduceSub]
 refine bf fun hlt => ?_
 dsimp only at hlt
 have hLb : L.length ≤ 60 := by rw [← hL]; exact Nat.le_trans (ua9 _ _) (pf ht)
 refine yS fun _ K1 => ?_
 refine yR ?_
 try dsimp only [St.put]
 refine ae rfl (bj rfl ?_)
 refine yA rfl rfl ?_
 refine yN ?_
 dsimp only [St.put]
 refine K1 _ ?_
 refine yS fun _ K2 => ?_
 refine yS fun _ K3 => ?_
 refine yR ?_
 refine yM rfl rfl ?_
 refine aa rfl (ie rfl rfl) ?_
 refine yF rfl rfl rfl rfl ?_
 refine yL rfl rfl rfl ?_
 try dsimp only [St.put]
 refine ae rfl (yq rfl rfl zG fun r β cl ks hnd hks hinj => ?_)
 refine yN ?_
 dsimp only [St.put]
 refine K3 _ ?_
 have hlt0 := hlt
 replace hlt : ∀ k o, fl (fl G n) m k = some o → k < nx ∧ k ≠ m ∧ k ≠ n := fun k o h => ⟨hlt0 k o (l6 (l6 h).2).2, (l6 h).1, (l6 (l6 h).2).1⟩
 rw [show a8 f = a8 (js f (ep f cp l to mo) []) by rw [ukt]]
 refine dv ((ah (ah (ah (ah (ah (fl (fl G n) m) nx (.box 0 [.v (.int .i64 0), .list [] .nil])) n (ky Tryz.prog 95 V (a8 (js f (ep f cp l to mo) (([] : List L2)))) β cl)) m (bl Tryz.prog 95 W (a8 b))) (nx + 1) (.raw 0 (.mapIter (some r) cl (i1 β (([] : List L2))) cl))) (nx + 1 + 1) (.fact (.map (some r)) (.map n)))) (m7 zG (m7 zG (m7 zG (m7 zG (m7 zG fun k o h => by (have h1 := hlt k o h; dsimp only; repeat (first | exact (l6 (l6 h).2).2 | rw [dz (by omega)]))))))) ?_
 dsimp only
 refine bg ?_
 refine di 20 ?_
 simp only [cx, bi, Nat.reduceAdd, List.getD_cons_zero, List.getD_cons_succ, List.getD_nil, dc, Nat.reduceBEq, cond_true, cond_false]
 refine el (X := List L2 × Nat × Nat × Nat × (L2 → Option L2)) (fun x => ∀ y ∈ x.1, y ∈ ks) (fun x => qr ks x.1) (fun x => [(12, .any), (13, .any)]) (fun x G' => (ah (ah (ah (ah (ah (fl (fl G n) m) nx (.box 0 [.v (.int .i64 0), .list [] .nil])) n (ky Tryz.prog 95 x.2.2.1 (a8 (js f (ep f cp l to mo) x.1)) β cl)) m (bl Tryz.prog 95 x.2.2.2.1 (a8 x.2.2.2.2))) (nx + 1) (.raw x.2.1 (.mapIter (some r) cl (i1 β x.1) cl))) (nx + 1 + 1) (.fact (.map (some r)) (.map n)))) ([], 0, V, W, b) rfl ?_ ?_ ?_ ?_ ?_ ?_
 ·intro y hy; simp at hy
 ·exact zF
 ·exact zX
 ·rintro ⟨done, wi, V2, W2, b2⟩ hI
  exact (by (try dsimp only); repeat' (first | exact trivial | refine ⟨?_, ?_⟩ | exact .v | exact .any | refine .elem ?_ | exact bd _ _ | exact ed _ _ | exact da _ _ | exact eg _ (by (try dsimp only); omega) | exact .box (by (try dsimp only); omega) | exact dp | exact bn | exact qy (fo _ _) | exact gd (fo _ _) | refine ef ?_ ?_ | exact .arr (by (try dsimp only); omega) | exact .own (by (try dsimp only); omega) | exact .map (by (try dsimp only); omega) | exact du _ | refine am ?_ ?_ | exact bd _ _))
 ·rintro ⟨done, wi, V2, W2, b2⟩ hI
  exact (by (repeat' (refine f9 ?_ (by (try dsimp only); omega) ?_)); all_goals (first | exact gw zS | (repeat' (first | exact trivial | refine ⟨?_, ?_⟩ | exact .v | exact .any | refine .elem ?_ | exact bd _ _ | exact ed _ _ | exact da _ _ | exact eg _ (by (try dsimp only); omega) | exact .box (by (try dsimp only); omega) | exact dp | exact bn | exact qy (fo _ _) | exact gd (fo _ _) | refine ef ?_ ?_ | exact .arr (by (try dsimp only); omega) | exact .own (by (try dsimp only); omega) | exact .map (by (try dsimp only); omega) | exact du _ | refine am ?_ ?_ | exact bd _ _))))
 rintro ⟨done, wi, V2, W2, b2⟩ hI
 dsimp only at hI ⊢
 refine yS fun _ K4 => ?_
 refine yR ?_
 try dsimp only [St.put]
 refine ae rfl (yr (done := done) rfl rfl zG zG zG (fun x => by rw [upp]; exact hks x) (hinj) (hI) (fun hend => ?_) (fun y c hym hyk hyd => ?_))
 ·refine yX rfl rfl rfl rfl ?_
  refine yN ?_
  dsimp only [St.put]
  refine K4 _ ?_
  refine yS fun _ K5 => ?_
  refine ak rfl (fun h => by cases h) (fun _ => ?_)
  refine dl ?_
  refine K2 _ ?_
  refine yS fun _ K6 => ?_
  refine zd (n := n) zG ?_
  rw [uku (fun p hp => hend p ((hks p).1 fun h0 => hp (capp_none.1 h0))) (fun p hp => by simp [ep, hp])]
  refine yR ?_
  refine yM rfl rfl ?_
  try dsimp only [St.put]
  refine ae rfl (iy rfl rfl rfl (upz t e (ep f cp l to mo) _ _ _ ht hb _ _ (by dsimp only [St.put]; omega) (by dsimp only [St.put]; omega) zG) (fun y2 => ?_))
  try dsimp only [St.put]
  refine ae rfl (bj rfl ?_)
  try dsimp only [St.put]
  refine ae rfl (ax rfl rfl rfl zG rfl rfl (by rfl) ?_)
  refine yN ?_
  dsimp only [St.put]
  rw [hL]
  refine K6 _ ?_
  refine yS fun _ K7 => ?_
  refine yS fun _ K8 => ?_
  refine yR ?_
  refine aa rfl (ip rfl rfl) ?_
  try dsimp only [St.put]
  refine ba rfl (i7 rfl rfl zG trivial (by first | rfl | assumption)) ?_
  refine aa rfl (qk rfl rfl) ?_
  refine aa rfl (io rfl rfl rfl) ?_
  refine yN ?_
  dsimp only [St.put]
  refine K8 _ ?_
  refine ak rfl (fun hc => ?_) (fun hc => ?_)
  ·have hbig : 12 < L.length := by have := of_decide_eq_true hc; omega
   have her : iw L = 9 := by simp [iw, hbig]
   have hed : cm e 9 L = ⟨0, []⟩ := rfl
   refine yS fun _ K9 => ?_
   refine yR ?_
   refine aa rfl (dg rfl rfl) ?_
   try dsimp only [St.put]
   refine ae rfl (ax rfl rfl rfl zG rfl rfl (by rfl) ?_)
   refine yA rfl rfl ?_
   refine yN ?_
   dsimp only [St.put]
   refine K9 _ ?_
   refine ll nx 1 _ _ 28 5 zG rfl (by decide) ?_
   dsimp only [List.set_cons_zero, List.set_cons_succ]
   refine aj ?_
   refine ⟨(nx + 7, 0), by (dsimp only; omega), ?_⟩
   rw [her, hed]
   refine dj rfl (dr rfl zG (by rfl) (by first | exact List.cons_ne_nil _ _ | (simp; done) | (simp [putAt]; done)) rfl) (ci (by constructor)) zN zX ?_ ?_
   ·exact zW
   exact zW
  have hbig : ¬ 12 < L.length := by have := of_decide_eq_false hc; omega
  have her : iw L = 0 := by simp [iw, hbig]
  have hed : cm e 0 L = ⟨e.id, L⟩ := rfl
  refine aq ?_
  refine K7 _ ?_
  refine yS fun _ K10 => ?_
  refine yR ?_
  try dsimp only [St.put]
  refine ba rfl (i6 rfl rfl zG trivial (by rfl)) ?_
  try dsimp only [St.put]
  refine ae rfl (ax rfl rfl rfl zG rfl rfl (by rfl) ?_)
  refine yA rfl rfl ?_
  refine yN ?_
  dsimp only [St.put]
  refine K10 _ ?_
  refine aj ?_
  refine ⟨(nx + 5, y2), by (dsimp only; omega), ?_⟩
  rw [her, hed]
  refine dj rfl (dr rfl zG (by rfl) (by first | exact List.cons_ne_nil _ _ | (simp; done) | (simp [putAt]; done)) rfl) (ci (by constructor)) zN zX ?_ ?_
  ·exact zW
  exact zW
 obtain ⟨v, hfv, rfl⟩ := ue6 hym
 rw [uks hyd] at hfv
 have hvb := hv1 y v hfv
 refine yX rfl rfl rfl rfl ?_
 refine yN ?_
 dsimp only [St.put]
 refine K4 _ ?_
 refine yS fun _ K11 => ?_
 refine ak rfl (fun _ => ?_) (fun h => by cases h)
 refine aq ?_
 refine K11 _ ?_
 refine bg ?_
 refine yS fun _ K12 => ?_
 refine yR ?_
 try dsimp only [St.put]
 refine ba rfl (wz (fx := nx + 1 + 1) (n := n) rfl rfl zG trivial zG zG trivial (by assumption)) ?_
 refine yX rfl rfl rfl rfl ?_
 refine yX rfl rfl rfl rfl ?_
 try dsimp only [St.put]
 refine ae rfl (bj rfl ?_)
 try dsimp only [St.put]
 refine ae rfl (bj rfl ?_)
 try dsimp only [St.put]
 refine ae rfl (ax rfl rfl rfl zG rfl rfl (by rfl) ?_)
 try dsimp only [St.put]
 refine ae rfl (ax rfl rfl rfl zG rfl rfl (by rfl) ?_)
 refine yN ?_
 dsimp only [St.put]
 refine K12 _ ?_
 refine cw (i := 12) rfl zG (by first | exact List.cons_ne_nil _ _ | (simp; done) | (simp [putAt]; done)) ?_
 refine cw (i := 13) rfl zG (by first | exact List.cons_ne_nil _ _ | (simp; done) | (simp [putAt]; done)) ?_
 dsimp only
 refine yS fun _ K13 => ?_
 refine yR ?_
 try dsimp only [St.put]
 refine aa rfl (em (k := 0) rfl rfl rfl (by first | exact rfl | omega) (by first | decide | omega) rfl) ?_
 refine yL rfl rfl rfl ?_
 refine yM rfl rfl ?_
 refine aa rfl (gx rfl rfl rfl) ?_
 refine et (fun hs => ?_) (fun hs => ?_)
 ·have h43 := of_decide_eq_true hs
  refine yM rfl rfl ?_
  try dsimp only [St.put]
  refine aa rfl (em (k := 1) rfl rfl rfl (by first | exact rfl | omega) (by first | decide | omega) rfl) ?_
  refine yL rfl rfl rfl ?_
  refine yM rfl rfl ?_
  refine aa rfl (ni rfl rfl rfl) ?_
  refine aa rfl (co rfl rfl (by constructor)) ?_
  refine yN ?_
  dsimp only [St.put]
  refine K13 _ ?_
  refine ak rfl (fun hc => ?_) (fun hc => ?_)
  ·have hmv1 : ep f cp l to mo y = some (to, v.2 + mo) := by
    have := of_decide_eq_true hc
    simp [ep, hfv, pc, h43, this]
   refine yS fun _ K14 => ?_
   refine gh [(0, none), (1, none), (2, none), (3, none), (4, none), (5, none)] (fun i => [5].contains i) (fun i => [5].contains i) (fun i => [0, 1, 2].contains i) [] (by kernel_rfl) (by kernel_rfl) ?_
   refine xM rfl rfl rfl rfl rfl ?_
   refine ai rfl rfl rfl rfl (ie rfl rfl) ?_
   refine ai rfl rfl rfl rfl (cd rfl rfl rfl) ?_
   try dsimp only [St.put]
   refine az rfl rfl rfl rfl (bq rfl rfl) ?_
   try dsimp only [St.put]
   refine az rfl rfl rfl rfl (bk rfl rfl rfl) ?_
   refine il ?_
   try dsimp only [St.put]
   refine gl rfl rfl rfl rfl (uny v rfl rfl zG rfl (upq b2 v) ?_)
   refine ij ?_
   dsimp only [St.put]
   refine K14 _ ?_
   refine gh [(0, none), (1, none), (2, none), (3, none), (4, none), (5, none), (6, none), (7, none), (8, none), (9, none), (10, none), (11, none)] (fun i => [11].contains i) (fun i => [11].contains i) (fun i => [0, 1, 2, 5, 6, 8, 9, 10].contains i) [] (by kernel_rfl) (by kernel_rfl) ?_
   refine xM rfl rfl rfl rfl rfl ?_
   refine ai rfl rfl rfl rfl (ie rfl rfl) ?_
   refine ai rfl rfl rfl rfl (cd rfl rfl rfl) ?_
   try dsimp only [St.put]
   refine az rfl rfl rfl rfl (bq rfl rfl) ?_
   try dsimp only [St.put]
   refine az rfl rfl rfl rfl (bk rfl rfl rfl) ?_
   refine xM rfl rfl rfl rfl rfl ?_
   try dsimp only [St.put]
   refine ai rfl rfl rfl rfl (em (k := 1) rfl rfl rfl (by first | exact rfl | omega) (by first | decide | omega) rfl) ?_
   try dsimp only [St.put]
   refine az rfl rfl rfl rfl (bq rfl rfl) ?_
   refine xM rfl rfl rfl rfl rfl ?_
   refine ai rfl rfl rfl rfl (ca rfl rfl rfl (by omega)) ?_
   refine ai rfl rfl rfl rfl (i3 rfl rfl) ?_
   refine il ?_
   try dsimp only [St.put]
   refine gl rfl rfl rfl rfl (unv y (by rw [hym]; simp) rfl rfl rfl zG rfl (ukr hmv1) ?_)
   refine ij ?_
   dsimp only [St.put]
   first
    | (exact ⟨(done ++ [y], wi + 1, V2 + 1, W2 + 1, _), lw hyk hyd, by (intro z hz; rcases List.mem_append.1 hz with hz | hz; exact hI z hz; rw [List.mem_singleton] at hz; exact hz ▸ hyk), ⟨⟨rfl, rfl⟩, zF, zB, zN, zX⟩⟩)
    | (rw [← xv hyd hmv0]; exact ⟨(done ++ [y], wi + 1, V2, W2, b2), lw hyk hyd, by (intro z hz; rcases List.mem_append.1 hz with hz | hz; exact hI z hz; rw [List.mem_singleton] at hz; exact hz ▸ hyk), ⟨⟨rfl, rfl⟩, zF, zB, zN, zX⟩⟩)
  have hmv0 : ep f cp l to mo y = f y := by
   first
   | (have := of_decide_eq_false hc; simp [ep, hfv, pc, this]; done)
   | (simp [ep, hfv, pc, h43]; done)
  refine aq ?_
  first
   | (exact ⟨(done ++ [y], wi + 1, V2 + 1, W2 + 1, _), lw hyk hyd, by (intro z hz; rcases List.mem_append.1 hz with hz | hz; exact hI z hz; rw [List.mem_singleton] at hz; exact hz ▸ hyk), ⟨⟨rfl, rfl⟩, zF, zB, zN, zX⟩⟩)
   | (rw [← xv hyd hmv0]; exact ⟨(done ++ [y], wi + 1, V2, W2, b2), lw hyk hyd, by (intro z hz; rcases List.mem_append.1 hz with hz | hz; exact hI z hz; rw [List.mem_singleton] at hz; exact hz ▸ hyk), ⟨⟨rfl, rfl⟩, zF, zB, zN, zX⟩⟩)
 have h43 := of_decide_eq_false hs
 refine yM rfl rfl ?_
 refine yK rfl ?_
 refine yK rfl ?_
 refine yK rfl ?_
 refine yK rfl ?_
 refine aa rfl (dh rfl rfl (by constructor)) ?_
 refine yN ?_
 dsimp only [St.put]
 refine K13 _ ?_
 refine ak rfl (fun h => by cases h) (fun _ => ?_)
 have hmv0 : ep f cp l to mo y = f y := by
  first
  | (have := of_decide_eq_false hc; simp [ep, hfv, pc, this]; done)
  | (simp [ep, hfv, pc, h43]; done)
 refine aq ?_
 first
  | (exact ⟨(done ++ [y], wi + 1, V2 + 1, W2 + 1, _), lw hyk hyd, by (intro z hz; rcases List.mem_append.1 hz with hz | hz; exact hI z hz; rw [List.mem_singleton] at hz; exact hz ▸ hyk), ⟨⟨rfl, rfl⟩, zF, zB, zN, zX⟩⟩)
  | (rw [← xv hyd hmv0]; exact ⟨(done ++ [y], wi + 1, V2, W2, b2), lw hyk hyd, by (intro z hz; rcases List.mem_append.1 hz with hz | hz; exact hI z hz; rw [List.mem_singleton] at hz; exact hz ▸ hyk), ⟨⟨rfl, rfl⟩, zF, zB, zN, zX⟩⟩)
theorem uhl (t : af) (e : aw) (cp l to : Int) (hl : e.ss.length ≤ 20) (h : cb t e ≠ 0) (G : Nat → Option GObj) (nx : Nat) (hF : G 0 = some cr) :
  PC Tryz.prog 23 [b7 t, val e, .v (.int .i64 cp), .v (.int .i64 l), .v (.int .i64 to)] G nx fun r' G' nx' => ∃ y : Nat × Nat, nx ≤ y.1 ∧ r' = (.tup [.agg [.v (.int .i64 (cm e (dx t e cp l to) (e9 t e cp l to)).id), .own y.1 (cm e (dx t e cp l to) (e9 t e cp l to)).ss.length (cm e (dx t e cp l to) (e9 t e cp l to)).ss.length], .v (.int .i64 (dx t e cp l to))]) ∧ G' = (ah G y.1 (.arr (cm e (dx t e cp l to) (e9 t e cp l to)).ss.length y.2 28 5 (cm e (dx t e cp l to) (e9 t e cp l to)).ss.length (bt (cm e (dx t e cp l to) (e9 t e cp l to)).ss))) ∧ nx' = y.1 + 1 := by
 have hE : dx t e cp l to = cb t e := by simp [dx, h]
 have hD : cm e (cb t e) (e9 t e cp l to) = ⟨0, []⟩ := by simp [cm, h]
 rw [hE, hD]
 refine r6 (fun y : Nat × Nat => (.tup [.agg [.v (.int .i64 ((⟨0, []⟩ : aw)).id), .own y.1 ((⟨0, []⟩ : aw)).ss.length ((⟨0, []⟩ : aw)).ss.length], .v (.int .i64 (cb t e))])) (fun y => (ah G y.1 (.arr ((⟨0, []⟩ : aw)).ss.length y.2 28 5 ((⟨0, []⟩ : aw)).ss.length (bt ((⟨0, []⟩ : aw)).ss)))) (fun y => y.1 + 1) (fun y => nx ≤ y.1) Tryz.func23 rfl (fun y hS => .tup (am (.agg (am .v (am (.own (Nat.lt_succ_self _)) bn))) (am .v bn))) (fun y hS => zN) (fun hlt y hS => (by (repeat' (refine f9 ?_ (by (try dsimp only); omega) ?_)); all_goals (first | exact gw zS | (repeat' (first | exact trivial | refine ⟨?_, ?_⟩ | exact .v | exact .any | refine .elem ?_ | exact bd _ _ | exact ed _ _ | exact da _ _ | exact eg _ (by (try dsimp only); omega) | exact .box (by (try dsimp only); omega) | exact dp | exact bn | exact du _ | refine ef ?_ ?_ | exact .arr (by (try dsimp only); omega) | exact .own (by (try dsimp only); omega) | exact .map (by (try dsimp only); omega) | exact du _ | refine am ?_ ?_ | exact bd _ _))))) ?_
 simp only [Tryz.ntmps23, List.length_cons, List.length_nil, Nat.reduceAdd, Nat.reduceSub]
 refine bf fun hlt => ?_
 dsimp only at hlt
 have hnx := hlt 0 _ hF
 refine yS fun _ K1 => ?_
 refine yR ?_
 try dsimp only [St.put]
 refine yB rfl rfl rfl ?_
 try dsimp only [St.put]
 refine yB rfl rfl rfl ?_
 try dsimp only [St.put]
 refine ae rfl (bj rfl ?_)
 refine yA rfl rfl ?_
 refine yN ?_
 dsimp only [St.put]
 refine K1 _ ?_
 refine yS fun _ K2 => ?_
 refine yR ?_
 try dsimp only [St.put]
 refine ba rfl (bk rfl rfl rfl) ?_
 refine yE rfl rfl rfl ?_
 try dsimp only [St.put]
 refine ae rfl (cq rfl rfl rfl (by decide) (by decide) zR (by decide) ?_)
 try dsimp only [St.put]
 refine ae rfl (dq rfl rfl rfl (rq t e hl h) zG ?_)
 refine yM rfl rfl ?_
 refine yX rfl rfl rfl rfl ?_
 refine yX rfl rfl rfl rfl ?_
 refine yA rfl rfl ?_
 refine yA rfl rfl ?_
 refine yN ?_
 dsimp only [St.put]
 refine K2 _ ?_
 refine yS fun _ K3 => ?_
 refine yS fun _ K4 => ?_
 refine yR ?_
 refine yM rfl rfl ?_
 refine aa rfl (br (c := true) (cz rfl rfl rfl) (lf h)) ?_
 refine yN ?_
 dsimp only [St.put]
 refine K4 _ ?_
 refine ak rfl (fun _ => ?_) (fun h => by cases h)
 refine yS fun _ K5 => ?_
 refine yR ?_
 refine aa rfl (dg rfl rfl) ?_
 refine yM rfl rfl ?_
 try dsimp only [St.put]
 refine ae rfl (ax rfl rfl rfl zG rfl rfl (by rfl) ?_)
 refine yA rfl rfl ?_
 refine yN ?_
 dsimp only [St.put]
 refine K5 _ ?_
 refine ll nx 1 _ _ 28 5 zG rfl (by decide) ?_
 dsimp only [List.set_cons_zero, List.set_cons_succ]
 refine aj ?_
 refine ⟨(nx + 1, 0), by (dsimp only; omega), ?_⟩
 refine dj rfl (dr rfl zG (by rfl) (by first | exact List.cons_ne_nil _ _ | (simp; done) | (simp [putAt]; done)) rfl) (ci (by constructor)) zN zX ?_ ?_
 ·exact zW
 exact zW
theorem uhk (t : af) (e : aw) (cp l to : Int) (hl : e.ss.length ≤ 20) (h : cb t e = 0) (G : Nat → Option GObj) (nx : Nat) (hF : G 0 = some cr) :
  PC Tryz.prog 23 [b7 t, val e, .v (.int .i64 cp), .v (.int .i64 l), .v (.int .i64 to)] G nx fun r' G' nx' => ∃ y : Nat × Nat, nx ≤ y.1 ∧ r' = (.tup [.agg [.v (.int .i64 (cm e (dx t e cp l to) (e9 t e cp l to)).id), .own y.1 (cm e (dx t e cp l to) (e9 t e cp l to)).ss.length (cm e (dx t e cp l to) (e9 t e cp l to)).ss.length], .v (.int .i64 (dx t e cp l to))]) ∧ G' = (ah G y.1 (.arr (cm e (dx t e cp l to) (e9 t e cp l to)).ss.length y.2 28 5 (cm e (dx t e cp l to) (e9 t e cp l to)).ss.length (bt (cm e (dx t e cp l to) (e9 t e cp l to)).ss))) ∧ nx' = y.1 + 1 := by
 refine r6 (fun y : Nat × Nat => (.tup [.agg [.v (.int .i64 (cm e (dx t e cp l to) (e9 t e cp l to)).id), .own y.1 (cm e (dx t e cp l to) (e9 t e cp l to)).ss.length (cm e (dx t e cp l to) (e9 t e cp l to)).ss.length], .v (.int .i64 (dx t e cp l to))])) (fun y => (ah G y.1 (.arr (cm e (dx t e cp l to) (e9 t e cp l to)).ss.length y.2 28 5 (cm e (dx t e cp l to) (e9 t e cp l to)).ss.length (bt (cm e (dx t e cp l to) (e9 t e cp l to)).ss)))) (fun y => y.1 + 1) (fun y => nx ≤ y.1) Tryz.func23 rfl (fun y hS => .tup (am (.agg (am .v (am (.own (Nat.lt_succ_self _)) bn))) (am .v bn))) (fun y hS => zN) (fun hlt y hS => (by (repeat' (refine f9 ?_ (by (try dsimp only); omega) ?_)); all_goals (first | exact gw zS | (repeat' (first | exact trivial | refine ⟨?_, ?_⟩ | exact .v | exact .any | refine .elem ?_ | exact bd _ _ | exact ed _ _ | exact da _ _ | exact eg _ (by (try dsimp only); omega) | exact .box (by (try dsimp only); omega) | exact dp | exact bn | exact du _ | refine ef ?_ ?_ | exact .arr (by (try dsimp only); omega) | exact .own (by (try dsimp only); omega) | exact .map (by (try dsimp only); omega) | exact du _ | refine am ?_ ?_ | exact bd _ _))))) ?_
 simp only [Tryz.ntmps23, List.length_cons, List.length_nil, Nat.reduceAdd, Nat.reduceSub]
 refine bf fun hlt => ?_
 dsimp only at hlt
 have hnx := hlt 0 _ hF
 have hS := mu h
 obtain ⟨ht, hl12, he⟩ := k8 (lp h).1
 have hbo : ∀ p v, av e.ss p = some v → -100000 ≤ v.2 ∧ v.2 ≤ 100000 := fun p v hv => by
  have := l8 he hv
  omega
 refine yS fun _ K1 => ?_
 refine yR ?_
 try dsimp only [St.put]
 refine yB rfl rfl rfl ?_
 try dsimp only [St.put]
 refine yB rfl rfl rfl ?_
 try dsimp only [St.put]
 refine ae rfl (bj rfl ?_)
 refine yA rfl rfl ?_
 refine yN ?_
 dsimp only [St.put]
 refine K1 _ ?_
 refine yS fun _ K2 => ?_
 refine yR ?_
 try dsimp only [St.put]
 refine ba rfl (bk rfl rfl rfl) ?_
 refine yE rfl rfl rfl ?_
 try dsimp only [St.put]
 refine ae rfl (cq rfl rfl rfl (by decide) (by decide) zR (by decide) ?_)
 try dsimp only [St.put]
 refine ae rfl (iy rfl rfl rfl (qc t e hl h _ _ zG) (fun y => ?_))
 refine yM rfl rfl ?_
 refine yX rfl rfl rfl rfl ?_
 refine yX rfl rfl rfl rfl ?_
 refine yA rfl rfl ?_
 refine yA rfl rfl ?_
 refine yN ?_
 dsimp only [St.put]
 refine K2 _ ?_
 refine yS fun _ K3 => ?_
 refine yS fun _ K4 => ?_
 refine yR ?_
 refine yM rfl rfl ?_
 refine aa rfl (br (c := false) (cz rfl rfl rfl) (by rfl)) ?_
 refine yN ?_
 dsimp only [St.put]
 refine K4 _ ?_
 refine ak rfl (fun h => by cases h) (fun _ => ?_)
 refine aq ?_
 refine K3 _ ?_
 refine yS fun _ K5 => ?_
 refine yR ?_
 refine yM rfl rfl ?_
 try dsimp only [St.put]
 refine aa rfl (b8 (k := 0) rfl rfl rfl (by first | rfl | omega) rfl rfl) ?_
 refine yL rfl rfl rfl ?_
 refine yA rfl rfl ?_
 refine yN ?_
 dsimp only [St.put]
 refine K5 _ ?_
 refine yS fun _ K6 => ?_
 refine bg ?_
 refine yS fun _ K7 => ?_
 refine yR ?_
 refine yM rfl rfl ?_
 refine yM rfl rfl ?_
 refine yM rfl rfl ?_
 try dsimp only [St.put]
 refine ae rfl (cq rfl rfl rfl (by decide) (by decide) zR (by decide) ?_)
 try dsimp only [St.put]
 refine ae rfl (a7 rfl rfl rfl (n1 1 999 [cp, l, to]) ?_)
 refine aa rfl (c9 rfl rfl) ?_
 refine yA rfl rfl ?_
 refine yN ?_
 dsimp only [St.put]
 refine K7 _ ?_
 refine ak rfl (fun hc => ?_) (fun hc => ?_)
 ·have hin : jv 1 999 [cp, l, to] = false := by simpa using hc
  have hE : dx t e cp l to = 2 := by simp [dx, h, hin]
  refine yS fun _ K8 => ?_
  refine yR ?_
  refine aa rfl (dg rfl rfl) ?_
  try dsimp only [St.put]
  refine ae rfl (ax rfl rfl rfl zG rfl rfl (by rfl) ?_)
  refine yA rfl rfl ?_
  refine yN ?_
  dsimp only [St.put]
  refine K8 _ ?_
  refine ll nx 1 _ _ 28 5 zG rfl (by decide) ?_
  dsimp only [List.set_cons_zero, List.set_cons_succ]
  refine aj ?_
  refine ⟨(nx + 5, 0), by (dsimp only; omega), ?_⟩
  rw [hE, show cm e 2 (e9 t e cp l to) = ⟨0, []⟩ from rfl]
  refine dj rfl (dr rfl zG (by rfl) (by first | exact List.cons_ne_nil _ _ | (simp; done) | (simp [putAt]; done)) rfl) (ci (by constructor)) zN zX ?_ ?_
  ·exact zW
  exact zW
 have hin : jv 1 999 [cp, l, to] = true := by simpa using hc
 have hin' := hin
 simp only [uml, Bool.and_eq_true, inB_true] at hin'
 refine yS fun _ K9 => ?_
 refine yR ?_
 refine yM rfl rfl ?_
 refine yM rfl rfl ?_
 try dsimp only [St.put]
 refine ae rfl (fg rfl rfl rfl (ri t e _ _ _ cp hS _ _ (by dsimp only [St.put]; omega) (by dsimp only [St.put]; omega) zG) ?_)
 refine yM rfl rfl ?_
 refine aa rfl (ck rfl rfl rfl) ?_
 refine yA rfl rfl ?_
 refine yN ?_
 dsimp only [St.put]
 refine K9 _ ?_
 refine ak rfl (fun hc => ?_) (fun hc => ?_)
 ·have hE : dx t e cp l to = 6 := by
   have := of_decide_eq_true hc
   simp [dx, h, hin, this]
  refine yS fun _ K10 => ?_
  refine yR ?_
  refine aa rfl (dg rfl rfl) ?_
  try dsimp only [St.put]
  refine ae rfl (ax rfl rfl rfl zG rfl rfl (by rfl) ?_)
  refine yA rfl rfl ?_
  refine yN ?_
  dsimp only [St.put]
  refine K10 _ ?_
  refine ll nx 1 _ _ 28 5 zG rfl (by decide) ?_
  dsimp only [List.set_cons_zero, List.set_cons_succ]
  refine aj ?_
  refine ⟨(nx + 5, 0), by (dsimp only; omega), ?_⟩
  rw [hE, show cm e 6 (e9 t e cp l to) = ⟨0, []⟩ from rfl]
  refine dj rfl (dr rfl zG (by rfl) (by first | exact List.cons_ne_nil _ _ | (simp; done) | (simp [putAt]; done)) rfl) (ci (by constructor)) zN zX ?_ ?_
  ·exact zW
  exact zW
 have hlt6 := of_decide_eq_false hc
 refine yS fun _ K11 => ?_
 refine yR ?_
 refine yM rfl rfl ?_
 refine yM rfl rfl ?_
 refine aa rfl (gx rfl rfl rfl) ?_
 refine et (fun hs => ?_) (fun hs => ?_)
 ·have h92 := of_decide_eq_true hs
  refine yM rfl rfl ?_
  refine yK rfl ?_
  refine yK rfl ?_
  refine yK rfl ?_
  refine yK rfl ?_
  refine aa rfl (co rfl rfl (by constructor)) ?_
  refine yA rfl rfl ?_
  refine yN ?_
  dsimp only [St.put]
  refine K11 _ ?_
  refine ak rfl (fun _ => ?_) (fun h => by cases h)
  have hfull : (decide (cp = to) || decide (0 < i5 t e.ss to)) = true := by
   (simp [h92]; done)
  have hE : dx t e cp l to = 9 := by simp only [dx, h, hin, hlt6, hfull, decide_true, decide_false, cond_true, cond_false]
  refine yS fun _ K12 => ?_
  refine yR ?_
  refine aa rfl (dg rfl rfl) ?_
  try dsimp only [St.put]
  refine ae rfl (ax rfl rfl rfl zG rfl rfl (by rfl) ?_)
  refine yA rfl rfl ?_
  refine yN ?_
  dsimp only [St.put]
  refine K12 _ ?_
  refine ll nx 1 _ _ 28 5 zG rfl (by decide) ?_
  dsimp only [List.set_cons_zero, List.set_cons_succ]
  refine aj ?_
  refine ⟨(nx + 5, 0), by (dsimp only; omega), ?_⟩
  rw [hE, show cm e 9 (e9 t e cp l to) = ⟨0, []⟩ from rfl]
  refine dj rfl (dr rfl zG (by rfl) (by first | exact List.cons_ne_nil _ _ | (simp; done) | (simp [putAt]; done)) rfl) (ci (by constructor)) zN zX ?_ ?_
  ·exact zW
  exact zW
 have h92 := of_decide_eq_false hs
 refine yM rfl rfl ?_
 refine yM rfl rfl ?_
 refine yM rfl rfl ?_
 try dsimp only [St.put]
 refine ae rfl (fg rfl rfl rfl (ri t e _ _ _ to hS _ _ (by dsimp only [St.put]; omega) (by dsimp only [St.put]; omega) zG) ?_)
 refine aa rfl (io rfl rfl rfl) ?_
 refine aa rfl (dh rfl rfl (by constructor)) ?_
 refine yA rfl rfl ?_
 refine yN ?_
 dsimp only [St.put]
 refine K11 _ ?_
 refine ak rfl (fun hc => ?_) (fun hc => ?_)
 ·have hfull : (decide (cp = to) || decide (0 < i5 t e.ss to)) = true := by
   (have := of_decide_eq_true hc; simp [this]; done)
  have hE : dx t e cp l to = 9 := by simp only [dx, h, hin, hlt6, hfull, decide_true, decide_false, cond_true, cond_false]
  refine yS fun _ K13 => ?_
  refine yR ?_
  refine aa rfl (dg rfl rfl) ?_
  try dsimp only [St.put]
  refine ae rfl (ax rfl rfl rfl zG rfl rfl (by rfl) ?_)
  refine yA rfl rfl ?_
  refine yN ?_
  dsimp only [St.put]
  refine K13 _ ?_
  refine ll nx 1 _ _ 28 5 zG rfl (by decide) ?_
  dsimp only [List.set_cons_zero, List.set_cons_succ]
  refine aj ?_
  refine ⟨(nx + 5, 0), by (dsimp only; omega), ?_⟩
  rw [hE, show cm e 9 (e9 t e cp l to) = ⟨0, []⟩ from rfl]
  refine dj rfl (dr rfl zG (by rfl) (by first | exact List.cons_ne_nil _ _ | (simp; done) | (simp [putAt]; done)) rfl) (ci (by constructor)) zN zX ?_ ?_
  ·exact zW
  exact zW
 have hfull : (decide (cp = to) || decide (0 < i5 t e.ss to)) = false := by
  have := of_decide_eq_false hc
  simp [h92, this]
 have hE : dx t e cp l to = iw (e9 t e cp l to) := by
  simp only [dx, h, hin, hlt6, hfull, decide_true, decide_false, cond_true, cond_false]
 refine aq ?_
 refine K6 _ ?_
 refine yS fun _ K14 => ?_
 refine yR ?_
 refine yM rfl rfl ?_
 refine yM rfl rfl ?_
 refine yM rfl rfl ?_
 refine yM rfl rfl ?_
 refine yM rfl rfl ?_
 refine aa rfl (g9 rfl rfl rfl (by omega)) ?_
 try dsimp only [St.put]
 refine ae rfl (uea rfl rfl rfl (ub5 t e _ _ _ _ cp l to (1 - l) (av e.ss) (cn e.ss) ht (ub6 he (by omega)) hbo (by omega) _ _ (by dsimp only [St.put]; omega) (by dsimp only [St.put]; omega) (by omega) zG zG) (fun y3 hy3 => ?_))
 dsimp only [St.put] at hy3
 refine yX rfl rfl rfl rfl ?_
 refine yX rfl rfl rfl rfl ?_
 try dsimp only [St.put]
 refine ae rfl (ax rfl rfl rfl zG rfl rfl (by rfl) ?_)
 refine yA rfl rfl ?_
 refine yN ?_
 dsimp only [St.put]
 rw [show fy (ep (av e.ss) cp l to (1 - l)) (dn t) = e9 t e cp l to from rfl]
 refine K14 _ ?_
 refine aj ?_
 refine ⟨(y3.1, y3.2), by (dsimp only; omega), ?_⟩
 rw [hE]
 refine dj rfl (dr rfl zG (by rfl) (by first | exact List.cons_ne_nil _ _ | (simp; done) | (simp [putAt]; done)) rfl) (ci (by constructor)) zN zX ?_ ?_
 ·exact zW
 exact zW
theorem uhj (t : af) (e : aw) (cp l to : Int) (hl : e.ss.length ≤ 20) (G : Nat → Option GObj) (nx : Nat) (hF : G 0 = some cr) :
  PC Tryz.prog 23 [b7 t, val e, .v (.int .i64 cp), .v (.int .i64 l), .v (.int .i64 to)] G nx fun r' G' nx' => ∃ y : Nat × Nat, nx ≤ y.1 ∧ r' = (.tup [.agg [.v (.int .i64 (cm e (dx t e cp l to) (e9 t e cp l to)).id), .own y.1 (cm e (dx t e cp l to) (e9 t e cp l to)).ss.length (cm e (dx t e cp l to) (e9 t e cp l to)).ss.length], .v (.int .i64 (dx t e cp l to))]) ∧ G' = (ah G y.1 (.arr (cm e (dx t e cp l to) (e9 t e cp l to)).ss.length y.2 28 5 (cm e (dx t e cp l to) (e9 t e cp l to)).ss.length (bt (cm e (dx t e cp l to) (e9 t e cp l to)).ss))) ∧ nx' = y.1 + 1 := by
 by_cases h : cb t e = 0
 ·exact uhk t e cp l to hl h G nx hF
 exact uhl t e cp l to hl h G nx hF
theorem ul9 (t : af) (e : aw) (cp to : Int) (hl : e.ss.length ≤ 20) (h : cb t e ≠ 0) (G : Nat → Option GObj) (nx : Nat) (hF : G 0 = some cr) :
  PC Tryz.prog 24 [b7 t, val e, .v (.int .i64 cp), .v (.int .i64 to)] G nx fun r' G' nx' => ∃ y : Nat × Nat, nx ≤ y.1 ∧ r' = (.tup [.agg [.v (.int .i64 (cm e (eb t e cp to) (fa t e cp to)).id), .own y.1 (cm e (eb t e cp to) (fa t e cp to)).ss.length (cm e (eb t e cp to) (fa t e cp to)).ss.length], .v (.int .i64 (eb t e cp to))]) ∧ G' = (ah G y.1 (.arr (cm e (eb t e cp to) (fa t e cp to)).ss.length y.2 28 5 (cm e (eb t e cp to) (fa t e cp to)).ss.length (bt (cm e (eb t e cp to) (fa t e cp to)).ss))) ∧ nx' = y.1 + 1 := by
 have hE : eb t e cp to = cb t e := by simp [eb, h]
 have hD : cm e (cb t e) (fa t e cp to) = ⟨0, []⟩ := by simp [cm, h]
 rw [hE, hD]
 refine r6 (fun y : Nat × Nat => (.tup [.agg [.v (.int .i64 ((⟨0, []⟩ : aw)).id), .own y.1 ((⟨0, []⟩ : aw)).ss.length ((⟨0, []⟩ : aw)).ss.length], .v (.int .i64 (cb t e))])) (fun y => (ah G y.1 (.arr ((⟨0, []⟩ : aw)).ss.length y.2 28 5 ((⟨0, []⟩ : aw)).ss.length (bt ((⟨0, []⟩ : aw)).ss)))) (fun y => y.1 + 1) (fun y => nx ≤ y.1) Tryz.func24 rfl (fun y hS => .tup (am (.agg (am .v (am (.own (Nat.lt_succ_self _)) bn))) (am .v bn))) (fun y hS => zN) (fun hlt y hS => (by (repeat' (refine f9 ?_ (by (try dsimp only); omega) ?_)); all_goals (first | exact gw zS | (repeat' (first | exact trivial | refine ⟨?_, ?_⟩ | exact .v | exact .any | refine .elem ?_ | exact bd _ _ | exact ed _ _ | exact da _ _ | exact eg _ (by (try dsimp only); omega) | exact .box (by (try dsimp only); omega) | exact dp | exact bn | exact du _ | refine ef ?_ ?_ | exact .arr (by (try dsimp only); omega) | exact .own (by (try dsimp only); omega) | exact .map (by (try dsimp only); omega) | exact du _ | refine am ?_ ?_ | exact bd _ _))))) ?_
 simp only [Tryz.ntmps24, List.length_cons, List.length_nil, Nat.reduceAdd, Nat.reduceSub]
 refine bf fun hlt => ?_
 dsimp only at hlt
 have hnx := hlt 0 _ hF
 refine yS fun _ K1 => ?_
 refine yR ?_
 try dsimp only [St.put]
 refine yB rfl rfl rfl ?_
 try dsimp only [St.put]
 refine yB rfl rfl rfl ?_
 try dsimp only [St.put]
 refine ae rfl (bj rfl ?_)
 refine yA rfl rfl ?_
 refine yN ?_
 dsimp only [St.put]
 refine K1 _ ?_
 refine yS fun _ K2 => ?_
 refine yR ?_
 try dsimp only [St.put]
 refine ba rfl (bk rfl rfl rfl) ?_
 refine yE rfl rfl rfl ?_
 try dsimp only [St.put]
 refine ae rfl (cq rfl rfl rfl (by decide) (by decide) zR (by decide) ?_)
 try dsimp only [St.put]
 refine ae rfl (dq rfl rfl rfl (rq t e hl h) zG ?_)
 refine yM rfl rfl ?_
 refine yX rfl rfl rfl rfl ?_
 refine yX rfl rfl rfl rfl ?_
 refine yA rfl rfl ?_
 refine yA rfl rfl ?_
 refine yN ?_
 dsimp only [St.put]
 refine K2 _ ?_
 refine yS fun _ K3 => ?_
 refine yS fun _ K4 => ?_
 refine yR ?_
 refine yM rfl rfl ?_
 refine aa rfl (br (c := true) (cz rfl rfl rfl) (lf h)) ?_
 refine yN ?_
 dsimp only [St.put]
 refine K4 _ ?_
 refine ak rfl (fun _ => ?_) (fun h => by cases h)
 refine yS fun _ K5 => ?_
 refine yR ?_
 refine aa rfl (dg rfl rfl) ?_
 refine yM rfl rfl ?_
 try dsimp only [St.put]
 refine ae rfl (ax rfl rfl rfl zG rfl rfl (by rfl) ?_)
 refine yA rfl rfl ?_
 refine yN ?_
 dsimp only [St.put]
 refine K5 _ ?_
 refine ll nx 1 _ _ 28 5 zG rfl (by decide) ?_
 dsimp only [List.set_cons_zero, List.set_cons_succ]
 refine aj ?_
 refine ⟨(nx + 1, 0), by (dsimp only; omega), ?_⟩
 refine dj rfl (dr rfl zG (by rfl) (by first | exact List.cons_ne_nil _ _ | (simp; done) | (simp [putAt]; done)) rfl) (ci (by constructor)) zN zX ?_ ?_
 ·exact zW
 exact zW
theorem ul8 (t : af) (e : aw) (cp to : Int) (hl : e.ss.length ≤ 20) (h : cb t e = 0) (G : Nat → Option GObj) (nx : Nat) (hF : G 0 = some cr) :
  PC Tryz.prog 24 [b7 t, val e, .v (.int .i64 cp), .v (.int .i64 to)] G nx fun r' G' nx' => ∃ y : Nat × Nat, nx ≤ y.1 ∧ r' = (.tup [.agg [.v (.int .i64 (cm e (eb t e cp to) (fa t e cp to)).id), .own y.1 (cm e (eb t e cp to) (fa t e cp to)).ss.length (cm e (eb t e cp to) (fa t e cp to)).ss.length], .v (.int .i64 (eb t e cp to))]) ∧ G' = (ah G y.1 (.arr (cm e (eb t e cp to) (fa t e cp to)).ss.length y.2 28 5 (cm e (eb t e cp to) (fa t e cp to)).ss.length (bt (cm e (eb t e cp to) (fa t e cp to)).ss))) ∧ nx' = y.1 + 1 := by
 refine r6 (fun y : Nat × Nat => (.tup [.agg [.v (.int .i64 (cm e (eb t e cp to) (fa t e cp to)).id), .own y.1 (cm e (eb t e cp to) (fa t e cp to)).ss.length (cm e (eb t e cp to) (fa t e cp to)).ss.length], .v (.int .i64 (eb t e cp to))])) (fun y => (ah G y.1 (.arr (cm e (eb t e cp to) (fa t e cp to)).ss.length y.2 28 5 (cm e (eb t e cp to) (fa t e cp to)).ss.length (bt (cm e (eb t e cp to) (fa t e cp to)).ss)))) (fun y => y.1 + 1) (fun y => nx ≤ y.1) Tryz.func24 rfl (fun y hS => .tup (am (.agg (am .v (am (.own (Nat.lt_succ_self _)) bn))) (am .v bn))) (fun y hS => zN) (fun hlt y hS => (by (repeat' (refine f9 ?_ (by (try dsimp only); omega) ?_)); all_goals (first | exact gw zS | (repeat' (first | exact trivial | refine ⟨?_, ?_⟩ | exact .v | exact .any | refine .elem ?_ | exact bd _ _ | exact ed _ _ | exact da _ _ | exact eg _ (by (try dsimp only); omega) | exact .box (by (try dsimp only); omega) | exact dp | exact bn | exact du _ | refine ef ?_ ?_ | exact .arr (by (try dsimp only); omega) | exact .own (by (try dsimp only); omega) | exact .map (by (try dsimp only); omega) | exact du _ | refine am ?_ ?_ | exact bd _ _))))) ?_
 simp only [Tryz.ntmps24, List.length_cons, List.length_nil, Nat.reduceAdd, Nat.reduceSub]
 refine bf fun hlt => ?_
 dsimp only at hlt
 have hnx := hlt 0 _ hF
 have hS := mu h
 obtain ⟨ht, hl12, he⟩ := k8 (lp h).1
 have hbo : ∀ p v, av e.ss p = some v → -100000 ≤ v.2 ∧ v.2 ≤ 100000 := fun p v hv => by
  have := l8 he hv
  omega
 refine yS fun _ K1 => ?_
 refine yR ?_
 try dsimp only [St.put]
 refine yB rfl rfl rfl ?_
 try dsimp only [St.put]
 refine yB rfl rfl rfl ?_
 try dsimp only [St.put]
 refine ae rfl (bj rfl ?_)
 refine yA rfl rfl ?_
 refine yN ?_
 dsimp only [St.put]
 refine K1 _ ?_
 refine yS fun _ K2 => ?_
 refine yR ?_
 try dsimp only [St.put]
 refine ba rfl (bk rfl rfl rfl) ?_
 refine yE rfl rfl rfl ?_
 try dsimp only [St.put]
 refine ae rfl (cq rfl rfl rfl (by decide) (by decide) zR (by decide) ?_)
 try dsimp only [St.put]
 refine ae rfl (iy rfl rfl rfl (qc t e hl h _ _ zG) (fun y => ?_))
 refine yM rfl rfl ?_
 refine yX rfl rfl rfl rfl ?_
 refine yX rfl rfl rfl rfl ?_
 refine yA rfl rfl ?_
 refine yA rfl rfl ?_
 refine yN ?_
 dsimp only [St.put]
 refine K2 _ ?_
 refine yS fun _ K3 => ?_
 refine yS fun _ K4 => ?_
 refine yR ?_
 refine yM rfl rfl ?_
 refine aa rfl (br (c := false) (cz rfl rfl rfl) (by rfl)) ?_
 refine yN ?_
 dsimp only [St.put]
 refine K4 _ ?_
 refine ak rfl (fun h => by cases h) (fun _ => ?_)
 refine aq ?_
 refine K3 _ ?_
 refine yS fun _ K5 => ?_
 refine yR ?_
 refine yM rfl rfl ?_
 try dsimp only [St.put]
 refine aa rfl (b8 (k := 0) rfl rfl rfl (by first | rfl | omega) rfl rfl) ?_
 refine yL rfl rfl rfl ?_
 refine yA rfl rfl ?_
 refine yN ?_
 dsimp only [St.put]
 refine K5 _ ?_
 refine yS fun _ K6 => ?_
 refine bg ?_
 refine yS fun _ K7 => ?_
 refine yR ?_
 refine yM rfl rfl ?_
 refine yM rfl rfl ?_
 try dsimp only [St.put]
 refine ae rfl (cq rfl rfl rfl (by decide) (by decide) zR (by decide) ?_)
 try dsimp only [St.put]
 refine ae rfl (a7 rfl rfl rfl (n1 1 999 [cp, to]) ?_)
 refine aa rfl (c9 rfl rfl) ?_
 refine yA rfl rfl ?_
 refine yN ?_
 dsimp only [St.put]
 refine K7 _ ?_
 refine ak rfl (fun hc => ?_) (fun hc => ?_)
 ·have hin : jv 1 999 [cp, to] = false := by simpa using hc
  have hE : eb t e cp to = 2 := by simp [eb, h, hin]
  refine yS fun _ K8 => ?_
  refine yR ?_
  refine aa rfl (dg rfl rfl) ?_
  try dsimp only [St.put]
  refine ae rfl (ax rfl rfl rfl zG rfl rfl (by rfl) ?_)
  refine yA rfl rfl ?_
  refine yN ?_
  dsimp only [St.put]
  refine K8 _ ?_
  refine ll nx 1 _ _ 28 5 zG rfl (by decide) ?_
  dsimp only [List.set_cons_zero, List.set_cons_succ]
  refine aj ?_
  refine ⟨(nx + 5, 0), by (dsimp only; omega), ?_⟩
  rw [hE, show cm e 2 (fa t e cp to) = ⟨0, []⟩ from rfl]
  refine dj rfl (dr rfl zG (by rfl) (by first | exact List.cons_ne_nil _ _ | (simp; done) | (simp [putAt]; done)) rfl) (ci (by constructor)) zN zX ?_ ?_
  ·exact zW
  exact zW
 have hin : jv 1 999 [cp, to] = true := by simpa using hc
 have hin' := hin
 simp only [yd, Bool.and_eq_true, inB_true] at hin'
 have hl1 := ucv (t := t) he cp
 have hl2 := ucv (t := t) he to
 refine yS fun _ K9 => ?_
 refine yR ?_
 refine yM rfl rfl ?_
 refine yM rfl rfl ?_
 try dsimp only [St.put]
 refine ae rfl (fg rfl rfl rfl (ri t e _ _ _ cp hS _ _ (by dsimp only [St.put]; omega) (by dsimp only [St.put]; omega) zG) ?_)
 refine aa rfl (gx rfl rfl rfl) ?_
 refine yA rfl rfl ?_
 refine yN ?_
 dsimp only [St.put]
 refine K9 _ ?_
 refine ak rfl (fun hc => ?_) (fun hc => ?_)
 ·have hE : eb t e cp to = 6 := by
   have := of_decide_eq_true hc
   simp [eb, h, hin, this]
  refine yS fun _ K10 => ?_
  refine yR ?_
  refine aa rfl (dg rfl rfl) ?_
  try dsimp only [St.put]
  refine ae rfl (ax rfl rfl rfl zG rfl rfl (by rfl) ?_)
  refine yA rfl rfl ?_
  refine yN ?_
  dsimp only [St.put]
  refine K10 _ ?_
  refine ll nx 1 _ _ 28 5 zG rfl (by decide) ?_
  dsimp only [List.set_cons_zero, List.set_cons_succ]
  refine aj ?_
  refine ⟨(nx + 5, 0), by (dsimp only; omega), ?_⟩
  rw [hE, show cm e 6 (fa t e cp to) = ⟨0, []⟩ from rfl]
  refine dj rfl (dr rfl zG (by rfl) (by first | exact List.cons_ne_nil _ _ | (simp; done) | (simp [putAt]; done)) rfl) (ci (by constructor)) zN zX ?_ ?_
  ·exact zW
  exact zW
 have hlt6 := of_decide_eq_false hc
 refine yS fun _ K11 => ?_
 refine yR ?_
 refine yM rfl rfl ?_
 refine yM rfl rfl ?_
 refine aa rfl (gx rfl rfl rfl) ?_
 refine et (fun hs => ?_) (fun hs => ?_)
 ·have h92 := of_decide_eq_true hs
  refine yM rfl rfl ?_
  refine yK rfl ?_
  refine yK rfl ?_
  refine yK rfl ?_
  refine yK rfl ?_
  refine yK rfl ?_
  refine yK rfl ?_
  refine yK rfl ?_
  refine yK rfl ?_
  refine aa rfl (co rfl rfl (by constructor)) ?_
  refine yA rfl rfl ?_
  refine yN ?_
  dsimp only [St.put]
  refine K11 _ ?_
  refine ak rfl (fun _ => ?_) (fun h => by cases h)
  have hfull : (decide (cp = to) || decide (999 < i5 t e.ss cp + i5 t e.ss to)) = true := by
   (simp [h92]; done)
  have hE : eb t e cp to = 9 := by simp only [eb, h, hin, hlt6, hfull, decide_true, decide_false, cond_true, cond_false]
  refine yS fun _ K12 => ?_
  refine yR ?_
  refine aa rfl (dg rfl rfl) ?_
  try dsimp only [St.put]
  refine ae rfl (ax rfl rfl rfl zG rfl rfl (by rfl) ?_)
  refine yA rfl rfl ?_
  refine yN ?_
  dsimp only [St.put]
  refine K12 _ ?_
  refine ll nx 1 _ _ 28 5 zG rfl (by decide) ?_
  dsimp only [List.set_cons_zero, List.set_cons_succ]
  refine aj ?_
  refine ⟨(nx + 5, 0), by (dsimp only; omega), ?_⟩
  rw [hE, show cm e 9 (fa t e cp to) = ⟨0, []⟩ from rfl]
  refine dj rfl (dr rfl zG (by rfl) (by first | exact List.cons_ne_nil _ _ | (simp; done) | (simp [putAt]; done)) rfl) (ci (by constructor)) zN zX ?_ ?_
  ·exact zW
  exact zW
 have h92 := of_decide_eq_false hs
 refine yM rfl rfl ?_
 refine yM rfl rfl ?_
 refine yM rfl rfl ?_
 try dsimp only [St.put]
 refine ae rfl (fg rfl rfl rfl (ri t e _ _ _ cp hS _ _ (by dsimp only [St.put]; omega) (by dsimp only [St.put]; omega) zG) ?_)
 refine yM rfl rfl ?_
 refine yM rfl rfl ?_
 try dsimp only [St.put]
 refine ae rfl (fg rfl rfl rfl (ri t e _ _ _ to hS _ _ (by dsimp only [St.put]; omega) (by dsimp only [St.put]; omega) zG) ?_)
 refine aa rfl (ca rfl rfl rfl (by omega)) ?_
 refine aa rfl (io rfl rfl rfl) ?_
 refine aa rfl (dh rfl rfl (by constructor)) ?_
 refine yA rfl rfl ?_
 refine yN ?_
 dsimp only [St.put]
 refine K11 _ ?_
 refine ak rfl (fun hc => ?_) (fun hc => ?_)
 ·have hfull : (decide (cp = to) || decide (999 < i5 t e.ss cp + i5 t e.ss to)) = true := by
   (have := of_decide_eq_true hc; simp [this]; done)
  have hE : eb t e cp to = 9 := by simp only [eb, h, hin, hlt6, hfull, decide_true, decide_false, cond_true, cond_false]
  refine yS fun _ K13 => ?_
  refine yR ?_
  refine aa rfl (dg rfl rfl) ?_
  try dsimp only [St.put]
  refine ae rfl (ax rfl rfl rfl zG rfl rfl (by rfl) ?_)
  refine yA rfl rfl ?_
  refine yN ?_
  dsimp only [St.put]
  refine K13 _ ?_
  refine ll nx 1 _ _ 28 5 zG rfl (by decide) ?_
  dsimp only [List.set_cons_zero, List.set_cons_succ]
  refine aj ?_
  refine ⟨(nx + 5, 0), by (dsimp only; omega), ?_⟩
  rw [hE, show cm e 9 (fa t e cp to) = ⟨0, []⟩ from rfl]
  refine dj rfl (dr rfl zG (by rfl) (by first | exact List.cons_ne_nil _ _ | (simp; done) | (simp [putAt]; done)) rfl) (ci (by constructor)) zN zX ?_ ?_
  ·exact zW
  exact zW
 have hfull : (decide (cp = to) || decide (999 < i5 t e.ss cp + i5 t e.ss to)) = false := by
  have := of_decide_eq_false hc
  simp [h92, this]
 have hE : eb t e cp to = iw (fa t e cp to) := by
  simp only [eb, h, hin, hlt6, hfull, decide_true, decide_false, cond_true, cond_false]
 refine aq ?_
 refine K6 _ ?_
 refine yS fun _ K14 => ?_
 refine yR ?_
 refine yM rfl rfl ?_
 refine yM rfl rfl ?_
 refine yM rfl rfl ?_
 refine yM rfl rfl ?_
 refine yM rfl rfl ?_
 try dsimp only [St.put]
 refine ae rfl (fg rfl rfl rfl (ri t e _ _ _ to hS _ _ (by dsimp only [St.put]; omega) (by dsimp only [St.put]; omega) zG) ?_)
 try dsimp only [St.put]
 refine ae rfl (uea rfl rfl rfl (ub5 t e _ _ _ _ cp 1 to (i5 t e.ss to) (av e.ss) (cn e.ss) ht (ub6 he (by omega)) hbo (by omega) _ _ (by dsimp only [St.put]; omega) (by dsimp only [St.put]; omega) (by omega) zG zG) (fun y3 hy3 => ?_))
 dsimp only [St.put] at hy3
 refine yX rfl rfl rfl rfl ?_
 refine yX rfl rfl rfl rfl ?_
 try dsimp only [St.put]
 refine ae rfl (ax rfl rfl rfl zG rfl rfl (by rfl) ?_)
 refine yA rfl rfl ?_
 refine yN ?_
 dsimp only [St.put]
 rw [show fy (ep (av e.ss) cp 1 to (i5 t e.ss to)) (dn t) = fa t e cp to from rfl]
 refine K14 _ ?_
 refine aj ?_
 refine ⟨(y3.1, y3.2), by (dsimp only; omega), ?_⟩
 rw [hE]
 refine dj rfl (dr rfl zG (by rfl) (by first | exact List.cons_ne_nil _ _ | (simp; done) | (simp [putAt]; done)) rfl) (ci (by constructor)) zN zX ?_ ?_
 ·exact zW
 exact zW
theorem ul7 (t : af) (e : aw) (cp to : Int) (hl : e.ss.length ≤ 20) (G : Nat → Option GObj) (nx : Nat) (hF : G 0 = some cr) :
  PC Tryz.prog 24 [b7 t, val e, .v (.int .i64 cp), .v (.int .i64 to)] G nx fun r' G' nx' => ∃ y : Nat × Nat, nx ≤ y.1 ∧ r' = (.tup [.agg [.v (.int .i64 (cm e (eb t e cp to) (fa t e cp to)).id), .own y.1 (cm e (eb t e cp to) (fa t e cp to)).ss.length (cm e (eb t e cp to) (fa t e cp to)).ss.length], .v (.int .i64 (eb t e cp to))]) ∧ G' = (ah G y.1 (.arr (cm e (eb t e cp to) (fa t e cp to)).ss.length y.2 28 5 (cm e (eb t e cp to) (fa t e cp to)).ss.length (bt (cm e (eb t e cp to) (fa t e cp to)).ss))) ∧ nx' = y.1 + 1 := by
 by_cases h : cb t e = 0
 ·exact ul8 t e cp to hl h G nx hF
 exact ul9 t e cp to hl h G nx hF
end Go.Proofs.YtjjklfgpffgnfabGreatDoor

/-
  What the walks through the program rest on: values, states, steps, calls (HbLeaf, HfRead, HgRight).
-/
import Derived.Test.YtejhjijbgceklaaGreatDoorHaCopy
import Derived.Test.YtejhjijbgceklaaGreatDoorEcRefer
import Derived.Test.YtejhjijbgceklaaGreatDoorEgComp
import Derived.Test.YtejhjijbgceklaaGreatDoorGrpP
import Derived.Test.YtejhjijbgceklaaGreatDoorGrpO
import Derived.Test.YtejhjijbgceklaaGreatDoorGrpR
import Derived.Test.YtejhjijbgceklaaGreatDoorLayD
import Derived.WalkKit
import Derived.Test.YtejhjijbgceklaaGreatDoorAbRem
import Derived.Test.YtejhjijbgceklaaGreatDoorAbFull
namespace Go.AB
open Go Go.RowKit
open Go.AB.Enc (cells)
open Go.PB (Chap TextD PlaceD ReadingD CopyD WayD)
/-- the first of some numbers that is not nought -/
def orP (xs : List Int) : Int := (xs.find? fun x => !decide (x = 0)).getD 0
theorem orP_some {xs : List Int} {k : Nat} {x : Int} (hx : xs[k]? = some x) (hne : x ≠ 0) (h : ∀ y ∈ xs.take k, y = 0) : orP xs = x := by
 unfold orP
 rw [List.find?_eq_some_iff_append.2 ⟨by simpa using hne, xs.take k, xs.drop (k + 1), ?_, fun y hy => by simp [h y hy]⟩]
 ·rfl
 obtain ⟨h1, h2⟩ := List.getElem?_eq_some_iff.1 hx
 rw [← h2, ← List.drop_eq_getElem_cons h1, List.take_append_drop]
theorem orP_none {xs : List Int} (h : ∀ y ∈ xs, y = 0) : orP xs = 0 := by
 unfold orP
 rw [List.find?_eq_none.2 fun y hy => by simp [h y hy]]
 rfl
theorem orP_cmp (a b : PlaceD) : orP [cmpI a.ch b.ch, cmpI a.ln b.ln, cmpI a.wd b.wd] = cmpP a b := by
 obtain ⟨a1, a2, a3⟩ := a
 obtain ⟨b1, b2, b3⟩ := b
 have key : ∀ x y : Int, (x < y ∧ ¬ y < x ∧ ¬ x = y) ∨ (y < x ∧ ¬ x < y ∧ ¬ x = y) ∨ x = y := fun x y => by omega
 rcases key a1 b1 with ⟨h1, h2, h3⟩ | ⟨h1, h2, h3⟩ | rfl
 ·simp [orP, cmpI, cmpP, h1, h2, h3]
 ·simp [orP, cmpI, cmpP, h1, h2, h3]
 rcases key a2 b2 with ⟨h1, h2, h3⟩ | ⟨h1, h2, h3⟩ | rfl
 ·simp [orP, cmpI, cmpP, h1, h2, h3]
 ·simp [orP, cmpI, cmpP, h1, h2, h3]
 rcases key a3 b3 with ⟨h1, h2, h3⟩ | ⟨h1, h2, h3⟩ | rfl
 ·simp [orP, cmpI, cmpP, h1, h2, h3]
 ·simp [orP, cmpI, cmpP, h1, h2, h3]
 simp [orP, cmpI, cmpP]
theorem mem_take_step {α : Type} {l : List α} {k : Nat} {x : α} {p : α → Prop} (hx : l[k]? = some x) (hp : p x) (h : ∀ y ∈ l.take k, p y) : ∀ y ∈ l.take (k + 1), p y := fun y hy => by
 rw [List.take_add_one, hx] at hy
 simp only [Option.toList_some, List.mem_append, List.mem_singleton] at hy
 rcases hy with hy | rfl
 ·exact h y hy
 exact hp
/-- what a kind of readings asks, and makes -/
def kRight (k : Nat) (own put : ByteArray) : Bool := bif decide (k = 1) then decide (put = ByteArray.empty) else bif decide (k = 2) then wordB put else wordB put && !decide (put = own)
def kMakes (k : Nat) (own put : ByteArray) : List ByteArray := bif decide (k = 1) then [] else bif decide (k = 2) then [put, own] else [put]
def kBehind (k : Nat) : Int := bif decide (k = 2) then 1 else 0
theorem n_indexAddr_fact {P : Program} {o : Oper} {st : St} {t : TypeId} {x i : Operand} {m j : Nat} {v : Value} {cs : List C} {d : C} {ds : List C} {e : TypeId} {ik : IntKind} {n : Int} {k sz : Nat} {ag : Bool} [ArrT P t m e] [Ty P e ag sz] (ho : o.op = .indexAddr t x i) (hx : evC st x = .v v) (hG : st.G j = some (.fact v (.elem cs))) (hi : evC st i = .v (.int ik n)) (hn : n = (k : Int)) (hk : k < m) (hd : cs.drop (k * sz) = d :: ds) : NStep P o st (.elem (d :: ds)) := fun E w a hs => by
 subst hn
 have e1 := (hi ▸ hs.ev i).v_inv
 have e0 := (hx ▸ hs.ev x).v_inv
 obtain ⟨b, off, us, hv, h1, h2, h3, h4, _⟩ := (hs.g.obj j _ hG).2.elem_inv
 refine ⟨.pointer (some ⟨b, off + k * sz, none⟩), hd ▸ R.elem_drop h1 h2 h3 h4 (k * sz) (by rw [hd]; simp), fun w' => ?_⟩
 have q1 := ArrT.spec (P := P) (t := t) (n := m) (e := e)
 have q2 := Ty.size (P := P) (w := w') (t := e) (ag := ag) (n := sz)
 have q3 : (k : Int) < (m : Int) := by omega
 simp [execOp, ho, Instr.indexAt, Instr.sureAddr, e0, hv, e1, asIntOf, run_underlying q1, q2, q3, addr_add]
 intro h; omega
/-- A call that leaves all as it was, where a fact is known by a name. -/
def PureN (n : Nat) (F : GObj) (P : Program) (f : FuncId) (args : List C) (r : C) : Prop := ∀ G nx, G n = some F → n < nx → PC P f args G nx fun r' G' nx' => r' = r ∧ G' = G ∧ nx' = nx
theorem Pure.n {n : Nat} {F : GObj} {P : Program} {f : FuncId} {args : List C} {r : C} (h : Pure P f args r) : PureN n F P f args r := fun G nx _ _ => h G nx
theorem e_call_n {n : Nat} {F : GObj} {P : Program} {o : Oper} {st : St} {f : FuncId} [Fun P f] {fv : Operand} {args : List Operand} {ats : Array TypeId} {caps al : List C} {K : St → Prop} {r : C} (ho : o.op = .call { callee := .value fv, args := args.toArray, argTypes := ats }) (hf : evC st fv = .fn (.func f) caps) (has : args.map (evC st) ++ caps = al)
  (hp : PureN n F P f al r) (hG : st.G n = some F) (hn : n < st.nx) (h : K (st.put o.dst r)) : EStep P o st K := e_call_one ho hf has (hp _ _ hG hn) h
theorem readingB_cases (t : TextD) (r : ReadingD) {l : List ByteArray} (hw : wordsOf t (r.pl.ch, r.pl.ln) = some l) {k : Nat} (hk : r.kind = (k : Int)) (h1 : 1 ≤ k) (h3 : k ≤ 3) : readingB t r = (inB r.pl.wd 0 ((l.length : Int) - 1 + kBehind k) && kRight k (ownW l r.pl.wd.toNat) r.word) := by
 unfold readingB
 rw [hw]
 dsimp only
 have : k = 1 ∨ k = 2 ∨ k = 3 := by omega
 rcases this with rfl | rfl | rfl
 ·simp [hk, kRight, kBehind]
 ·simp [hk, kRight, kBehind]
 simp [hk, kRight, kBehind]
theorem readingB_none {t : TextD} {r : ReadingD} (hw : wordsOf t (r.pl.ch, r.pl.ln) = none) : readingB t r = false := by
 unfold readingB
 rw [hw]
theorem readingB_odd {t : TextD} {r : ReadingD} (h : inB r.kind 1 3 = false) : readingB t r = false := by
 rw [inB_false] at h
 unfold readingB
 cases wordsOf t (r.pl.ch, r.pl.ln) with
 | none => rfl
 | some l =>
  dsimp only
  rw [decide_eq_false (show ¬ r.kind = 1 by omega), decide_eq_false (show ¬ r.kind = 2 by omega), decide_eq_false (show ¬ r.kind = 3 by omega)]
  rfl
theorem makesR_k {own : ByteArray} {r : ReadingD} {k : Nat} (hk : r.kind = (k : Int)) : makesR own r = kMakes k own r.word := by
 unfold makesR kMakes
 have e1 : decide (r.kind = 1) = decide (k = 1) := by rw [hk]; exact decide_eq_decide.2 (by omega)
 have e2 : decide (r.kind = 2) = decide (k = 2) := by rw [hk]; exact decide_eq_decide.2 (by omega)
 rw [e1, e2]
end Go.AB
namespace Go.Proofs.YtejhjijbgceklaaGreatDoor
set_option maxRecDepth 10000
open Go.RowKit Go.AB
open Go.AB.Enc (cells)
open Go.PB (Chap TextD PlaceD ReadingD CopyD WayD)
theorem cmpOr_pure (xs : List Int) : Pure Tryz.prog 89 [lst xs] (.v (.int .i64 (orP xs))) := by
 refine pure_of_body Tryz.func89 rfl (fun m => .v) fun G nx => ?_
 simp only [Tryz.ntmps89, List.length_cons, List.length_nil, Nat.reduceAdd, Nat.reduceSub]
 refine aw_lt fun hlt => ?_
 dsimp only at hlt
 refine aw_fit 0 (fun hf => ?_)
 replace hf := (fit_lst.1 hf).1
 refine yS fun _ K1 => ?_
 refine yR ?_
 refine yA rfl rfl ?_
 refine yN ?_
 dsimp only [St.put]
 refine K1 _ ?_
 refine yS fun _ K2 => ?_
 refine yR ?_
 refine yA rfl rfl ?_
 refine yN ?_
 dsimp only [St.put]
 refine K2 _ ?_
 refine yS fun _ K3 => ?_
 refine yS fun _ K4 => ?_
 refine yR ?_
 refine yM rfl rfl ?_
 refine aops_n rfl (n_len' rfl rfl (List.length_map _)) ?_
 refine yM rfl rfl ?_
 refine yN ?_
 dsimp only [St.put]
 refine K4 _ ?_
 refine aw_block ?_
 refine aw_wipe 9 ?_
 simp only [firsts, getA, Nat.reduceAdd, List.getD_cons_zero, List.getD_cons_succ, List.getD_nil, natBeq, Nat.reduceBEq, cond_true, cond_false]
 refine aw_forget (G) zX ?_
 dsimp only
 refine aw_loopD (X := Nat) (fun k => k ≤ xs.length ∧ ∀ y ∈ xs.take k, y = 0) (fun k => xs.length - k) (fun k => [(4, .any), (5, .any), (8, .v (.int .i64 (k : Int)))]) (fun k G' => G') 0 rfl ?_ ?_ (fun _ _ h => h) ?_ ?_ ?_
 ·exact ⟨by simp, by simp⟩
 ·exact zF
 ·rintro k hI
  exact zL
 ·exact fun _ _ _ _ h => .inl h
 rintro k hI
 dsimp only at hI ⊢
 refine yS fun _ K5 => ?_
 refine yR ?_
 refine aops_n rfl (n_lss rfl rfl rfl) ?_
 refine yN ?_
 dsimp only [St.put]
 refine K5 _ ?_
 refine yS fun _ K6 => ?_
 refine aw_cond rfl (fun hc => ?_) (fun hc => ?_)
 ·replace hc := of_decide_eq_true hc
  obtain ⟨x, hx⟩ : ∃ x, xs[k]? = some x := some_of_lt (by omega)
  refine aw_skip ?_
  refine K6 _ ?_
  refine yS fun _ K7 => ?_
  refine aw_block ?_
  refine yS fun _ K8 => ?_
  refine yR ?_
  refine aops_n rfl (n_indexAddr rfl rfl rfl rfl (map_get (by assumption)) (Enc.len _)) ?_
  refine yL rfl rfl rfl ?_
  refine yA rfl rfl ?_
  refine yN ?_
  dsimp only [St.put]
  refine K8 _ ?_
  refine yS fun _ K9 => ?_
  refine yR ?_
  refine yM rfl rfl ?_
  refine yM rfl rfl ?_
  refine aops_n rfl (n_neq rfl rfl rfl) ?_
  refine yN ?_
  dsimp only [St.put]
  refine K9 _ ?_
  refine aw_cond rfl (fun hc => ?_) (fun hc => ?_)
  ·replace hc := nd_t hc
   refine yS fun _ K10 => ?_
   refine yR ?_
   refine yM rfl rfl ?_
   refine yA rfl rfl ?_
   refine yN ?_
   dsimp only [St.put]
   refine K10 _ ?_
   refine aw_ret ?_
   refine ends_1 rfl (by constructor) zN zS ?_
   exact vi (orP_some hx hc hI.2).symm
  replace hc := nd_f hc
  refine aw_skip ?_
  refine K7 _ ?_
  refine yR ?_
  refine aops_n rfl (n_add rfl rfl rfl (by omega)) ?_
  refine yM rfl rfl ?_
  refine yN ?_
  dsimp only [St.put]
  exact ⟨k + 1, by omega, ⟨by omega, mem_take_step hx hc hI.2⟩, ⟨⟨rfl, rfl⟩, zF, zB, zN, zX⟩⟩
 try replace hc := of_decide_eq_false hc
 refine aw_exit ?_
 refine K3 _ ?_
 refine yS fun _ K11 => ?_
 refine yR ?_
 refine yM rfl rfl ?_
 refine yA rfl rfl ?_
 refine yN ?_
 dsimp only [St.put]
 refine K11 _ ?_
 refine aw_ret ?_
 refine ends_1 rfl (by constructor) zN zS ?_
 exact vi (by
  rw [orP_none]
  have := hI.2
  rwa [take_all (by omega)] at this)
theorem leafOrder_pure (a b : PlaceD) : Pure Tryz.prog 76 [val a, val b] (.v (.int .i64 (cmpP a b))) := by
 refine pure_of_body Tryz.func76 rfl (fun m => .v) fun G nx => ?_
 simp only [Tryz.ntmps76, List.length_cons, List.length_nil, Nat.reduceAdd, Nat.reduceSub]
 refine aw_lt fun hlt => ?_
 dsimp only at hlt
 refine yS fun _ K1 => ?_
 refine yR ?_
 try dsimp only [St.put]
 refine yB rfl rfl rfl ?_
 try dsimp only [St.put]
 refine yB rfl rfl rfl ?_
 refine yA rfl rfl ?_
 refine yN ?_
 dsimp only [St.put]
 refine K1 _ ?_
 refine yS fun _ K2 => ?_
 refine aw_draw [(0, none), (1, none), (2, none), (3, none), (5, none), (6, none), (7, none), (8, none), (10, none), (11, none), (12, none), (13, none), (4, none), (9, none), (14, none), (15, none), (16, none), (17, none)] (fun i => [14, 15, 16].contains i) (fun i => [4, 9, 14, 15, 16].contains i) (fun i => [0, 2, 5, 7, 10, 12, 17].contains i) [] (by kernel_rfl) (by kernel_rfl) ?_
 refine acan1_n rfl rfl rfl rfl (n_fieldAddr' rfl rfl rfl) ?_
 try dsimp only [St.put]
 refine acan1_s rfl rfl rfl rfl (s_load rfl rfl) ?_
 refine acan1_n rfl rfl rfl rfl (n_fieldAddr' rfl rfl rfl) ?_
 try dsimp only [St.put]
 refine acan1_s rfl rfl rfl rfl (s_load rfl rfl) ?_
 refine acan1_n rfl rfl rfl rfl (n_fieldAddr' rfl rfl rfl) ?_
 try dsimp only [St.put]
 refine acan1_s rfl rfl rfl rfl (s_load rfl rfl) ?_
 refine acan1_n rfl rfl rfl rfl (n_fieldAddr' rfl rfl rfl) ?_
 try dsimp only [St.put]
 refine acan1_s rfl rfl rfl rfl (s_load rfl rfl) ?_
 refine acan1_n rfl rfl rfl rfl (n_fieldAddr' rfl rfl rfl) ?_
 try dsimp only [St.put]
 refine acan1_s rfl rfl rfl rfl (s_load rfl rfl) ?_
 refine acan1_n rfl rfl rfl rfl (n_fieldAddr' rfl rfl rfl) ?_
 try dsimp only [St.put]
 refine acan1_s rfl rfl rfl rfl (s_load rfl rfl) ?_
 refine acan1_two ?_
 try dsimp only [St.put]
 refine acan2_e rfl rfl rfl (e_call_pure rfl rfl rfl (cmpCompare_pure _ _) ⟨zD, ?_⟩)
 try dsimp only [St.put]
 refine acan2_e rfl rfl rfl (e_call_pure rfl rfl rfl (cmpCompare_pure _ _) ⟨zD, ?_⟩)
 try dsimp only [St.put]
 refine acan2_late rfl rfl rfl rfl (e_call_pure rfl rfl rfl (cmpCompare_pure _ _) ?_)
 try dsimp only [St.put]
 refine acan2_late rfl rfl rfl rfl (e_buildSlice rfl rfl rfl (by decide) (by decide) zR (by decide) ?_)
 try dsimp only [St.put]
 refine acan2_late rfl rfl rfl rfl (e_call_pure rfl rfl rfl (cmpOr_pure [cmpI a.ch b.ch, cmpI a.ln b.ln, cmpI a.wd b.wd]) ?_)
 refine acan2_n rfl rfl rfl rfl (n_as rfl (by constructor)) ?_
 refine acan2_nil ?_
 dsimp only [St.put]
 refine K2 _ ?_
 refine aw_ret ?_
 refine ends_1 rfl (by constructor) zN zS ?_
 exact vi (orP_cmp a b)
theorem leafOwn_pure (l : List ByteArray) (w : Nat) (hw : w ≤ l.length) : Pure Tryz.prog 67 [lst l, .v (.int .i64 (w : Int))] (.v (.string (ownW l w))) := by
 refine pure_of_body Tryz.func67 rfl (fun m => .v) fun G nx => ?_
 simp only [Tryz.ntmps67, List.length_cons, List.length_nil, Nat.reduceAdd, Nat.reduceSub]
 refine aw_lt fun hlt => ?_
 dsimp only at hlt
 refine yS fun _ K1 => ?_
 refine yR ?_
 refine yA rfl rfl ?_
 refine yN ?_
 dsimp only [St.put]
 refine K1 _ ?_
 refine yS fun _ K2 => ?_
 refine yS fun _ K3 => ?_
 refine yR ?_
 refine yM rfl rfl ?_
 refine yM rfl rfl ?_
 refine aops_n rfl (n_len' rfl rfl (List.length_map _)) ?_
 refine aops_n rfl (n_eql rfl rfl rfl) ?_
 refine yN ?_
 dsimp only [St.put]
 refine K3 _ ?_
 refine aw_cond rfl (fun hc => ?_) (fun hc => ?_)
 ·replace hc := of_decide_eq_true hc
  have h0 : ownW l w = ByteArray.empty := by unfold ownW; rw [List.getElem?_eq_none (by omega)]; rfl
  refine yS fun _ K4 => ?_
  refine yR ?_
  refine yA rfl rfl ?_
  refine yN ?_
  dsimp only [St.put]
  refine K4 _ ?_
  refine aw_ret ?_
  refine ends_1 rfl (by constructor) zN zS ?_
  rw [h0]
  rfl
 replace hc := of_decide_eq_false hc
 obtain ⟨s, hs⟩ : ∃ x, l[w]? = some x := some_of_lt (by omega)
 have h0 : ownW l w = s := by unfold ownW; rw [hs]; rfl
 refine aw_skip ?_
 refine K2 _ ?_
 refine yS fun _ K5 => ?_
 refine yR ?_
 refine yM rfl rfl ?_
 refine yM rfl rfl ?_
 refine aops_n rfl (n_indexAddr rfl rfl rfl rfl (map_get (by assumption)) (Enc.len _)) ?_
 refine yL rfl rfl rfl ?_
 refine yA rfl rfl ?_
 refine yN ?_
 dsimp only [St.put]
 refine K5 _ ?_
 refine aw_ret ?_
 refine ends_1 rfl (by constructor) zN zS ?_
 rw [h0]
theorem right1_pure (l : List ByteArray) (hl : l.length ≤ 100000) : Pure Tryz.prog 78 [lst l] (.v (.bool (!inB l.length 1 10))) := by
 refine pure_of_body Tryz.func78 rfl (fun m => .v) fun G nx => ?_
 simp only [Tryz.ntmps78, List.length_cons, List.length_nil, Nat.reduceAdd, Nat.reduceSub]
 refine aw_lt fun hlt => ?_
 dsimp only at hlt
 refine yS fun _ K1 => ?_
 refine yR ?_
 refine yA rfl rfl ?_
 refine yN ?_
 dsimp only [St.put]
 refine K1 _ ?_
 refine yS fun _ K2 => ?_
 refine yR ?_
 refine yM rfl rfl ?_
 refine aops_n rfl (n_len' rfl rfl (List.length_map _)) ?_
 try dsimp only [St.put]
 refine aops_e rfl (e_buildSlice rfl rfl rfl (by decide) (by decide) zR (by decide) ?_)
 try dsimp only [St.put]
 refine aops_e rfl (e_call_pure rfl rfl rfl (leafIn_pure _ _ [(l.length : Int)]) ?_)
 refine aops_n rfl (n_not rfl rfl) ?_
 refine yA rfl rfl ?_
 refine yN ?_
 dsimp only [St.put]
 refine K2 _ ?_
 refine aw_ret ?_
 refine ends_1 rfl (by constructor) zN zS ?_
 exact vb (by rw [inAll_one])
theorem kinds1_pure (own put : ByteArray) : Pure Tryz.prog 142 [.v (.string own), .v (.string put)] (.v (.bool (decide (put = ByteArray.empty)))) := by
 refine pure_of_body Tryz.func142 rfl (fun m => .v) fun G nx => ?_
 simp only [Tryz.ntmps142, List.length_cons, List.length_nil, Nat.reduceAdd, Nat.reduceSub]
 refine aw_lt fun hlt => ?_
 dsimp only at hlt
 refine yS fun _ K1 => ?_
 refine yR ?_
 refine yA rfl rfl ?_
 refine yN ?_
 dsimp only [St.put]
 refine K1 _ ?_
 refine yS fun _ K2 => ?_
 refine yR ?_
 refine yM rfl rfl ?_
 refine aops_n rfl (n_streq rfl rfl rfl) ?_
 refine yA rfl rfl ?_
 refine yN ?_
 dsimp only [St.put]
 refine K2 _ ?_
 refine aw_ret ?_
 refine ends_1 rfl (by constructor) zN zS ?_
 rfl
theorem kinds2_pure (own put : ByteArray) : Pure Tryz.prog 143 [.v (.string own), .v (.string put)] (lst ([] : List ByteArray)) := by
 refine pure_of_body Tryz.func143 rfl (fun m => (lst_low _ _)) fun G nx => ?_
 simp only [Tryz.ntmps143, List.length_cons, List.length_nil, Nat.reduceAdd, Nat.reduceSub]
 refine aw_lt fun hlt => ?_
 dsimp only at hlt
 refine yS fun _ K1 => ?_
 refine yR ?_
 refine yA rfl rfl ?_
 refine yN ?_
 dsimp only [St.put]
 refine K1 _ ?_
 refine yS fun _ K2 => ?_
 refine yR ?_
 refine yA rfl rfl ?_
 refine yN ?_
 dsimp only [St.put]
 refine K2 _ ?_
 refine aw_ret ?_
 refine ends_v1 rfl (rv_tmp (by constructor)) zN zS ?_
 exact zW
theorem kinds3_pure (own put : ByteArray) : Pure Tryz.prog 144 [.v (.string own), .v (.string put)] (.v (.bool (wordB put))) := by
 refine pure_of_body Tryz.func144 rfl (fun m => .v) fun G nx => ?_
 simp only [Tryz.ntmps144, List.length_cons, List.length_nil, Nat.reduceAdd, Nat.reduceSub]
 refine aw_lt fun hlt => ?_
 dsimp only at hlt
 refine yS fun _ K1 => ?_
 refine yR ?_
 refine yA rfl rfl ?_
 refine yN ?_
 dsimp only [St.put]
 refine K1 _ ?_
 refine yS fun _ K2 => ?_
 refine yR ?_
 refine yM rfl rfl ?_
 try dsimp only [St.put]
 refine aops_e rfl (e_call_pure rfl rfl rfl (word_pure put) ?_)
 refine yA rfl rfl ?_
 refine yN ?_
 dsimp only [St.put]
 refine K2 _ ?_
 refine aw_ret ?_
 refine ends_1 rfl (by constructor) zN zS ?_
 rfl
theorem kinds4_pure (own put : ByteArray) : Pure Tryz.prog 145 [.v (.string own), .v (.string put)] (lst [put, own]) := by
 refine pure_of_body Tryz.func145 rfl (fun m => (lst_low _ _)) fun G nx => ?_
 simp only [Tryz.ntmps145, List.length_cons, List.length_nil, Nat.reduceAdd, Nat.reduceSub]
 refine aw_lt fun hlt => ?_
 dsimp only at hlt
 refine yS fun _ K1 => ?_
 refine yR ?_
 refine yA rfl rfl ?_
 refine yN ?_
 dsimp only [St.put]
 refine K1 _ ?_
 refine yS fun _ K2 => ?_
 refine yR ?_
 refine yM rfl rfl ?_
 refine yM rfl rfl ?_
 try dsimp only [St.put]
 refine aops_e rfl (e_buildSlice rfl rfl rfl (by decide) (by decide) zR (by decide) ?_)
 refine yA rfl rfl ?_
 refine yN ?_
 dsimp only [St.put]
 refine K2 _ ?_
 refine aw_ret ?_
 refine ends_v1 rfl (rv_tmp (by constructor)) zN zS ?_
 exact zW
theorem kinds5_pure (own put : ByteArray) : Pure Tryz.prog 146 [.v (.string own), .v (.string put)] (.v (.bool (wordB put && !decide (put = own)))) := by
 refine pure_of_body Tryz.func146 rfl (fun m => .v) fun G nx => ?_
 simp only [Tryz.ntmps146, List.length_cons, List.length_nil, Nat.reduceAdd, Nat.reduceSub]
 refine aw_lt fun hlt => ?_
 dsimp only at hlt
 refine yS fun _ K1 => ?_
 refine yR ?_
 refine yA rfl rfl ?_
 refine yN ?_
 dsimp only [St.put]
 refine K1 _ ?_
 refine yS fun _ K2 => ?_
 refine yR ?_
 refine yM rfl rfl ?_
 try dsimp only [St.put]
 refine aops_e rfl (e_call_pure rfl rfl rfl (word_pure put) ?_)
 refine yM rfl rfl ?_
 refine aops_split (fun hs => ?_) (fun hs => ?_)
 ·try replace hs := of_decide_eq_true hs
  refine yM rfl rfl ?_
  refine yM rfl rfl ?_
  refine aops_n rfl (n_strne rfl rfl rfl) ?_
  refine aops_n rfl (n_pt rfl rfl (by constructor)) ?_
  refine yA rfl rfl ?_
  refine yN ?_
  dsimp only [St.put]
  refine K2 _ ?_
  refine aw_ret ?_
  refine ends_1 rfl (by constructor) zN zS ?_
  exact vb (by simp [hs])
 try replace hs := of_decide_eq_false hs
 refine yK rfl ?_
 refine yK rfl ?_
 refine yK rfl ?_
 refine aops_n rfl (n_pf rfl rfl (by constructor)) ?_
 refine yA rfl rfl ?_
 refine yN ?_
 dsimp only [St.put]
 refine K2 _ ?_
 refine aw_ret ?_
 refine ends_1 rfl (by constructor) zN zS ?_
 exact vb (by simp [hs])
theorem kinds6_pure (own put : ByteArray) : Pure Tryz.prog 147 [.v (.string own), .v (.string put)] (lst [put]) := by
 refine pure_of_body Tryz.func147 rfl (fun m => (lst_low _ _)) fun G nx => ?_
 simp only [Tryz.ntmps147, List.length_cons, List.length_nil, Nat.reduceAdd, Nat.reduceSub]
 refine aw_lt fun hlt => ?_
 dsimp only at hlt
 refine yS fun _ K1 => ?_
 refine yR ?_
 refine yA rfl rfl ?_
 refine yN ?_
 dsimp only [St.put]
 refine K1 _ ?_
 refine yS fun _ K2 => ?_
 refine yR ?_
 refine yM rfl rfl ?_
 try dsimp only [St.put]
 refine aops_e rfl (e_buildSlice rfl rfl rfl (by decide) (by decide) zR (by decide) ?_)
 refine yA rfl rfl ?_
 refine yN ?_
 dsimp only [St.put]
 refine K2 _ ?_
 refine aw_ret ?_
 refine ends_v1 rfl (rv_tmp (by constructor)) zN zS ?_
 exact zW
theorem IndexLines_pure (xs : List (List ByteArray)) (p : List ByteArray → Bool) (k : Nat) (caps : List C) [Fun Tryz.prog k] (hp : ∀ x ∈ xs, Pure Tryz.prog k (lst x :: caps) (.v (.bool (p x)))) : Pure Tryz.prog 91 [lst xs, .fn (.func k) caps] (.v (.int .i64 (idxOf p xs))) := by
 refine pure_of_body Tryz.func91 rfl (fun m => .v) fun G nx => ?_
 simp only [Tryz.ntmps91, List.length_cons, List.length_nil, Nat.reduceAdd, Nat.reduceSub]
 refine aw_lt fun hlt => ?_
 dsimp only at hlt
 refine aw_fit 0 (fun hf => ?_)
 replace hf := (fit_lst.1 hf).1
 refine yS fun _ K1 => ?_
 refine yR ?_
 refine yA rfl rfl ?_
 refine yN ?_
 dsimp only [St.put]
 refine K1 _ ?_
 refine yS fun _ K2 => ?_
 refine yS fun _ K3 => ?_
 refine yR ?_
 refine yM rfl rfl ?_
 refine aops_n rfl (n_len' rfl rfl (List.length_map _)) ?_
 refine yM rfl rfl ?_
 refine yN ?_
 dsimp only [St.put]
 refine K3 _ ?_
 refine aw_block ?_
 refine aw_wipe 9 ?_
 simp only [firsts, getA, Nat.reduceAdd, List.getD_cons_zero, List.getD_cons_succ, List.getD_nil, natBeq, Nat.reduceBEq, cond_true, cond_false]
 refine aw_forget (G) zX ?_
 dsimp only
 refine aw_loopD (X := Nat) (fun k => k ≤ xs.length ∧ ∀ y ∈ xs.take k, p y = false) (fun k => xs.length - k) (fun k => [(4, .any), (5, .any), (8, .v (.int .i64 (k : Int)))]) (fun k G' => G') 0 rfl ?_ ?_ (fun _ _ h => h) ?_ ?_ ?_
 ·exact ⟨by simp, by simp⟩
 ·exact zF
 ·rintro k hI
  exact zL
 ·exact fun _ _ _ _ h => .inl h
 rintro k hI
 dsimp only at hI ⊢
 refine yS fun _ K4 => ?_
 refine yR ?_
 refine aops_n rfl (n_lss rfl rfl rfl) ?_
 refine yN ?_
 dsimp only [St.put]
 refine K4 _ ?_
 refine yS fun _ K5 => ?_
 refine aw_cond rfl (fun hc => ?_) (fun hc => ?_)
 ·replace hc := of_decide_eq_true hc
  obtain ⟨x, hx⟩ : ∃ x, xs[k]? = some x := some_of_lt (by omega)
  refine aw_skip ?_
  refine K5 _ ?_
  refine yS fun _ K6 => ?_
  refine aw_block ?_
  refine yS fun _ K7 => ?_
  refine yR ?_
  refine yM rfl rfl ?_
  refine yA rfl rfl ?_
  refine yN ?_
  dsimp only [St.put]
  refine K7 _ ?_
  refine yS fun _ K8 => ?_
  refine yR ?_
  refine yM rfl rfl ?_
  refine yM rfl rfl ?_
  refine yM rfl rfl ?_
  refine aops_n rfl (n_indexAddr rfl rfl rfl rfl (map_get (by assumption)) (Enc.len _)) ?_
  refine yL rfl rfl rfl ?_
  try dsimp only [St.put]
  refine aops_e rfl (e_call_pure rfl rfl rfl (hp x (mem_of_get hx)) ?_)
  refine yN ?_
  dsimp only [St.put]
  refine K8 _ ?_
  refine aw_cond rfl (fun hc => ?_) (fun hc => ?_)
  ·skip
   refine yS fun _ K9 => ?_
   refine yR ?_
   refine yM rfl rfl ?_
   refine yA rfl rfl ?_
   refine yN ?_
   dsimp only [St.put]
   refine K9 _ ?_
   refine aw_ret ?_
   refine ends_1 rfl (by constructor) zN zS ?_
   exact vi (idxOf_some hx hc hI.2).symm
  skip
  refine aw_skip ?_
  refine K6 _ ?_
  refine yR ?_
  refine aops_n rfl (n_add rfl rfl rfl (by omega)) ?_
  refine yM rfl rfl ?_
  refine yN ?_
  dsimp only [St.put]
  exact ⟨k + 1, by omega, ⟨by omega, mem_take_step (p := fun y => p y = false) hx (by simpa using hc) hI.2⟩, ⟨⟨rfl, rfl⟩, zF, zB, zN, zX⟩⟩
 try replace hc := of_decide_eq_false hc
 refine aw_exit ?_
 refine K2 _ ?_
 refine yS fun _ K10 => ?_
 refine yR ?_
 refine yA rfl rfl ?_
 refine yN ?_
 dsimp only [St.put]
 refine K10 _ ?_
 refine aw_ret ?_
 refine ends_1 rfl (by constructor) zN zS ?_
 exact vi (by
  rw [idxOf_none]
  have := hI.2
  rwa [take_all (by omega)] at this)
theorem ContainsLines_pure (xs : List (List ByteArray)) (p : List ByteArray → Bool) (k : Nat) (caps : List C) [Fun Tryz.prog k] (hp : ∀ x ∈ xs, Pure Tryz.prog k (lst x :: caps) (.v (.bool (p x)))) : Pure Tryz.prog 77 [lst xs, .fn (.func k) caps] (.v (.bool (xs.any p))) := by
 refine pure_of_body Tryz.func77 rfl (fun m => .v) fun G nx => ?_
 simp only [Tryz.ntmps77, List.length_cons, List.length_nil, Nat.reduceAdd, Nat.reduceSub]
 refine aw_lt fun hlt => ?_
 dsimp only at hlt
 refine yS fun _ K1 => ?_
 refine yR ?_
 refine yA rfl rfl ?_
 refine yN ?_
 dsimp only [St.put]
 refine K1 _ ?_
 refine yS fun _ K2 => ?_
 refine yR ?_
 refine yM rfl rfl ?_
 refine yM rfl rfl ?_
 try dsimp only [St.put]
 refine aops_e rfl (e_call_pure rfl rfl rfl (IndexLines_pure xs p k caps hp) ?_)
 refine aops_n rfl (n_geq rfl rfl rfl) ?_
 refine yA rfl rfl ?_
 refine yN ?_
 dsimp only [St.put]
 refine K2 _ ?_
 refine aw_ret ?_
 refine ends_1 rfl (by constructor) zN zS ?_
 exact vb idxOf_any
end Go.Proofs.YtejhjijbgceklaaGreatDoor
namespace Go.AB
open Go Go.RowKit
open Go.AB.Enc (cells)
open Go.PB (Chap TextD PlaceD ReadingD CopyD WayD)
theorem readC_lines {rs : List ReadingD} {k m : Nat} {c : Chap} {l : List ByteArray} (h : c.lines[m]? = some l) : (readC rs k c).lines[m]? = some (readL rs (k : Int) (m : Int) l) := by
 unfold readC
 dsimp only
 rw [List.getElem?_mapIdx, h]; rfl
theorem readT_at {t : TextD} {rs : List ReadingD} {k : Nat} {c : Chap} (h : t[k]? = some c) : (readT t rs)[k]? = some (readC rs k c) := by
 rw [readT_get, h]; rfl
theorem readC_len (rs : List ReadingD) (k : Nat) (c : Chap) : (readC rs k c).lines.length = c.lines.length := by simp [readC]
theorem readT_len (t : TextD) (rs : List ReadingD) : (readT t rs).length = t.length := by simp [readT]
theorem rawR_ne {t : TextD} {rs : List ReadingD} (hv : rsB t rs = true) {k n : Nat} {c : Chap} {l : List ByteArray} (hc : t[k]? = some c) (hl : c.lines[n]? = some l) : rawR rs (k : Int) (n : Int) l (l.length + 1) ≠ [] := by
 rw [rawR_succ]
 have : progR (ownW l l.length) (readsAt rs ⟨(k : Int), (n : Int), (l.length : Int)⟩) ≠ [] := progR_last fun r hr => by
  obtain ⟨h1, h2⟩ := List.mem_filter.1 hr
  have hp := of_decide_eq_true h2
  obtain ⟨l', hw, hk⟩ := readingB_kind ((rsB_true.1 hv).1 r h1)
  have e1 : r.pl.ch = (k : Int) := by rw [hp]
  have e2 : r.pl.ln = (n : Int) := by rw [hp]
  have e3 : r.pl.wd = (l.length : Int) := by rw [hp]
  rw [e1, e2, wordsOf_get hc hl] at hw
  cases hw
  rcases hk with ⟨_, _, h5, _⟩ | ⟨h5, _⟩ | ⟨_, _, h5, _⟩
  ·omega
  ·exact h5
  omega
 intro h
 exact this (List.append_eq_nil_iff.1 h).2
end Go.AB
namespace Go.Proofs.YtejhjijbgceklaaGreatDoor
set_option maxRecDepth 10000
open Go.RowKit Go.AB
open Go.AB.Enc (cells)
open Go.PB (Chap TextD PlaceD ReadingD CopyD WayD)
theorem read1_calls (W : World) (y : ByteArray) : Calls Tryz.prog 69 #[.string y] W fun e w' => e = .returned (.bool (decide (y = ByteArray.empty))) ∧ ∃ q, w' = W.drewN q := by
 have h0 : (y.toList == ByteArray.empty.toList) = decide (y = ByteArray.empty) := toList_beq y ByteArray.empty
 go_enter Tryz.func69, Tryz.ntmps69
 go_wp2
 go_ret
 have h1 : y.toList.isEmpty = decide (y = ByteArray.empty) := by
  rw [← h0, show ByteArray.empty.toList = [] by first | decide +kernel | simp]
  cases y.toList <;> rfl
 exact ⟨by rw [← h1]; rfl, 0, rfl⟩
abbrev kndL : List C := [.v (.int .i64 0), .v .nilFunc, .v .nilFunc, .v (.int .i64 0), .fn (.func 142) [], .fn (.func 143) [], .v (.int .i64 1), .fn (.func 144) [], .fn (.func 145) [], .v (.int .i64 0), .fn (.func 146) [], .fn (.func 147) []]
abbrev kndF : GObj := .fact (.pointer (some ⟨0, 0, none⟩)) (.elem kndL)
theorem knd_get {k : Nat} (h1 : 1 ≤ k) (h3 : k ≤ 3) : ∃ (f g : Nat) (rest : List C), kndL.drop (k * 3) = C.v (.int .i64 (kBehind k)) :: C.fn (.func f) [] :: C.fn (.func g) [] :: rest ∧ Fun Tryz.prog f ∧ Fun Tryz.prog g ∧ (∀ own put, Pure Tryz.prog f [.v (.string own), .v (.string put)] (.v (.bool (kRight k own put)))) ∧ (∀ own put, Pure Tryz.prog g [.v (.string own), .v (.string put)] (lst (kMakes k own put))) := by
 obtain rfl | rfl | rfl : k = 1 ∨ k = 2 ∨ k = 3 := by omega
 ·exact ⟨_, _, _, rfl, inferInstance, inferInstance, kinds1_pure, kinds2_pure⟩
 ·exact ⟨_, _, _, rfl, inferInstance, inferInstance, fun _ p => kinds3_pure _ p, kinds4_pure⟩
 exact ⟨_, _, _, rfl, inferInstance, inferInstance, kinds5_pure, fun _ p => kinds6_pure _ p⟩
set_option maxHeartbeats 4000000 in
theorem bookRead_pureN (n : Nat) (t : TextD) (c : CopyD) (ht : textB t = true) (hl20 : c.rs.length ≤ 20) (hv : rsB t c.rs = true) : PureN n kndF Tryz.prog 40 [.elem [lst t], val c] (textC (readT t c.rs)) := fun G nx hF hnx => by
 refine pc_named_of_body (G) (nx) Tryz.func40 rfl (.agg (low_cons (lst_low _ _) low_nil)) zN (fun hlt => zH) ?_
 simp only [Tryz.ntmps40, List.length_cons, List.length_nil, Nat.reduceAdd, Nat.reduceSub]
 refine aw_lt fun hlt => ?_
 dsimp only at hlt
 have hlt0 : ∀ n o, (setG G nx (.box 0 [.list [] .nil])) n = some o → n < nx + 1 + 1 := fun j o h => by
  simp only [setG] at h
  split at h
  ·omega
  have := hlt j o h; omega
 obtain ⟨htx1, htx2, htx3⟩ := text_ok ht
 obtain ⟨hv1, hv2⟩ := rsB_true.1 hv
 have hM : nx + 1 < nx + 1 + 1 := Nat.lt_succ_self _
 refine yS fun _ K1 => ?_
 refine yR ?_
 try dsimp only [St.put]
 refine yB rfl rfl rfl ?_
 try dsimp only [St.put]
 refine aops_e rfl (e_allocC rfl ?_)
 refine yN ?_
 dsimp only [St.put]
 refine K1 _ ?_
 refine yS fun _ K2 => ?_
 refine yR ?_
 try dsimp only [St.put]
 refine aops_e rfl (e_makeMapN (α := PlaceD) rfl ?_)
 refine yA rfl rfl ?_
 refine yN ?_
 dsimp only [St.put]
 refine K2 _ ?_
 refine yS fun _ K3 => ?_
 refine yS fun _ K4 => ?_
 refine yR ?_
 refine yF rfl rfl rfl rfl ?_
 refine yL rfl rfl rfl ?_
 refine aops_n rfl (n_len' rfl rfl (List.length_map _)) ?_
 refine yM rfl rfl ?_
 refine yN ?_
 dsimp only [St.put]
 refine K4 _ ?_
 refine aw_block ?_
 refine aw_wipe 25 ?_
 simp only [firsts, getA, Nat.reduceAdd, List.getD_cons_zero, List.getD_cons_succ, List.getD_nil, natBeq, Nat.reduceBEq, cond_true, cond_false]
 refine aw_forget (setG (setG G nx (.box 0 [.list [] .nil])) (nx + 1) (gmapN Tryz.prog 45 0 0 (α := PlaceD) fun _ => none)) zX ?_
 dsimp only
 refine aw_loopN (X := Nat) (fun k => k ≤ c.rs.length) (fun k => c.rs.length - k) (fun k => [(7, .any), (24, .v (.int .i64 (k : Int)))]) (fun k G' => (rdG Tryz.prog 45 47 (setG G nx (.box 0 [.list [] .nil])) (nx + 1) (nx + 1 + 1) c.rs k)) (fun k => namesN (nx + 1 + 1) c.rs k) 0 rfl ?_ ?_ (rfl) ?_ ?_ ?_ ?_ ?_
 ·exact Nat.zero_le _
 ·exact zF
 ·exact fun j o h => rdG_start hM h
 ·rintro k hI
  exact namesN_le _ _ _
 ·rintro k hI
  exact zL
 ·rintro k hI
  exact fun j o h => rdG_low (fun j o h hne => (setG_other hne).trans h) h hM
 rintro k hI
 dsimp only at hI ⊢
 refine yS fun _ K5 => ?_
 refine yR ?_
 refine aops_n rfl (n_lss rfl rfl rfl) ?_
 refine yN ?_
 dsimp only [St.put]
 refine K5 _ ?_
 refine yS fun _ K6 => ?_
 refine aw_cond rfl (fun hc => ?_) (fun hc => ?_)
 ·replace hc := of_decide_eq_true hc
  obtain ⟨r, hx⟩ : ∃ x, c.rs[k]? = some x := some_of_lt (by omega)
  have hk' : k ≤ c.rs.length := hI
  have hnle := namesN_le (nx + 1 + 1) c.rs k
  refine aw_skip ?_
  refine K6 _ ?_
  refine yS fun _ K7 => ?_
  refine aw_block ?_
  refine yS fun _ K8 => ?_
  refine yR ?_
  refine aops_n rfl (n_indexAddr rfl rfl rfl rfl (map_get (by assumption)) (Enc.len _)) ?_
  refine yE rfl rfl rfl ?_
  try dsimp only [St.put]
  refine aops_e rfl (e_allocC rfl ?_)
  try dsimp only [St.put]
  refine aops_e rfl (e_store_all rfl rfl rfl zG rfl rfl (by rfl) ?_)
  refine yN ?_
  dsimp only [St.put]
  refine K8 _ ?_
  refine aw_commitD (i := 7) rfl zG (by first | exact List.cons_ne_nil _ _ | (simp; done) | (simp [putAt]; done)) ?_
  dsimp only
  refine aw_forget (rdG Tryz.prog 45 47 (setG G nx (.box 0 [.list [] .nil])) (nx + 1) (nx + 1 + 1) c.rs k) (fun j o h => rdG_keep hlt0 h) ?_
  dsimp only
  by_cases hin : r.pl ∈ keysN c.rs k
  ·refine yR ?_
   refine yM rfl rfl ?_
   refine yF rfl rfl rfl rfl ?_
   try dsimp only [St.put]
   refine aops_s rfl (c := val r.pl) (s_load_agg (cs := cells r) rfl rfl (show 3 ≤ 5 by decide)) ?_
   refine yE rfl rfl rfl ?_
   try dsimp only [St.put]
   refine aops_e rfl (e_buildSlice rfl rfl rfl (by decide) (by decide) zR (by decide) ?_)
   try dsimp only [St.put]
   refine aops_e rfl (e_mapEntry (α := PlaceD) r.pl rfl rfl (rdG_map hM) rfl (by omega) (atN_getD hin) (atN_same hin rfl) (fun s => ?_))
   refine yX rfl rfl rfl rfl ?_
   try dsimp only [St.put]
   refine aops_e rfl (e_append [r] rfl rfl ((setG_other (by have := tipN_ge (nx + 1 + 1) c.rs k r.pl; omega)).trans (rdG_tip hin)) rfl rfl rfl (by have h1 := readsAt_len (c.rs.take k) r.pl; have h2 := List.length_take_le k c.rs; simp only [List.length_cons, List.length_nil]; omega) ?_ (by have h1 := readsAt_len (c.rs.take k) r.pl; have h2 := List.length_take_le k c.rs; simp only [List.length_cons, List.length_nil]; omega))
   refine yX rfl rfl rfl rfl ?_
   try dsimp only [St.put]
   refine aops_e rfl (e_entryStore (α := PlaceD) (s := s) r.pl rfl rfl rfl ((setG_other (by have := tipN_ge (nx + 1 + 1) c.rs k r.pl; omega)).trans (setG_same _ _ _)) rfl (atN_step_old hx hin rfl) ?_)
   refine yN ?_
   dsimp only [St.put]
   refine K7 _ ?_
   refine yR ?_
   refine aops_n rfl (n_add rfl rfl rfl (by omega)) ?_
   refine yM rfl rfl ?_
   refine yN ?_
   dsimp only [St.put]
   first
    | exact ⟨k + 1, by omega, by omega, ⟨⟨rfl, rfl⟩, zF, zB, namesN_old hx hin, fun j o h => rdG_old hM hx hin rfl h⟩⟩
    | exact ⟨k + 1, by omega, by omega, ⟨⟨rfl, rfl⟩, zF, zB, namesN_new hx hin, fun j o h => rdG_new hlt0 hM hx hin rfl h⟩⟩
  refine yR ?_
  refine yM rfl rfl ?_
  refine yF rfl rfl rfl rfl ?_
  try dsimp only [St.put]
  refine aops_s rfl (c := val r.pl) (s_load_agg (cs := cells r) rfl rfl (show 3 ≤ 5 by decide)) ?_
  refine yE rfl rfl rfl ?_
  try dsimp only [St.put]
  refine aops_e rfl (e_buildSlice rfl rfl rfl (by decide) (by decide) zR (by decide) ?_)
  try dsimp only [St.put]
  refine aops_e rfl (e_mapEntry (α := PlaceD) r.pl rfl rfl (rdG_map hM) rfl (by omega) (atN_getD_new hin) rfl (fun s => ?_))
  refine yX rfl rfl rfl rfl ?_
  try dsimp only [St.put]
  refine aops_e rfl (e_adopt 31 47 5 rfl (by decide) (e_append (xs := ([] : List ReadingD)) [r] rfl rfl (setG_same _ _ _) rfl rfl rfl (by simp) ?_ (by simp)))
  refine yX rfl rfl rfl rfl ?_
  try dsimp only [St.put]
  refine aops_e rfl (e_entryStore (α := PlaceD) (s := s) r.pl rfl rfl rfl ((setG_other (by omega)).trans ((setG_other (by omega)).trans (setG_same _ _ _))) rfl (atN_step_new hx hin rfl) ?_)
  refine yN ?_
  dsimp only [St.put]
  refine K7 _ ?_
  refine yR ?_
  refine aops_n rfl (n_add rfl rfl rfl (by omega)) ?_
  refine yM rfl rfl ?_
  refine yN ?_
  dsimp only [St.put]
  first
   | exact ⟨k + 1, by omega, by omega, ⟨⟨rfl, rfl⟩, zF, zB, namesN_old hx hin, fun j o h => rdG_old hM hx hin rfl h⟩⟩
   | exact ⟨k + 1, by omega, by omega, ⟨⟨rfl, rfl⟩, zF, zB, namesN_new hx hin, fun j o h => rdG_new hlt0 hM hx hin rfl h⟩⟩
 replace hc := of_decide_eq_false hc
 obtain rfl : k = c.rs.length := by omega
 refine aw_exit ?_
 refine K3 _ ?_
 refine yS fun _ K9 => ?_
 refine aw_mapN_weak (m' := atF c.rs) (rdG_map hM) (fun x c h => atF_weak x c h) (fun x c h => atF_back x c h) ?_
 refine aw_forget (setG (setG G nx (.box 0 [.list [] .nil])) (nx + 1) (gmap Tryz.prog 45 (2 * c.rs.length) (atF c.rs))) (fun j o h => rdG_out hlt0 h) ?_
 dsimp only
 obtain ⟨NN, hNN⟩ : ∃ NN, namesN (nx + 1 + 1) c.rs c.rs.length = NN := ⟨_, rfl⟩
 have hNN1 : nx + 1 + 1 ≤ NN := by rw [← hNN]; exact namesN_le _ _ _
 rw [hNN]
 refine yR ?_
 try dsimp only [St.put]
 refine aops_e rfl (e_allocC rfl ?_)
 refine yN ?_
 dsimp only [St.put]
 refine K9 _ ?_
 refine aw_adopt_box (NN) 0 _ _ 42 2 zG rfl (by decide) ?_
 dsimp only [List.set_cons_zero, List.set_cons_succ]
 refine yS fun _ K10 => ?_
 refine yS fun _ K11 => ?_
 refine yR ?_
 refine yM rfl rfl ?_
 refine aops_n rfl (n_nilCheck rfl rfl) ?_
 refine yF rfl rfl rfl rfl ?_
 refine yF rfl rfl rfl rfl ?_
 refine yL rfl rfl rfl ?_
 refine aops_n rfl (n_len' rfl rfl (List.length_map _)) ?_
 refine yM rfl rfl ?_
 refine yN ?_
 dsimp only [St.put]
 refine K11 _ ?_
 refine aw_block ?_
 refine aw_wipe 45 ?_
 simp only [firsts, getA, Nat.reduceAdd, List.getD_cons_zero, List.getD_cons_succ, List.getD_nil, natBeq, Nat.reduceBEq, cond_true, cond_false]
 refine aw_forget ((setG (setG (setG (setG G nx (.box 0 [.list [] .nil])) (nx + 1) (gmap Tryz.prog 45 (2 * c.rs.length) (atF c.rs))) NN (.box 0 [.list (((readT t c.rs).take 0).map cells) (.tip (NN + 1))])) (NN + 1) (.tip ((readT t c.rs).take 0).length 42 2))) zX ?_
 dsimp only
 refine aw_loopD (X := Nat) (fun k => k ≤ t.length) (fun k => t.length - k) (fun k => [(9, .any), (10, .any), (11, .any), (12, .any), (13, .any), (14, .any), (15, .any), (16, .any), (18, .any), (19, .any), (44, .v (.int .i64 (k : Int)))]) (fun k G' => (setG (setG (setG (setG G nx (.box 0 [.list [] .nil])) (nx + 1) (gmap Tryz.prog 45 (2 * c.rs.length) (atF c.rs))) NN (.box k [.list (((readT t c.rs).take k).map cells) (.tip (NN + 1))])) (NN + 1) (.tip ((readT t c.rs).take k).length 42 2))) 0 rfl ?_ ?_ ?_ ?_ ?_ ?_
 ·exact Nat.zero_le _
 ·exact zF
 ·exact zX
 ·rintro k hI
  exact (by (try dsimp only); repeat' (first | exact trivial | refine ⟨?_, ?_⟩ | exact .v | exact .any | refine .elem ?_ | exact lst_low _ _ | exact cells_low _ _ | exact val_low _ _ | exact data_low _ (by (try dsimp only); omega) | exact .box (by (try dsimp only); omega) | exact nil_low | exact low_nil | exact atF_glow | refine set_low ?_ ?_ | exact .arr (by (try dsimp only); omega) | exact .own (by (try dsimp only); omega) | exact .map (by (try dsimp only); omega) | exact flatC_low _ | refine low_cons ?_ ?_ | exact lst_low _ _))
 ·rintro k hI
  exact (by (repeat' (refine lowG_set ?_ (by (try dsimp only); omega) ?_)); all_goals (first | exact lowG_base zS | (repeat' (first | exact trivial | refine ⟨?_, ?_⟩ | exact .v | exact .any | refine .elem ?_ | exact lst_low _ _ | exact cells_low _ _ | exact val_low _ _ | exact data_low _ (by (try dsimp only); omega) | exact .box (by (try dsimp only); omega) | exact nil_low | exact low_nil | exact atF_glow | refine set_low ?_ ?_ | exact .arr (by (try dsimp only); omega) | exact .own (by (try dsimp only); omega) | exact .map (by (try dsimp only); omega) | exact flatC_low _ | refine low_cons ?_ ?_ | exact lst_low _ _))))
 rintro k hI2
 dsimp only at hI2 ⊢
 refine yS fun _ K12 => ?_
 refine yR ?_
 refine aops_n rfl (n_lss rfl rfl rfl) ?_
 refine yN ?_
 dsimp only [St.put]
 refine K12 _ ?_
 refine yS fun _ K13 => ?_
 refine aw_cond rfl (fun hc => ?_) (fun hc => ?_)
 ·replace hc := of_decide_eq_true hc
  obtain ⟨ch, hch⟩ : ∃ x, t[k]? = some x := some_of_lt (by omega)
  have hcl := htx3 ch (mem_of_get hch)
  have hrl := readC_len c.rs k ch
  refine aw_skip ?_
  refine K13 _ ?_
  refine yS fun _ K14 => ?_
  refine aw_block ?_
  refine yS fun _ K15 => ?_
  refine yR ?_
  refine yM rfl rfl ?_
  refine aops_n rfl (n_indexAddr rfl rfl rfl rfl (map_get (by assumption)) (Enc.len _)) ?_
  refine yE rfl rfl rfl ?_
  try dsimp only [St.put]
  refine aops_e rfl (e_allocC rfl ?_)
  refine yA rfl rfl ?_
  try dsimp only [St.put]
  refine aops_e rfl (e_store_all rfl rfl rfl zG rfl rfl (by rfl) ?_)
  refine yN ?_
  dsimp only [St.put]
  refine K15 _ ?_
  refine aw_commitD (i := 10) rfl zG (by first | exact List.cons_ne_nil _ _ | (simp; done) | (simp [putAt]; done)) ?_
  dsimp only
  refine yS fun _ K16 => ?_
  refine yR ?_
  refine yF rfl rfl rfl rfl ?_
  refine yL rfl rfl rfl ?_
  refine aops_n rfl (n_build rfl rfl) ?_
  try dsimp only [St.put]
  refine aops_e rfl (e_allocC rfl ?_)
  try dsimp only [St.put]
  refine aops_e rfl (e_store_all rfl rfl rfl zG rfl rfl (by rfl) ?_)
  refine yN ?_
  dsimp only [St.put]
  refine K16 _ ?_
  refine aw_adopt_box (NN + 1 + 1 + 1) 1 _ _ 43 1 zG rfl (by decide) ?_
  dsimp only [List.set_cons_zero, List.set_cons_succ]
  refine yS fun _ K17 => ?_
  refine yS fun _ K18 => ?_
  refine yR ?_
  refine yF rfl rfl rfl rfl ?_
  refine yL rfl rfl rfl ?_
  refine aops_n rfl (n_len' rfl rfl (List.length_map _)) ?_
  refine yM rfl rfl ?_
  refine yN ?_
  dsimp only [St.put]
  refine K18 _ ?_
  refine aw_block ?_
  refine aw_wipe 56 ?_
  simp only [firsts, getA, Nat.reduceAdd, List.getD_cons_zero, List.getD_cons_succ, List.getD_nil, natBeq, Nat.reduceBEq, cond_true, cond_false]
  refine aw_forget ((setG (setG (setG (setG (setG (setG G nx (.box 0 [.list [] .nil])) (nx + 1) (gmap Tryz.prog 45 (2 * c.rs.length) (atF c.rs))) NN (.box k [.list (((readT t c.rs).take k).map cells) (.tip (NN + 1))])) (NN + 1) (.tip ((readT t c.rs).take k).length 42 2)) (NN + 1 + 1 + 1) (.box (0 + 1) [.v (.int .i64 ch.id), .list (((readC c.rs k ch).lines.take 0).map cells) (.tip (NN + 1 + 1 + 1 + 1))])) (NN + 1 + 1 + 1 + 1) (.tip ((readC c.rs k ch).lines.take 0).length 43 1))) zX ?_
  dsimp only
  refine aw_loopD (X := Nat) (fun m => m ≤ ch.lines.length) (fun m => ch.lines.length - m) (fun m => [(12, .any), (13, .any), (14, .any), (15, .any), (16, .any), (18, .any), (19, .any), (55, .v (.int .i64 (m : Int)))]) (fun m G' => (setG (setG (setG (setG (setG (setG G nx (.box 0 [.list [] .nil])) (nx + 1) (gmap Tryz.prog 45 (2 * c.rs.length) (atF c.rs))) NN (.box k [.list (((readT t c.rs).take k).map cells) (.tip (NN + 1))])) (NN + 1) (.tip ((readT t c.rs).take k).length 42 2)) (NN + 1 + 1 + 1) (.box (m + 1) [.v (.int .i64 ch.id), .list (((readC c.rs k ch).lines.take m).map cells) (.tip (NN + 1 + 1 + 1 + 1))])) (NN + 1 + 1 + 1 + 1) (.tip ((readC c.rs k ch).lines.take m).length 43 1))) 0 rfl ?_ ?_ ?_ ?_ ?_ ?_
  ·exact Nat.zero_le _
  ·exact zF
  ·exact zX
  ·rintro m hI
   exact (by (try dsimp only); repeat' (first | exact trivial | refine ⟨?_, ?_⟩ | exact .v | exact .any | refine .elem ?_ | exact lst_low _ _ | exact cells_low _ _ | exact val_low _ _ | exact data_low _ (by (try dsimp only); omega) | exact .box (by (try dsimp only); omega) | exact nil_low | exact low_nil | exact atF_glow | refine set_low ?_ ?_ | exact .arr (by (try dsimp only); omega) | exact .own (by (try dsimp only); omega) | exact .map (by (try dsimp only); omega) | exact flatC_low _ | refine low_cons ?_ ?_ | exact lst_low _ _))
  ·rintro m hI
   exact (by (repeat' (refine lowG_set ?_ (by (try dsimp only); omega) ?_)); all_goals (first | exact lowG_base zS | (repeat' (first | exact trivial | refine ⟨?_, ?_⟩ | exact .v | exact .any | refine .elem ?_ | exact lst_low _ _ | exact cells_low _ _ | exact val_low _ _ | exact data_low _ (by (try dsimp only); omega) | exact .box (by (try dsimp only); omega) | exact nil_low | exact low_nil | exact atF_glow | refine set_low ?_ ?_ | exact .arr (by (try dsimp only); omega) | exact .own (by (try dsimp only); omega) | exact .map (by (try dsimp only); omega) | exact flatC_low _ | refine low_cons ?_ ?_ | exact lst_low _ _))))
  rintro m hI3
  dsimp only at hI3 ⊢
  refine yS fun _ K19 => ?_
  refine yR ?_
  refine aops_n rfl (n_lss rfl rfl rfl) ?_
  refine yN ?_
  dsimp only [St.put]
  refine K19 _ ?_
  refine yS fun _ K20 => ?_
  refine aw_cond rfl (fun hc => ?_) (fun hc => ?_)
  ·replace hc := of_decide_eq_true hc
   obtain ⟨l, hl⟩ : ∃ x, ch.lines[m]? = some x := some_of_lt (by omega)
   have hll := hcl.2.2 l (mem_of_get hl)
   refine aw_skip ?_
   refine K20 _ ?_
   refine yS fun _ K21 => ?_
   refine aw_block ?_
   refine yS fun _ K22 => ?_
   refine yR ?_
   refine yM rfl rfl ?_
   refine aops_n rfl (n_indexAddr rfl rfl rfl rfl (map_get (by assumption)) (Enc.len _)) ?_
   refine yL rfl rfl rfl ?_
   refine yA rfl rfl ?_
   refine yA rfl rfl ?_
   refine yN ?_
   dsimp only [St.put]
   refine K22 _ ?_
   refine yS fun _ K23 => ?_
   refine yR ?_
   refine yA rfl rfl ?_
   refine yN ?_
   dsimp only [St.put]
   refine K23 _ ?_
   refine aw_adopt_own 14 9 1 rfl (by decide) ?_
   refine yS fun _ K24 => ?_
   refine yS fun _ K25 => ?_
   refine yR ?_
   refine yM rfl rfl ?_
   refine aops_n rfl (n_len' rfl rfl (List.length_map _)) ?_
   refine aops_n rfl (n_add rfl rfl rfl (by omega)) ?_
   refine yM rfl rfl ?_
   refine yN ?_
   dsimp only [St.put]
   refine K25 _ ?_
   refine aw_block ?_
   refine aw_wipe 64 ?_
   simp only [firsts, getA, Nat.reduceAdd, List.getD_cons_zero, List.getD_cons_succ, List.getD_nil, natBeq, Nat.reduceBEq, cond_true, cond_false]
   refine aw_forget ((setG (setG (setG (setG (setG (setG (setG G nx (.box 0 [.list [] .nil])) (nx + 1) (gmap Tryz.prog 45 (2 * c.rs.length) (atF c.rs))) NN (.box k [.list (((readT t c.rs).take k).map cells) (.tip (NN + 1))])) (NN + 1) (.tip ((readT t c.rs).take k).length 42 2)) (NN + 1 + 1 + 1) (.box (m + 1) [.v (.int .i64 ch.id), .list (((readC c.rs k ch).lines.take m).map cells) (.tip (NN + 1 + 1 + 1 + 1))])) (NN + 1 + 1 + 1 + 1) (.tip ((readC c.rs k ch).lines.take m).length 43 1)) (NN + 1 + 1 + 1 + 1 + 1) (.arr 0 0 9 1 ((rawR c.rs (k : Int) (m : Int) l 0)).length (flatC ((rawR c.rs (k : Int) (m : Int) l 0)))))) zX ?_
   dsimp only
   refine aw_loopD (X := Nat × Nat) (fun x => x.1 ≤ l.length + 1) (fun x => l.length + 1 - x.1) (fun x => [(14, .own (NN + 1 + 1 + 1 + 1 + 1) x.2 (rawR c.rs (k : Int) (m : Int) l x.1).length), (15, .any), (16, .any), (18, .any), (19, .any), (63, .v (.int .i64 (x.1 : Int)))]) (fun x G' => (setG (setG (setG (setG (setG (setG (setG G nx (.box 0 [.list [] .nil])) (nx + 1) (gmap Tryz.prog 45 (2 * c.rs.length) (atF c.rs))) NN (.box k [.list (((readT t c.rs).take k).map cells) (.tip (NN + 1))])) (NN + 1) (.tip ((readT t c.rs).take k).length 42 2)) (NN + 1 + 1 + 1) (.box (m + 1) [.v (.int .i64 ch.id), .list (((readC c.rs k ch).lines.take m).map cells) (.tip (NN + 1 + 1 + 1 + 1))])) (NN + 1 + 1 + 1 + 1) (.tip ((readC c.rs k ch).lines.take m).length 43 1)) (NN + 1 + 1 + 1 + 1 + 1) (.arr x.2 0 9 1 ((rawR c.rs (k : Int) (m : Int) l x.1)).length (flatC ((rawR c.rs (k : Int) (m : Int) l x.1)))))) (0, 0) rfl ?_ ?_ ?_ ?_ ?_ ?_
   ·exact Nat.zero_le _
   ·exact zF
   ·exact zX
   ·rintro ⟨w, v⟩ hI
    exact (by (try dsimp only); repeat' (first | exact trivial | refine ⟨?_, ?_⟩ | exact .v | exact .any | refine .elem ?_ | exact lst_low _ _ | exact cells_low _ _ | exact val_low _ _ | exact data_low _ (by (try dsimp only); omega) | exact .box (by (try dsimp only); omega) | exact nil_low | exact low_nil | exact atF_glow | refine set_low ?_ ?_ | exact .arr (by (try dsimp only); omega) | exact .own (by (try dsimp only); omega) | exact .map (by (try dsimp only); omega) | exact flatC_low _ | refine low_cons ?_ ?_ | exact lst_low _ _))
   ·rintro ⟨w, v⟩ hI
    exact (by (repeat' (refine lowG_set ?_ (by (try dsimp only); omega) ?_)); all_goals (first | exact lowG_base zS | (repeat' (first | exact trivial | refine ⟨?_, ?_⟩ | exact .v | exact .any | refine .elem ?_ | exact lst_low _ _ | exact cells_low _ _ | exact val_low _ _ | exact data_low _ (by (try dsimp only); omega) | exact .box (by (try dsimp only); omega) | exact nil_low | exact low_nil | exact atF_glow | refine set_low ?_ ?_ | exact .arr (by (try dsimp only); omega) | exact .own (by (try dsimp only); omega) | exact .map (by (try dsimp only); omega) | exact flatC_low _ | refine low_cons ?_ ?_ | exact lst_low _ _))))
   rintro ⟨w, v⟩ hI4
   dsimp only at hI4 ⊢
   refine yS fun _ K26 => ?_
   refine yR ?_
   refine aops_n rfl (n_lss rfl rfl rfl) ?_
   refine yN ?_
   dsimp only [St.put]
   refine K26 _ ?_
   refine yS fun _ K27 => ?_
   refine aw_cond rfl (fun hc => ?_) (fun hc => ?_)
   ·replace hc := of_decide_eq_true hc
    obtain ⟨tok, hat⟩ := atF_get c.rs ⟨(k : Int), (m : Int), (w : Int)⟩
    obtain ⟨RA, hRA⟩ : ∃ RA, readsAt c.rs ⟨(k : Int), (m : Int), (w : Int)⟩ = RA := ⟨_, rfl⟩
    rw [hRA] at hat
    have hRAl : RA.length ≤ 20 := by rw [← hRA]; exact Nat.le_trans (readsAt_len _ _) hl20
    have hrawl : (rawR c.rs (k : Int) (m : Int) l w).length ≤ 11 * 21 := Nat.le_trans (rawR_len _ _ _ _ _) (Nat.mul_le_mul (by omega) (by omega))
    refine aw_skip ?_
    refine K27 _ ?_
    refine yS fun _ K28 => ?_
    refine aw_block ?_
    refine yS fun _ K29 => ?_
    refine yR ?_
    refine yM rfl rfl ?_
    refine yA rfl rfl ?_
    refine yN ?_
    dsimp only [St.put]
    refine K29 _ ?_
    refine yS fun _ K30 => ?_
    refine yR ?_
    refine yM rfl rfl ?_
    refine yM rfl rfl ?_
    try dsimp only [St.put]
    refine aops_e rfl (e_call_pure rfl rfl rfl (leafOwn_pure l w (by omega)) ?_)
    try dsimp only [St.put]
    refine aops_e rfl (e_buildSlice_new [ownW l w] rfl rfl rfl rfl (by decide) (by decide) (by decide) ?_)
    refine yA rfl rfl ?_
    refine yN ?_
    dsimp only [St.put]
    refine K30 _ ?_
    refine yS fun _ K31 => ?_
    refine yS fun _ K32 => ?_
    refine yR ?_
    refine yM rfl rfl ?_
    refine yM rfl rfl ?_
    refine yM rfl rfl ?_
    refine yM rfl rfl ?_
    refine aops_n rfl (n_build rfl rfl) ?_
    try dsimp only [St.put]
    refine aops_s rfl (s_lookupC (α := PlaceD) ⟨(k : Int), (m : Int), (w : Int)⟩ rfl rfl zG trivial rfl hat) ?_
    refine aops_n rfl (n_len' rfl rfl (List.length_map _)) ?_
    refine yM rfl rfl ?_
    refine yN ?_
    dsimp only [St.put]
    refine K32 _ ?_
    refine aw_block ?_
    refine aw_wipe 78 ?_
    simp only [firsts, getA, Nat.reduceAdd, List.getD_cons_zero, List.getD_cons_succ, List.getD_nil, natBeq, Nat.reduceBEq, cond_true, cond_false]
    refine aw_forget (setG (setG (setG (setG (setG (setG (setG (setG G nx (.box 0 [.list [] .nil])) (nx + 1) (gmap Tryz.prog 45 (2 * c.rs.length) (atF c.rs))) NN (.box k [.list (((readT t c.rs).take k).map cells) (.tip (NN + 1))])) (NN + 1) (.tip ((readT t c.rs).take k).length 42 2)) (NN + 1 + 1 + 1) (.box (m + 1) [.v (.int .i64 ch.id), .list (((readC c.rs k ch).lines.take m).map cells) (.tip (NN + 1 + 1 + 1 + 1))])) (NN + 1 + 1 + 1 + 1) (.tip ((readC c.rs k ch).lines.take m).length 43 1)) (NN + 1 + 1 + 1 + 1 + 1) (.arr v 0 9 1 ((rawR c.rs (k : Int) (m : Int) l w)).length (flatC ((rawR c.rs (k : Int) (m : Int) l w))))) (NN + 1 + 1 + 1 + 1 + 1 + 1) (.arr 0 0 9 1 (progR (ownW l w) (RA.take 0)).length (flatC (progR (ownW l w) (RA.take 0))))) zX ?_
    dsimp only
    refine aw_loopD (X := Nat × Nat) (fun y => y.1 ≤ RA.length) (fun y => RA.length - y.1) (fun y => [(16, .own (NN + 1 + 1 + 1 + 1 + 1 + 1) y.2 (progR (ownW l w) (RA.take y.1)).length), (18, .any), (19, .any), (77, .v (.int .i64 (y.1 : Int)))]) (fun y G' => setG (setG (setG (setG (setG (setG (setG (setG G nx (.box 0 [.list [] .nil])) (nx + 1) (gmap Tryz.prog 45 (2 * c.rs.length) (atF c.rs))) NN (.box k [.list (((readT t c.rs).take k).map cells) (.tip (NN + 1))])) (NN + 1) (.tip ((readT t c.rs).take k).length 42 2)) (NN + 1 + 1 + 1) (.box (m + 1) [.v (.int .i64 ch.id), .list (((readC c.rs k ch).lines.take m).map cells) (.tip (NN + 1 + 1 + 1 + 1))])) (NN + 1 + 1 + 1 + 1) (.tip ((readC c.rs k ch).lines.take m).length 43 1)) (NN + 1 + 1 + 1 + 1 + 1) (.arr v 0 9 1 ((rawR c.rs (k : Int) (m : Int) l w)).length (flatC ((rawR c.rs (k : Int) (m : Int) l w))))) (NN + 1 + 1 + 1 + 1 + 1 + 1) (.arr y.2 0 9 1 (progR (ownW l w) (RA.take y.1)).length (flatC (progR (ownW l w) (RA.take y.1))))) (0, 0) rfl ?_ ?_ ?_ ?_ ?_ ?_
    ·exact Nat.zero_le _
    ·exact zF
    ·exact zX
    ·rintro ⟨j, v2⟩ hI
     exact (by (try dsimp only); repeat' (first | exact trivial | refine ⟨?_, ?_⟩ | exact .v | exact .any | refine .elem ?_ | exact lst_low _ _ | exact cells_low _ _ | exact val_low _ _ | exact data_low _ (by (try dsimp only); omega) | exact .box (by (try dsimp only); omega) | exact nil_low | exact low_nil | exact atF_glow | refine set_low ?_ ?_ | exact .arr (by (try dsimp only); omega) | exact .own (by (try dsimp only); omega) | exact .map (by (try dsimp only); omega) | exact flatC_low _ | refine low_cons ?_ ?_ | exact lst_low _ _))
    ·rintro ⟨j, v2⟩ hI
     exact (by (repeat' (refine lowG_set ?_ (by (try dsimp only); omega) ?_)); all_goals (first | exact lowG_base zS | (repeat' (first | exact trivial | refine ⟨?_, ?_⟩ | exact .v | exact .any | refine .elem ?_ | exact lst_low _ _ | exact cells_low _ _ | exact val_low _ _ | exact data_low _ (by (try dsimp only); omega) | exact .box (by (try dsimp only); omega) | exact nil_low | exact low_nil | exact atF_glow | refine set_low ?_ ?_ | exact .arr (by (try dsimp only); omega) | exact .own (by (try dsimp only); omega) | exact .map (by (try dsimp only); omega) | exact flatC_low _ | refine low_cons ?_ ?_ | exact lst_low _ _))))
    rintro ⟨j, v2⟩ hI5
    dsimp only at hI5 ⊢
    refine yS fun _ K33 => ?_
    refine yR ?_
    refine aops_n rfl (n_lss rfl rfl rfl) ?_
    refine yN ?_
    dsimp only [St.put]
    refine K33 _ ?_
    refine yS fun _ K34 => ?_
    refine aw_cond rfl (fun hc => ?_) (fun hc => ?_)
    ·replace hc := of_decide_eq_true hc
     obtain ⟨r, hr⟩ : ∃ x, RA[j]? = some x := some_of_lt (by omega)
     have hputs : ∀ x ∈ RA.take j, x.kind = 2 := by rw [← hRA]; exact readsAt_puts hv2 _ (by rw [hRA]; exact hr)
     have hrc : r ∈ c.rs := by have := mem_of_get hr; rw [← hRA] at this; exact (List.mem_filter.1 this).1
     obtain ⟨kk, hkk, hkk1, hkk3⟩ : ∃ kk : Nat, r.kind = (kk : Int) ∧ 1 ≤ kk ∧ kk ≤ 3 := by
      obtain ⟨_, _, hk⟩ := readingB_kind (hv1 r hrc)
      rcases hk with h | h | h
      ·exact ⟨1, h.1, by decide, by decide⟩
      ·exact ⟨2, h.1, by decide, by decide⟩
      exact ⟨3, h.1, by decide, by decide⟩
     obtain ⟨_, gm, rest, hknd, _, hFun, _, hpm⟩ := knd_get hkk1 hkk3
     have hstep : (RA.take j).map (·.word) ++ kMakes kk (ownW l w) r.word = progR (ownW l w) (RA.take (j + 1)) := by rw [← take_snoc hr, progR_snoc hputs, makesR_k hkk]
     rw [progR_puts hputs]
     obtain ⟨PW, hPW⟩ : ∃ PW, (RA.take j).map (·.word) = PW := ⟨_, rfl⟩
     rw [hPW] at hstep ⊢
     have hPl : PW.length ≤ 20 := by rw [← hPW, List.length_map]; have := List.length_take_le j RA; omega
     have hPl2 : (PW ++ [ownW l w]).length = PW.length + 1 := by simp
     have hlast : (PW ++ [ownW l w])[PW.length]? = some (ownW l w) := by simp
     have hfl : (flatC (PW ++ [ownW l w]))[PW.length * 1]? = some (.v (.string (ownW l w))) := flatC_get (j := 0) hlast rfl
     have hml : (kMakes kk (ownW l w) r.word).length ≤ 2 := by
      unfold kMakes
      repeat' (first | (rw [Bool.cond_decide]; split))
      all_goals simp
     have hsub : (((PW ++ [ownW l w]).length : Nat) : Int) - 1 = (PW.length : Int) := by rw [hPl2]; omega
     refine aw_skip ?_
     refine K34 _ ?_
     refine yS fun _ K35 => ?_
     refine aw_block ?_
     refine yS fun _ K36 => ?_
     refine yR ?_
     refine aops_n rfl (n_indexAddr rfl rfl rfl rfl (map_get (by assumption)) (Enc.len _)) ?_
     refine yE rfl rfl rfl ?_
     try dsimp only [St.put]
     refine aops_e rfl (e_allocC rfl ?_)
     try dsimp only [St.put]
     refine aops_e rfl (e_store_all rfl rfl rfl zG rfl rfl (by rfl) ?_)
     refine yN ?_
     dsimp only [St.put]
     refine K36 _ ?_
     refine aw_commitD (i := 18) rfl zG (by first | exact List.cons_ne_nil _ _ | (simp; done) | (simp [putAt]; done)) ?_
     dsimp only
     refine yS fun _ K37 => ?_
     refine yR ?_
     refine yM rfl rfl ?_
     refine aops_n rfl (n_len_own rfl rfl) ?_
     refine aops_n rfl (n_sub rfl rfl rfl (by omega)) ?_
     refine yA rfl rfl ?_
     refine yN ?_
     dsimp only [St.put]
     refine K37 _ ?_
     refine aw_draw [(0, none), (1, none), (2, none), (3, none), (4, none), (5, none), (6, none), (7, none), (8, none), (9, none), (10, none), (11, none), (12, none), (13, none), (14, none), (15, none), (16, none)] (fun i => [14, 15].contains i) (fun i => [14, 15].contains i) (fun i => [0, 1, 2, 3, 5, 6, 8, 9, 10, 12, 16].contains i) [NN + 1 + 1 + 1 + 1 + 1 + 1] (by kernel_rfl) (by kernel_rfl) ?_
     refine xM rfl rfl rfl rfl rfl ?_
     refine xM rfl rfl rfl rfl rfl ?_
     refine acan1_n rfl rfl rfl rfl ((n_slice_own (k := PW.length) rfl rfl rfl hsub (by omega))) ?_
     refine acan1_n rfl rfl rfl rfl (n_fieldAddr' rfl rfl rfl) ?_
     try dsimp only [St.put]
     refine acan1_s rfl rfl rfl rfl (s_load rfl rfl) ?_
     try dsimp only [St.put]
     refine acan1_n rfl rfl rfl rfl ((n_indexAddr_fact (j := n) (k := kk) rfl rfl zG rfl hkk (by omega) hknd)) ?_
     refine acan1_n rfl rfl rfl rfl (n_fieldAddr' rfl rfl rfl) ?_
     try dsimp only [St.put]
     refine acan1_s rfl rfl rfl rfl (s_load rfl rfl) ?_
     refine xM rfl rfl rfl rfl rfl ?_
     refine xM rfl rfl rfl rfl rfl ?_
     try dsimp only [St.put]
     refine acan1_n rfl rfl rfl rfl ((n_indexAddr_own (k := PW.length) rfl rfl zG rfl hsub (by omega))) ?_
     try dsimp only [St.put]
     refine acan1_s rfl rfl rfl rfl (s_load_own rfl rfl zG (by simp) hfl) ?_
     refine acan1_n rfl rfl rfl rfl (n_fieldAddr' rfl rfl rfl) ?_
     try dsimp only [St.put]
     refine acan1_s rfl rfl rfl rfl (s_load rfl rfl) ?_
     refine acan1_two ?_
     try dsimp only [St.put]
     refine acan2_late rfl rfl rfl rfl (e_call_pure rfl rfl rfl (hpm (ownW l w) r.word) ?_)
     try dsimp only [St.put]
     refine acan2_late rfl rfl rfl rfl ((e_cut_append 86 PW (kMakes kk (ownW l w) r.word) rfl rfl rfl zG (by rw [flatC_append]; exact List.take_left' (by rw [flatC_len])) rfl rfl rfl (by omega) (by omega) (fun v4 => ?_)))
     refine acan2_n rfl rfl rfl rfl (n_as rfl (by constructor)) ?_
     refine acan2_nil ?_
     dsimp only [St.put]
     refine K35 _ ?_
     refine yR ?_
     refine aops_n rfl (n_add rfl rfl rfl (by omega)) ?_
     refine yM rfl rfl ?_
     refine yN ?_
     dsimp only [St.put]
     rw [hstep]
     exact ⟨(j + 1, v4), by (dsimp only; omega), by (dsimp only; omega), ⟨⟨rfl, rfl⟩, zF, zB, zN, zX⟩⟩
    replace hc := of_decide_eq_false hc
    rw [take_all (show RA.length ≤ j by omega), ← hRA]
    have hpl := progR_len (ownW l w) (readsAt c.rs ⟨(k : Int), (m : Int), (w : Int)⟩)
    have hRAl2 : (readsAt c.rs ⟨(k : Int), (m : Int), (w : Int)⟩).length ≤ 20 := by rw [hRA]; exact hRAl
    refine aw_exit ?_
    refine K31 _ ?_
    refine yR ?_
    refine yM rfl rfl ?_
    refine yM rfl rfl ?_
    try dsimp only [St.put]
    refine aops_e rfl (e_commit_own 102 (progR (ownW l w) (readsAt c.rs ⟨(k : Int), (m : Int), (w : Int)⟩)) rfl zG rfl rfl rfl (e_append_own_any (xs := rawR c.rs (k : Int) (m : Int) l w) (progR (ownW l w) (readsAt c.rs ⟨(k : Int), (m : Int), (w : Int)⟩)) rfl rfl ((delG_other (by omega)).trans zG) rfl rfl rfl rfl (by omega) (by omega) (fun v3 => ?_)))
    refine yA rfl rfl ?_
    refine yN ?_
    dsimp only [St.put]
    refine K28 _ ?_
    refine yR ?_
    refine aops_n rfl (n_add rfl rfl rfl (by omega)) ?_
    refine yM rfl rfl ?_
    refine yN ?_
    dsimp only [St.put]
    rw [← rawR_succ]
    exact ⟨(w + 1, v3), by (dsimp only; omega), by (dsimp only; omega), ⟨⟨rfl, rfl⟩, zF, zB, zN, zX⟩⟩
   replace hc := of_decide_eq_false hc
   obtain rfl : w = l.length + 1 := by omega
   have hrawl : (rawR c.rs (k : Int) (m : Int) l (l.length + 1)).length ≤ 11 * 21 := Nat.le_trans (rawR_len _ _ _ _ _) (Nat.mul_le_mul (by omega) (by omega))
   have hrne := rawR_ne hv hch hl
   have hrf := rawR_filter hv (k : Int) (m : Int) l (l.length + 1)
   refine aw_exit ?_
   refine K24 _ ?_
   refine aw_draw [(0, none), (1, none), (2, none), (3, none), (4, none), (5, none), (6, none), (7, none)] (fun i => [5, 7].contains i) (fun i => [3, 4, 5, 7].contains i) (fun i => [0, 2, 6].contains i) [NN + 1 + 1 + 1] (by kernel_rfl) (by kernel_rfl) ?_
   refine acan1_n rfl rfl rfl rfl (n_fieldAddr_box rfl rfl) ?_
   try dsimp only [St.put]
   refine acan1_s rfl rfl rfl rfl (s_load_box rfl rfl zG (by simp) (by first | rfl | assumption)) ?_
   refine xM rfl rfl rfl rfl rfl ?_
   refine acan1_two ?_
   try dsimp only [St.put]
   refine acan2_e rfl rfl rfl (e_delFunc del_string (xs := rawR c.rs (k : Int) (m : Int) l (l.length + 1)) Value.string (fun _ => rfl) (fun _ => rfl) (fun s => decide (s = ByteArray.empty)) ByteArray.empty (fun w => Zero.run (P := Tryz.prog) (t := 9) (w := w)) rfl rfl rfl rfl zG rfl rfl hrne (by omega) rfl read1_calls hrf ⟨zD, ?_⟩)
   try dsimp only [St.put]
   refine acan2_e rfl rfl rfl (e_commit_own 108 (readL c.rs (k : Int) (m : Int) l) rfl zG rfl rfl rfl (e_buildSlice rfl rfl rfl (by decide) (by decide) zR (by decide) ⟨zD, ?_⟩))
   try dsimp only [St.put]
   refine acan2_late rfl rfl rfl rfl (e_append ([readL c.rs (k : Int) (m : Int) l]) rfl rfl zG (by first | rfl | simp) rfl rfl zA ?_ zA)
   refine acan2_n rfl rfl rfl rfl (n_fieldAddr_box rfl rfl) ?_
   try dsimp only [St.put]
   refine acan2_late rfl rfl rfl rfl (e_store_one rfl rfl rfl zG (by constructor) rfl (by first | (simp; done) | (simp; omega) | exact Nat.lt_of_lt_of_eq (by decide) (Enc.len _).symm) ?_)
   refine acan2_nil ?_
   dsimp only [St.put]
   refine K21 _ ?_
   refine yR ?_
   refine aops_n rfl (n_add rfl rfl rfl (by omega)) ?_
   refine yM rfl rfl ?_
   refine yN ?_
   dsimp only [St.put]
   simp only [take_snoc (readC_lines (rs := c.rs) (k := k) hl)]
   exact ⟨m + 1, by omega, by omega, ⟨⟨rfl, rfl⟩, zF, zB, zN, zX⟩⟩
  replace hc := of_decide_eq_false hc
  rw [take_all (show (readC c.rs k ch).lines.length ≤ m by omega)]
  refine aw_weak (NN + 1 + 1 + 1) _ [.v (.int .i64 ch.id), lst (readC c.rs k ch).lines] zG zW ?_
  refine aw_exit ?_
  refine K17 _ ?_
  refine yR ?_
  refine aops_n rfl (n_fieldAddr_box rfl rfl) ?_
  try dsimp only [St.put]
  refine aops_s rfl (s_load_box rfl rfl zG trivial (by first | rfl | assumption)) ?_
  try dsimp only [St.put]
  refine aops_s rfl (s_load_box_all rfl rfl zG trivial (by rfl)) ?_
  try dsimp only [St.put]
  refine aops_e rfl (e_buildSlice rfl rfl rfl (by decide) (by decide) zR (by decide) ?_)
  try dsimp only [St.put]
  refine aops_e rfl (e_append ([readC c.rs k ch]) rfl rfl zG (by first | rfl | simp) rfl rfl zA ?_ zA)
  refine aops_n rfl (n_fieldAddr_box rfl rfl) ?_
  try dsimp only [St.put]
  refine aops_e rfl (e_store_all rfl rfl rfl zG rfl rfl (by rfl) ?_)
  refine yN ?_
  dsimp only [St.put]
  refine K14 _ ?_
  refine yR ?_
  refine aops_n rfl (n_add rfl rfl rfl (by omega)) ?_
  refine yM rfl rfl ?_
  refine yN ?_
  dsimp only [St.put]
  simp only [take_snoc (readT_at (rs := c.rs) hch)]
  exact ⟨k + 1, by omega, by omega, ⟨⟨rfl, rfl⟩, zF, zB, zN, zX⟩⟩
 replace hc := of_decide_eq_false hc
 refine aw_exit ?_
 refine K10 _ ?_
 refine yS fun _ K38 => ?_
 refine yR ?_
 try dsimp only [St.put]
 refine aops_s rfl (s_load_box_all rfl rfl zG trivial (by rfl)) ?_
 try dsimp only [St.put]
 refine aops_e rfl (e_store_all rfl rfl rfl zG rfl rfl (by rfl) ?_)
 refine yN ?_
 dsimp only [St.put]
 refine K38 _ ?_
 refine aw_ret ?_
 refine ends_v1 rfl (rv_box rfl zG (by rfl) (by first | exact List.cons_ne_nil _ _ | (simp; done) | (simp [putAt]; done)) rfl) zN zS ?_
 rw [take_all (show (readT t c.rs).length ≤ k by rw [readT_len]; omega)]
 exact zW
end Go.Proofs.YtejhjijbgceklaaGreatDoor
namespace Go.AB
open Go Go.RowKit
open Go.AB.Enc (cells)
open Go.PB (Chap TextD PlaceD ReadingD CopyD WayD)
section
variable {t : TextD} {c : CopyD} {k : Nat} {r : ReadingD}
theorem copyB_id (h : inB c.id 0 9999 = false) : copyB t c = false := by simp [copyB, h]
theorem copyB_len (h : 20 < c.rs.length) : copyB t c = false := by
 have : ¬ c.rs.length ≤ 20 := by omega
 simp [copyB, this]
theorem copyB_rd (hx : c.rs[k]? = some r) (h : readingB t r = false) : copyB t c = false := by
 have : rsB t c.rs = false := by
  unfold rsB
  rw [all_false_of hx h]; rfl
 simp [copyB, this]
theorem copyB_ord (h : orderB (c.rs.take k) = false) : copyB t c = false := by
 have : rsB t c.rs = false := by
  unfold rsB
  rw [orderB_prefix h, Bool.and_false]
 simp [copyB, this]
theorem copyB_ln (h : linesB t c.rs = false) : copyB t c = false := by simp [copyB, h]
theorem copyB_true : copyB t c = true ↔ inB c.id 0 9999 = true ∧ c.rs.length ≤ 20 ∧ rsB t c.rs = true ∧ linesB t c.rs = true := by
 unfold copyB
 simp only [Bool.and_eq_true, decide_eq_true_eq, and_assoc]
def lnB (x : Chap) : Bool := x.lines.all fun l => inB l.length 1 10
theorem lnB_any {x : Chap} : (x.lines.any fun l => !inB l.length 1 10) = !lnB x := by
 unfold lnB
 rw [List.any_eq_not_all_not]
 congr 1
 congr 1
 funext l
 simp
theorem readL_len {rs : List ReadingD} {t : TextD} (hv : rsB t rs = true) (hl : rs.length ≤ 20) (ch ln : Int) (l : List ByteArray) (hll : l.length ≤ 10) : (readL rs ch ln l).length ≤ 11 * 21 := by
 unfold readL
 rw [← rawR_filter hv]
 exact Nat.le_trans (List.length_filter_le _ _) (Nat.le_trans (rawR_len _ _ _ _ _) (Nat.mul_le_mul (by omega) (by omega)))
theorem readC_bd {rs : List ReadingD} {t : TextD} (ht : textB t = true) (hv : rsB t rs = true) (hl : rs.length ≤ 20) {j : Nat} {x : Chap} (hx : (readT t rs)[j]? = some x) : ∀ y ∈ x.lines, y.length ≤ 100000 := fun y hy => by
 rw [readT_get] at hx
 obtain ⟨ch, hc, rfl⟩ := Option.map_eq_some_iff.1 hx
 obtain ⟨m, hm⟩ := List.getElem?_of_mem hy
 unfold readC at hm
 dsimp only at hm
 rw [List.getElem?_mapIdx] at hm
 obtain ⟨l, hl2, rfl⟩ := Option.map_eq_some_iff.1 hm
 have h1 := ((text_ok ht).2.2 ch (mem_of_get hc)).2.2 l (mem_of_get hl2)
 have := readL_len hv hl (j : Int) (m : Int) l h1.2
 omega
theorem ord_first (hx : c.rs[0]? = some r) : orderB (c.rs.take (0 + 1)) = true := by
 rw [orderB_take hx]
 simp [orderB]
theorem ord_next {a : ReadingD} (hx : c.rs[k]? = some r) (hk : k ≠ 0) (ha : c.rs[k - 1]? = some a) (ho : orderB (c.rs.take k) = true) : orderB (c.rs.take (k + 1)) = stepB a r := by
 rw [orderB_take hx, ho, ha]
 simp [hk]
noncomputable def copyEr (t : TextD) (c : CopyD) : Int := bif textB t then (bif copyB t c then 0 else 11) else 10
noncomputable def readTx (t : TextD) (c : CopyD) : TextD := bif decide (copyEr t c = 0) then readT t c.rs else []
noncomputable def copiedC (t : TextD) (c : CopyD) : C := bif decide (copyEr t c = 0) then .elem [lst t] else .v (.pointer none)
theorem copiedC_low (t : TextD) (c : CopyD) (m : Nat) : C.low m (copiedC t c) := by
 unfold copiedC
 cases decide (copyEr t c = 0)
 ·exact .v
 exact .elem fun d hd => by simp only [List.mem_singleton] at hd; subst hd; exact lst_low _ _
theorem copyEr_zero : copyEr t c = 0 ↔ textB t = true ∧ copyB t c = true := by
 unfold copyEr
 cases textB t <;> cases copyB t c <;> simp
end
end Go.AB
namespace Go.Proofs.YtejhjijbgceklaaGreatDoor
set_option maxRecDepth 10000
open Go.RowKit Go.AB
open Go.AB.Enc (cells)
open Go.PB (Chap TextD PlaceD ReadingD CopyD WayD)
set_option maxHeartbeats 4000000 in
theorem bookRight_pureN (n : Nat) (t : TextD) (c : CopyD) (ht : textB t = true) : PureN n kndF Tryz.prog 49 [.elem [lst t], val c] (.v (.bool (copyB t c))) := fun G nx hF hnx => by
 refine pc_named_of_body (G) (nx) Tryz.func49 rfl (.v) zN (fun hlt => zH) ?_
 simp only [Tryz.ntmps49, List.length_cons, List.length_nil, Nat.reduceAdd, Nat.reduceSub]
 refine aw_lt fun hlt => ?_
 dsimp only at hlt
 obtain ⟨htx1, htx2, htx3⟩ := text_ok ht
 refine aw_fit 1 (fun hf => ?_)
 have hf0 := fit_lst.1 (fit_agg.1 hf _ (by exact List.mem_cons_of_mem _ (List.mem_cons_self ..)))
 have hfk : ∀ r ∈ c.rs, 0 ≤ r.kind ∧ r.kind ≤ 255 := fun r hr => by
  have := okV_int.1 (fit_v.1 (hf0.2 r hr _ (by exact List.mem_cons_of_mem _ (List.mem_cons_of_mem _ (List.mem_cons_of_mem _ (List.mem_cons_self ..))))))
  exact this
 have hf1 := hf0.1
 refine yS fun _ K1 => ?_
 refine yR ?_
 try dsimp only [St.put]
 refine yB rfl rfl rfl ?_
 refine yA rfl rfl ?_
 refine yN ?_
 dsimp only [St.put]
 refine K1 _ ?_
 refine yS fun _ K2 => ?_
 refine yS fun _ K3 => ?_
 refine yR ?_
 refine yF rfl rfl rfl rfl ?_
 refine yL rfl rfl rfl ?_
 try dsimp only [St.put]
 refine aops_e rfl (e_buildSlice rfl rfl rfl (by decide) (by decide) zR (by decide) ?_)
 try dsimp only [St.put]
 refine aops_e rfl (e_call_pure rfl rfl rfl (leafIn_pure _ _ [c.id]) ?_)
 refine aops_n rfl (n_not rfl rfl) ?_
 refine aops_split (fun hs => ?_) (fun hs => ?_)
 ·have h1 : inB c.id 0 9999 = false := by rw [inAll_one] at hs; simpa using hs
  refine yM rfl rfl ?_
  refine yK rfl ?_
  refine yK rfl ?_
  refine yK rfl ?_
  refine yK rfl ?_
  refine aops_n rfl (n_pt rfl rfl (by constructor)) ?_
  refine yN ?_
  dsimp only [St.put]
  refine K3 _ ?_
  refine aw_cond rfl (fun _ => ?_) (fun h => by cases h)
  skip
  refine yS fun _ K4 => ?_
  refine yR ?_
  refine yA rfl rfl ?_
  refine yN ?_
  dsimp only [St.put]
  refine K4 _ ?_
  refine aw_ret ?_
  refine ends_1 rfl (by constructor) zN zS ?_
  first
  | exact vb (copyB_id h1).symm
  | exact vb (copyB_len (by have := of_decide_eq_true hc; omega)).symm
 have h1 : inB c.id 0 9999 = true := by rw [inAll_one] at hs; simpa using hs
 refine yM rfl rfl ?_
 refine yF rfl rfl rfl rfl ?_
 refine yL rfl rfl rfl ?_
 refine aops_n rfl (n_len' rfl rfl (List.length_map _)) ?_
 refine aops_n rfl (n_gtr rfl rfl rfl) ?_
 refine aops_n rfl (n_pf rfl rfl (by constructor)) ?_
 refine yN ?_
 dsimp only [St.put]
 refine K3 _ ?_
 refine aw_cond rfl (fun hc => ?_) (fun hc => ?_)
 ·skip
  refine yS fun _ K5 => ?_
  refine yR ?_
  refine yA rfl rfl ?_
  refine yN ?_
  dsimp only [St.put]
  refine K5 _ ?_
  refine aw_ret ?_
  refine ends_1 rfl (by constructor) zN zS ?_
  first
  | exact vb (copyB_id h1).symm
  | exact vb (copyB_len (by have := of_decide_eq_true hc; omega)).symm
 have hl20 : c.rs.length ≤ 20 := by have := of_decide_eq_false hc; omega
 refine aw_skip ?_
 refine K2 _ ?_
 refine yS fun _ K6 => ?_
 refine yS fun _ K7 => ?_
 refine yR ?_
 refine yF rfl rfl rfl rfl ?_
 refine yL rfl rfl rfl ?_
 refine aops_n rfl (n_len' rfl rfl (List.length_map _)) ?_
 refine yM rfl rfl ?_
 refine yN ?_
 dsimp only [St.put]
 refine K7 _ ?_
 refine aw_block ?_
 refine aw_wipe 28 ?_
 simp only [firsts, getA, Nat.reduceAdd, List.getD_cons_zero, List.getD_cons_succ, List.getD_nil, natBeq, Nat.reduceBEq, cond_true, cond_false]
 refine aw_forget (G) zX ?_
 dsimp only
 refine aw_loopD (X := Nat) (fun k => k ≤ c.rs.length ∧ (c.rs.take k).all (readingB t) = true ∧ orderB (c.rs.take k) = true) (fun k => c.rs.length - k) (fun k => [(5, .any), (6, .any), (7, .any), (8, .any), (9, .any), (10, .any), (27, .v (.int .i64 (k : Int)))]) (fun k G' => G') 0 rfl ?_ ?_ (fun _ _ h => h) ?_ ?_ ?_
 ·exact ⟨Nat.zero_le _, rfl, rfl⟩
 ·exact zF
 ·rintro k hI
  exact zL
 ·exact fun _ _ _ _ h => .inl h
 rintro k hI
 dsimp only at hI ⊢
 refine yS fun _ K8 => ?_
 refine yR ?_
 refine aops_n rfl (n_lss rfl rfl rfl) ?_
 refine yN ?_
 dsimp only [St.put]
 refine K8 _ ?_
 refine yS fun _ K9 => ?_
 refine aw_cond rfl (fun hc => ?_) (fun hc => ?_)
 ·replace hc := of_decide_eq_true hc
  obtain ⟨r, hx⟩ : ∃ x, c.rs[k]? = some x := some_of_lt (by omega)
  have hkf := hfk r (mem_of_get hx)
  refine aw_skip ?_
  refine K9 _ ?_
  refine yS fun _ K10 => ?_
  refine aw_block ?_
  refine yS fun _ K11 => ?_
  refine yR ?_
  refine yM rfl rfl ?_
  refine aops_n rfl (n_indexAddr rfl rfl rfl rfl (map_get (by assumption)) (Enc.len _)) ?_
  refine yE rfl rfl rfl ?_
  try dsimp only [St.put]
  refine aops_e rfl (e_allocC rfl ?_)
  refine yA rfl rfl ?_
  try dsimp only [St.put]
  refine aops_e rfl (e_store_all rfl rfl rfl zG rfl rfl (by rfl) ?_)
  refine yN ?_
  dsimp only [St.put]
  refine K11 _ ?_
  refine aw_commitD (i := 6) rfl zG (by first | exact List.cons_ne_nil _ _ | (simp; done) | (simp [putAt]; done)) ?_
  dsimp only
  refine yS fun _ K12 => ?_
  refine yR ?_
  refine yM rfl rfl ?_
  refine yF rfl rfl rfl rfl ?_
  try dsimp only [St.put]
  (refine aops_s rfl (c := val r.pl) (s_load_agg (cs := cells r) rfl rfl (show 3 ≤ 5 by decide)) ?_)
  try dsimp only [St.put]
  refine aops_e rfl (e_call_pure rfl rfl rfl (leafLine_pure t r.pl ht) ?_)
  refine yA rfl rfl ?_
  refine yN ?_
  dsimp only [St.put]
  refine K12 _ ?_
  refine yS fun _ K13 => ?_
  refine yS fun _ K14 => ?_
  by_cases hw : wordsOf t (r.pl.ch, r.pl.ln) = none
  ·rw [hw]
   dsimp only [Option.getD_none]
   refine yR ?_
   refine yM rfl rfl ?_
   refine aops_n rfl (n_len' rfl rfl (List.length_map _)) ?_
   refine aops_n rfl (n_bool (c := true) (n_eql rfl rfl rfl) (decide_eq_true rfl)) ?_
   refine yM rfl rfl ?_
   refine yK rfl ?_
   refine yK rfl ?_
   refine yK rfl ?_
   refine yK rfl ?_
   refine yK rfl ?_
   refine yK rfl ?_
   refine aops_n rfl (n_pt rfl rfl (by constructor)) ?_
   refine yN ?_
   dsimp only [St.put]
   refine K14 _ ?_
   refine aw_cond rfl (fun _ => ?_) (fun h => by cases h)
   refine yS fun _ K15 => ?_
   refine yR ?_
   refine yA rfl rfl ?_
   refine yN ?_
   dsimp only [St.put]
   refine K15 _ ?_
   refine aw_ret ?_
   refine ends_1 rfl (by constructor) zN zS ?_
   first
   | exact vb (copyB_rd hx (readingB_none hw)).symm
   | exact vb (copyB_rd hx (readingB_odd hk)).symm
  obtain ⟨l, hw2⟩ := Option.ne_none_iff_exists'.1 hw
  rw [hw2]
  dsimp only [Option.getD_some]
  obtain ⟨_, _, _, _, hl1, hl10⟩ := words_bd ht hw2
  refine yR ?_
  refine yM rfl rfl ?_
  refine aops_n rfl (n_len' rfl rfl (List.length_map _)) ?_
  refine aops_n rfl (n_bool (n_eql rfl rfl rfl) (decide_eq_false (by omega))) ?_
  refine yM rfl rfl ?_
  refine yF rfl rfl rfl rfl ?_
  refine yL rfl rfl rfl ?_
  refine aops_n rfl (n_conv rfl rfl (by kernel_rfl) (by kernel_rfl) (by omega)) ?_
  try dsimp only [St.put]
  refine aops_e rfl (e_buildSlice rfl rfl rfl (by decide) (by decide) zR (by decide) ?_)
  try dsimp only [St.put]
  refine aops_e rfl (e_call_pure rfl rfl rfl (leafIn_pure _ _ [r.kind]) ?_)
  refine aops_n rfl (n_not rfl rfl) ?_
  refine aops_split (fun hs => ?_) (fun hs => ?_)
  ·have hk : inB r.kind 1 3 = false := by rw [inAll_one] at hs; simpa using hs
   refine aops_n rfl (n_pf rfl rfl (by constructor)) ?_
   refine yN ?_
   dsimp only [St.put]
   refine K14 _ ?_
   refine aw_cond rfl (fun _ => ?_) (fun h => by cases h)
   refine yS fun _ K16 => ?_
   refine yR ?_
   refine yA rfl rfl ?_
   refine yN ?_
   dsimp only [St.put]
   refine K16 _ ?_
   refine aw_ret ?_
   refine ends_1 rfl (by constructor) zN zS ?_
   first
   | exact vb (copyB_rd hx (readingB_none hw)).symm
   | exact vb (copyB_rd hx (readingB_odd hk)).symm
  have hk : inB r.kind 1 3 = true := by rw [inAll_one] at hs; simpa using hs
  rw [inB_true] at hk
  obtain ⟨kk, hkk, hkk1, hkk3⟩ : ∃ kk : Nat, r.kind = (kk : Int) ∧ 1 ≤ kk ∧ kk ≤ 3 := ⟨r.kind.toNat, by omega, by omega, by omega⟩
  obtain ⟨fr, gm, rest, hknd, hFun, _, hpr, _⟩ := knd_get hkk1 hkk3
  have hrB := readingB_cases t r hw2 hkk hkk1 hkk3
  have hbh : 0 ≤ kBehind kk ∧ kBehind kk ≤ 1 := by unfold kBehind; cases decide (kk = 2) <;> decide
  refine aops_n rfl (n_pf rfl rfl (by constructor)) ?_
  refine yN ?_
  dsimp only [St.put]
  refine K14 _ ?_
  refine aw_cond rfl (fun h => by cases h) (fun _ => ?_)
  refine aw_skip ?_
  refine K13 _ ?_
  refine yS fun _ K17 => ?_
  refine yR ?_
  refine yF rfl rfl rfl rfl ?_
  refine yL rfl rfl rfl ?_
  try dsimp only [St.put]
  refine aops_n rfl (n_indexAddr_fact (j := n) (k := kk) rfl rfl zG rfl hkk (by omega) hknd) ?_
  try dsimp only [St.put]
  refine aops_s rfl (c := .agg [.v (.int .i64 (kBehind kk)), .fn (.func fr) [], .fn (.func gm) []]) (s_load_agg (n := 3) (cs := .v (.int .i64 (kBehind kk)) :: .fn (.func fr) [] :: .fn (.func gm) [] :: rest) rfl rfl (by simp only [List.length_cons]; omega)) ?_
  try dsimp only [St.put]
  refine aops_e rfl (e_allocC rfl ?_)
  try dsimp only [St.put]
  refine aops_e rfl (e_store_all rfl rfl rfl zG rfl rfl (by rfl) ?_)
  refine yN ?_
  dsimp only [St.put]
  refine K17 _ ?_
  refine aw_commitD (i := 8) rfl zG (by first | exact List.cons_ne_nil _ _ | (simp; done) | (simp [putAt]; done)) ?_
  dsimp only
  refine yS fun _ K18 => ?_
  refine yS fun _ K19 => ?_
  refine aw_drawT [(0, none), (1, none), (2, none), (3, none), (4, none), (5, none), (6, none), (7, none), (8, none)] (fun _ => false) (fun i => [0, 1, 2, 3, 5, 6, 7].contains i) 16 [true, true, true, true, true, true, true, true, true, false, false, false, false, false, false, false, false, false, false, false, false, false, false, false, false] (by kernel_rfl) (by kernel_rfl) ?_
  refine xM rfl rfl rfl rfl rfl ?_
  refine acan1_n rfl rfl rfl rfl (n_len' rfl rfl (List.length_map _)) ?_
  refine acan1_n rfl rfl rfl rfl (n_sub rfl rfl rfl (by omega)) ?_
  refine acan1_n rfl rfl rfl rfl (n_fieldAddr' rfl rfl rfl) ?_
  try dsimp only [St.put]
  refine acan1_s rfl rfl rfl rfl (s_load rfl rfl) ?_
  refine acan1_n rfl rfl rfl rfl (n_add rfl rfl rfl (by omega)) ?_
  refine acan1_n rfl rfl rfl rfl (n_fieldAddr' rfl rfl rfl) ?_
  refine acan1_n rfl rfl rfl rfl (n_fieldAddr' rfl rfl rfl) ?_
  try dsimp only [St.put]
  refine acan1_s rfl rfl rfl rfl (s_load rfl rfl) ?_
  refine acan1_nil ?_
  refine aany_step [9] (by kernel_rfl) (by simp) ?_
  refine aeach_cons ?_ ?_
  ·try dsimp only [St.put]
   refine aone_e rfl rfl rfl (e_buildSlice rfl rfl rfl (by decide) (by decide) zR (by decide) ?_)
   refine aany_step [10] (by kernel_rfl) (by simp) ?_
   refine aeach_cons ?_ ?_
   ·try dsimp only [St.put]
    refine aone_e rfl rfl rfl (e_call_pure rfl rfl rfl (leafIn_pure _ _ [r.pl.wd]) ?_)
    refine aany_quiet [(11, none), (12, none), (13, none), (14, none), (15, none), (16, none), (17, none), (18, none), (20, none), (21, none)] (fun i => [11, 12, 13, 15, 16, 17, 20].contains i) 4 [true, true, true, true, true, true, true, true, true, true, true, true, true, true, true, true, true, true, true, false, true, true, false, false, false] (by kernel_rfl) ?_
    refine acan1_n rfl rfl rfl rfl (n_not rfl rfl) ?_
    refine acan1_split (fun hs => ?_) (fun hs => ?_)
    ·have hb : inB r.pl.wd 0 ((l.length : Int) - 1 + kBehind kk) = false := by rw [inAll_one] at hs; simpa using hs
     refine xM rfl rfl rfl rfl rfl ?_
     refine acan1_skip rfl rfl rfl ?_
     refine acan1_skip rfl rfl rfl ?_
     refine acan1_skip rfl rfl rfl ?_
     refine acan1_skip rfl rfl rfl ?_
     refine acan1_skip rfl rfl rfl ?_
     refine acan1_skip rfl rfl rfl ?_
     refine acan1_skip rfl rfl rfl ?_
     refine acan1_skip rfl rfl rfl ?_
     refine acan1_nil ?_
     refine aany_step [19] (by kernel_rfl) (by simp) ?_
     refine aeach_cons ?_ ?_
     ·refine aone_skip rfl rfl rfl ?_
      refine aany_step [22] (by kernel_rfl) (by simp) ?_
      refine aeach_cons ?_ ?_
      ·refine aone_skip rfl rfl rfl ?_
       refine aany_quiet [(23, none), (24, none)] (fun i => [23, 24].contains i) 0 [true, true, true, true, true, true, true, true, true, true, true, true, true, true, true, true, true, true, true, true, true, true, true, true, true] (by kernel_rfl) ?_
       refine acan1_skip rfl rfl rfl ?_
       refine acan1_n rfl rfl rfl rfl (n_pt rfl rfl (by constructor)) ?_
       refine acan1_nil ?_
       dsimp only [St.put]
       refine aany_nil (by kernel_rfl) ?_
       refine K19 _ ?_
       refine aw_cond rfl (fun _ => ?_) (fun h => by cases h)
       have hrd : readingB t r = false := by
        rw [hrB]
        first
         | (rw [hb]; rfl)
         | (rw [hb, Bool.true_and]; simpa using hc)
       refine yS fun _ K20 => ?_
       refine yR ?_
       refine yA rfl rfl ?_
       refine yN ?_
       dsimp only [St.put]
       refine K20 _ ?_
       refine aw_ret ?_
       refine ends_1 rfl (by constructor) zN zS ?_
       exact vb (copyB_rd hx hrd).symm
      exact aeach_nil
     exact aeach_nil
    have hb : inB r.pl.wd 0 ((l.length : Int) - 1 + kBehind kk) = true := by rw [inAll_one] at hs; simpa using hs
    have hb2 := inB_true.1 hb
    have hown : Pure Tryz.prog 67 [lst l, .v (.int .i64 r.pl.wd)] (.v (.string (ownW l r.pl.wd.toNat))) := by
     have := leafOwn_pure l r.pl.wd.toNat (by omega)
     rwa [Int.toNat_of_nonneg hb2.1] at this
    refine xM rfl rfl rfl rfl rfl ?_
    refine acan1_n rfl rfl rfl rfl (n_fieldAddr' rfl rfl rfl) ?_
    try dsimp only [St.put]
    refine acan1_s rfl rfl rfl rfl (s_load rfl rfl) ?_
    refine xM rfl rfl rfl rfl rfl ?_
    refine acan1_n rfl rfl rfl rfl (n_fieldAddr' rfl rfl rfl) ?_
    refine acan1_n rfl rfl rfl rfl (n_fieldAddr' rfl rfl rfl) ?_
    try dsimp only [St.put]
    refine acan1_s rfl rfl rfl rfl (s_load rfl rfl) ?_
    refine acan1_n rfl rfl rfl rfl (n_fieldAddr' rfl rfl rfl) ?_
    try dsimp only [St.put]
    refine acan1_s rfl rfl rfl rfl (s_load rfl rfl) ?_
    refine acan1_nil ?_
    refine aany_step [19] (by kernel_rfl) (by simp) ?_
    refine aeach_cons ?_ ?_
    ·try dsimp only [St.put]
     refine aone_e rfl rfl rfl (e_call_pure rfl rfl rfl (hown) ?_)
     refine aany_step [22] (by kernel_rfl) (by simp) ?_
     refine aeach_cons ?_ ?_
     ·try dsimp only [St.put]
      refine aone_e rfl rfl rfl (e_call_pure rfl rfl rfl (hpr _ _) ?_)
      refine aany_quiet [(23, none), (24, none)] (fun i => [23, 24].contains i) 0 [true, true, true, true, true, true, true, true, true, true, true, true, true, true, true, true, true, true, true, true, true, true, true, true, true] (by kernel_rfl) ?_
      refine acan1_n rfl rfl rfl rfl (n_not rfl rfl) ?_
      refine acan1_n rfl rfl rfl rfl (n_pf rfl rfl (by constructor)) ?_
      refine acan1_nil ?_
      dsimp only [St.put]
      refine aany_nil (by kernel_rfl) ?_
      refine K19 _ ?_
      refine aw_cond rfl (fun hc => ?_) (fun hc => ?_)
      ·have hrd : readingB t r = false := by
        rw [hrB]
        first
         | (rw [hb]; rfl)
         | (rw [hb, Bool.true_and]; simpa using hc)
       refine yS fun _ K21 => ?_
       refine yR ?_
       refine yA rfl rfl ?_
       refine yN ?_
       dsimp only [St.put]
       refine K21 _ ?_
       refine aw_ret ?_
       refine ends_1 rfl (by constructor) zN zS ?_
       exact vb (copyB_rd hx hrd).symm
      have hrd : readingB t r = true := by rw [hrB, hb, Bool.true_and]; simpa using hc
      refine aw_skip ?_
      refine K18 _ ?_
      refine yS fun _ K22 => ?_
      refine yS fun _ K23 => ?_
      refine yR ?_
      refine yM rfl rfl ?_
      refine aops_n rfl (n_eql rfl rfl rfl) ?_
      refine yN ?_
      dsimp only [St.put]
      refine K23 _ ?_
      refine aw_cond rfl (fun hc => ?_) (fun hc => ?_)
      ·replace hc := of_decide_eq_true hc
       have hk0 : k = 0 := by omega
       have hord : orderB (c.rs.take (k + 1)) = true := by
        rw [hk0] at hx ⊢
        exact ord_first hx
       refine aw_exit ?_
       refine K10 _ ?_
       refine yR ?_
       refine aops_n rfl (n_add rfl rfl rfl (by omega)) ?_
       refine yM rfl rfl ?_
       refine yN ?_
       dsimp only [St.put]
       exact ⟨k + 1, by omega, ⟨by omega, by rw [all_take hx, hI.2.1, hrd]; rfl, hord⟩, ⟨⟨rfl, rfl⟩, zF, zB, zN, zX⟩⟩
      replace hc := of_decide_eq_false hc
      obtain ⟨a, ha⟩ : ∃ x, c.rs[k - 1]? = some x := some_of_lt (by omega)
      have hst := ord_next hx (by omega) ha hI.2.2
      refine aw_skip ?_
      refine K22 _ ?_
      refine yS fun _ K24 => ?_
      refine yR ?_
      refine yF rfl rfl rfl rfl ?_
      refine yL rfl rfl rfl ?_
      refine yM rfl rfl ?_
      refine aops_n rfl (n_sub rfl rfl rfl (by omega)) ?_
      try dsimp only [St.put]
      refine aops_n rfl (n_indexAddr (k := k - 1) rfl rfl rfl (by omega) (map_get ha) (Enc.len _)) ?_
      refine yE rfl rfl rfl ?_
      try dsimp only [St.put]
      refine aops_e rfl (e_allocC rfl ?_)
      try dsimp only [St.put]
      refine aops_e rfl (e_store_all rfl rfl rfl zG rfl rfl (by rfl) ?_)
      refine yN ?_
      dsimp only [St.put]
      refine K24 _ ?_
      refine aw_commitD (i := 9) rfl zG (by first | exact List.cons_ne_nil _ _ | (simp; done) | (simp [putAt]; done)) ?_
      dsimp only
      refine yS fun _ K25 => ?_
      refine yR ?_
      refine yF rfl rfl rfl rfl ?_
      try dsimp only [St.put]
      (refine aops_s rfl (c := val a.pl) (s_load_agg (cs := cells a) rfl rfl (show 3 ≤ 5 by decide)) ?_)
      refine yF rfl rfl rfl rfl ?_
      try dsimp only [St.put]
      (refine aops_s rfl (c := val r.pl) (s_load_agg (cs := cells r) rfl rfl (show 3 ≤ 5 by decide)) ?_)
      try dsimp only [St.put]
      refine aops_e rfl (e_call_pure rfl rfl rfl (leafOrder_pure a.pl r.pl) ?_)
      refine yA rfl rfl ?_
      refine yN ?_
      dsimp only [St.put]
      refine K25 _ ?_
      refine yS fun _ K26 => ?_
      refine yR ?_
      refine yM rfl rfl ?_
      refine aops_n rfl (n_gtr rfl rfl rfl) ?_
      refine aops_split (fun hs => ?_) (fun hs => ?_)
      ·have ho1 := of_decide_eq_true hs
       refine yM rfl rfl ?_
       refine yK rfl ?_
       refine yK rfl ?_
       refine yK rfl ?_
       refine yK rfl ?_
       refine yK rfl ?_
       refine yK rfl ?_
       refine yK rfl ?_
       refine aops_n rfl (n_pt rfl rfl (by constructor)) ?_
       refine yN ?_
       dsimp only [St.put]
       skip
       refine K26 _ ?_
       refine aw_cond rfl (fun _ => ?_) (fun h => by cases h)
       skip
       refine yS fun _ K27 => ?_
       refine yR ?_
       refine yA rfl rfl ?_
       refine yN ?_
       dsimp only [St.put]
       refine K27 _ ?_
       refine aw_ret ?_
       refine ends_1 rfl (by constructor) zN zS ?_
       exact vb (copyB_ord (k := k + 1) (by
        rw [hst]
        cases h : stepB a r with
        | false => rfl
        | true =>
         obtain ⟨q1, q2⟩ := stepB_true.1 h
         first
          | exact absurd ho1 q1
          | (have q3 := q2 (cmpP_zero.1 ho2)
             rw [q3] at hc
             exact absurd hc (by decide)))).symm
      have ho1 := of_decide_eq_false hs
      refine yM rfl rfl ?_
      refine yM rfl rfl ?_
      refine aops_n rfl (n_eql rfl rfl rfl) ?_
      refine aops_split (fun hs => ?_) (fun hs => ?_)
      ·have ho2 := of_decide_eq_true hs
       refine yM rfl rfl ?_
       refine yF rfl rfl rfl rfl ?_
       refine yL rfl rfl rfl ?_
       refine aops_n rfl (n_neq rfl rfl rfl) ?_
       refine aops_n rfl (n_pt rfl rfl (by constructor)) ?_
       refine aops_n rfl (n_pf rfl rfl (by constructor)) ?_
       refine yN ?_
       dsimp only [St.put]
       skip
       refine K26 _ ?_
       refine aw_cond rfl (fun hc => ?_) (fun hc => ?_)
       ·skip
        refine yS fun _ K28 => ?_
        refine yR ?_
        refine yA rfl rfl ?_
        refine yN ?_
        dsimp only [St.put]
        refine K28 _ ?_
        refine aw_ret ?_
        refine ends_1 rfl (by constructor) zN zS ?_
        exact vb (copyB_ord (k := k + 1) (by
         rw [hst]
         cases h : stepB a r with
         | false => rfl
         | true =>
          obtain ⟨q1, q2⟩ := stepB_true.1 h
          first
           | exact absurd ho1 q1
           | (have q3 := q2 (cmpP_zero.1 ho2)
              rw [q3] at hc
              exact absurd hc (by decide)))).symm
       have hord : orderB (c.rs.take (k + 1)) = true := by
        rw [hst]
        refine stepB_true.2 ⟨ho1, fun e => ?_⟩
        first
         | exact absurd (cmpP_zero.2 e) ho2
         | simpa using hc
       refine aw_skip ?_
       refine K10 _ ?_
       refine yR ?_
       refine aops_n rfl (n_add rfl rfl rfl (by omega)) ?_
       refine yM rfl rfl ?_
       refine yN ?_
       dsimp only [St.put]
       exact ⟨k + 1, by omega, ⟨by omega, by rw [all_take hx, hI.2.1, hrd]; rfl, hord⟩, ⟨⟨rfl, rfl⟩, zF, zB, zN, zX⟩⟩
      have ho2 := of_decide_eq_false hs
      refine yM rfl rfl ?_
      refine yK rfl ?_
      refine yK rfl ?_
      refine yK rfl ?_
      refine aops_n rfl (n_pf rfl rfl (by constructor)) ?_
      refine aops_n rfl (n_pf rfl rfl (by constructor)) ?_
      refine yN ?_
      dsimp only [St.put]
      skip
      refine K26 _ ?_
      refine aw_cond rfl (fun h => by cases h) (fun _ => ?_)
      have hord : orderB (c.rs.take (k + 1)) = true := by
       rw [hst]
       refine stepB_true.2 ⟨ho1, fun e => ?_⟩
       first
        | exact absurd (cmpP_zero.2 e) ho2
        | simpa using hc
      refine aw_skip ?_
      refine K10 _ ?_
      refine yR ?_
      refine aops_n rfl (n_add rfl rfl rfl (by omega)) ?_
      refine yM rfl rfl ?_
      refine yN ?_
      dsimp only [St.put]
      exact ⟨k + 1, by omega, ⟨by omega, by rw [all_take hx, hI.2.1, hrd]; rfl, hord⟩, ⟨⟨rfl, rfl⟩, zF, zB, zN, zX⟩⟩
     exact aeach_nil
    exact aeach_nil
   exact aeach_nil
  exact aeach_nil
 replace hc := of_decide_eq_false hc
 have hv : rsB t c.rs = true := by
  obtain ⟨_, h2, h3⟩ := hI
  rw [take_all (by omega)] at h2 h3
  simp [rsB, h2, h3]
 have hrl := readT_len t c.rs
 refine aw_exit ?_
 refine K6 _ ?_
 refine yS fun _ K29 => ?_
 refine yS fun _ K30 => ?_
 refine yR ?_
 refine yM rfl rfl ?_
 refine yE rfl rfl rfl ?_
 try dsimp only [St.put]
 refine aops_e rfl (e_call_n rfl rfl rfl (bookRead_pureN n t c ht hl20 hv) zG (by dsimp only; omega) ?_)
 refine aops_n rfl (n_field rfl rfl rfl) ?_
 refine aops_n rfl (n_len' rfl rfl (List.length_map _)) ?_
 refine yM rfl rfl ?_
 refine yN ?_
 dsimp only [St.put]
 refine K30 _ ?_
 refine aw_block ?_
 refine aw_wipe 107 ?_
 simp only [firsts, getA, Nat.reduceAdd, List.getD_cons_zero, List.getD_cons_succ, List.getD_nil, natBeq, Nat.reduceBEq, cond_true, cond_false]
 refine aw_forget (G) zX ?_
 dsimp only
 refine aw_loopD (X := Nat) (fun j => j ≤ (readT t c.rs).length ∧ ((readT t c.rs).take j).all lnB = true) (fun j => (readT t c.rs).length - j) (fun j => [(12, .any), (106, .v (.int .i64 (j : Int)))]) (fun j G' => G') 0 rfl ?_ ?_ (fun _ _ h => h) ?_ ?_ ?_
 ·exact ⟨Nat.zero_le _, rfl⟩
 ·exact zF
 ·rintro j hI
  exact zL
 ·exact fun _ _ _ _ h => .inl h
 rintro j hJ
 dsimp only at hJ ⊢
 refine yS fun _ K31 => ?_
 refine yR ?_
 refine aops_n rfl (n_lss rfl rfl rfl) ?_
 refine yN ?_
 dsimp only [St.put]
 refine K31 _ ?_
 refine yS fun _ K32 => ?_
 refine aw_cond rfl (fun hc => ?_) (fun hc => ?_)
 ·replace hc := of_decide_eq_true hc
  obtain ⟨y, hy⟩ : ∃ x, (readT t c.rs)[j]? = some x := some_of_lt (by omega)
  refine aw_skip ?_
  refine K32 _ ?_
  refine yS fun _ K33 => ?_
  refine aw_block ?_
  refine yS fun _ K34 => ?_
  refine yR ?_
  refine aops_n rfl (n_indexAddr rfl rfl rfl rfl (map_get (by assumption)) (Enc.len _)) ?_
  refine yE rfl rfl rfl ?_
  try dsimp only [St.put]
  refine aops_e rfl (e_allocC rfl ?_)
  try dsimp only [St.put]
  refine aops_e rfl (e_store_all rfl rfl rfl zG rfl rfl (by rfl) ?_)
  refine yN ?_
  dsimp only [St.put]
  refine K34 _ ?_
  refine aw_commitD (i := 12) rfl zG (by first | exact List.cons_ne_nil _ _ | (simp; done) | (simp [putAt]; done)) ?_
  dsimp only
  refine yS fun _ K35 => ?_
  refine yR ?_
  refine yF rfl rfl rfl rfl ?_
  refine yL rfl rfl rfl ?_
  try dsimp only [St.put]
  refine aops_e rfl (e_call_pure rfl rfl rfl (ContainsLines_pure y.lines (fun l => !inB l.length 1 10) _ _ (fun z hz => right1_pure z (readC_bd ht hv hl20 hy z hz))) ?_)
  refine yN ?_
  dsimp only [St.put]
  refine K35 _ ?_
  refine aw_cond rfl (fun hc => ?_) (fun hc => ?_)
  ·have hln : lnB y = false := by rw [lnB_any] at hc; simpa using hc
   refine yS fun _ K36 => ?_
   refine yR ?_
   refine yA rfl rfl ?_
   refine yN ?_
   dsimp only [St.put]
   refine K36 _ ?_
   refine aw_ret ?_
   refine ends_1 rfl (by constructor) zN zS ?_
   exact vb (copyB_ln (all_false_of hy hln)).symm
  have hln : lnB y = true := by rw [lnB_any] at hc; simpa using hc
  refine aw_skip ?_
  refine K33 _ ?_
  refine yR ?_
  refine aops_n rfl (n_add rfl rfl rfl (by omega)) ?_
  refine yM rfl rfl ?_
  refine yN ?_
  dsimp only [St.put]
  exact ⟨j + 1, by omega, ⟨by omega, by rw [all_take hy, hJ.2, hln]; rfl⟩, ⟨⟨rfl, rfl⟩, zF, zB, zN, zX⟩⟩
 replace hc := of_decide_eq_false hc
 refine aw_exit ?_
 refine K29 _ ?_
 refine yS fun _ K37 => ?_
 refine yR ?_
 refine yA rfl rfl ?_
 refine yN ?_
 dsimp only [St.put]
 refine K37 _ ?_
 refine aw_ret ?_
 refine ends_1 rfl (by constructor) zN zS ?_
 exact vb (by
  have h2 := hJ.2
  rw [take_all (by omega)] at h2
  exact (copyB_true.2 ⟨h1, hl20, hv, h2⟩).symm)
theorem copied_pureN (n : Nat) (t : TextD) (c : CopyD) : PureN n kndF Tryz.prog 39 [textC t, val c] (.tup [copiedC t c, .v (.int .i64 (copyEr t c))]) := fun G nx hF hnx => by
 refine pc_named_of_body (G) (nx) Tryz.func39 rfl (.tup (low_cons (copiedC_low _ _ _) (low_cons .v low_nil))) zN (fun hlt => zH) ?_
 simp only [Tryz.ntmps39, List.length_cons, List.length_nil, Nat.reduceAdd, Nat.reduceSub]
 refine aw_lt fun hlt => ?_
 dsimp only at hlt
 refine yS fun _ K1 => ?_
 refine yR ?_
 try dsimp only [St.put]
 refine yB rfl rfl rfl ?_
 try dsimp only [St.put]
 refine yB rfl rfl rfl ?_
 refine yA rfl rfl ?_
 refine yA rfl rfl ?_
 refine yN ?_
 dsimp only [St.put]
 refine K1 _ ?_
 refine yS fun _ K2 => ?_
 refine yR ?_
 try dsimp only [St.put]
 refine aops_s rfl (s_load_agg' rfl rfl rfl) ?_
 try dsimp only [St.put]
 refine aops_e rfl (e_call_pure rfl rfl rfl (leafOpen_pure t) ?_)
 refine yM rfl rfl ?_
 refine yX rfl rfl rfl rfl ?_
 refine yX rfl rfl rfl rfl ?_
 refine yA rfl rfl ?_
 refine yA rfl rfl ?_
 refine yN ?_
 dsimp only [St.put]
 refine K2 _ ?_
 refine yS fun _ K3 => ?_
 refine yS fun _ K4 => ?_
 refine yR ?_
 refine yM rfl rfl ?_
 refine aops_n rfl (n_neq rfl rfl rfl) ?_
 refine yN ?_
 dsimp only [St.put]
 refine K4 _ ?_
 refine aw_cond rfl (fun hc => ?_) (fun hc => ?_)
 ·have htx : textB t = false := by
   cases h : textB t
   ·rfl
   simp [textEr, h] at hc
  refine yS fun _ K5 => ?_
  refine yR ?_
  refine yM rfl rfl ?_
  refine yA rfl rfl ?_
  refine yA rfl rfl ?_
  refine yN ?_
  dsimp only [St.put]
  refine K5 _ ?_
  refine aw_ret ?_
  refine ends_2 rfl (by constructor) (by constructor) zN zS ?_ ?_
  ·simp [copiedC, copyEr, htx]
  exact vi (by simp [copyEr, textEr, htx])
 have htx : textB t = true := by
  cases h : textB t
  ·simp [textEr, h] at hc
  rfl
 rw [show openC t = .elem [lst t] by simp [openC, htx]]
 refine aw_skip ?_
 refine K3 _ ?_
 refine yS fun _ K6 => ?_
 refine yS fun _ K7 => ?_
 refine yR ?_
 refine yM rfl rfl ?_
 refine yE rfl rfl rfl ?_
 try dsimp only [St.put]
 refine aops_e rfl (e_call_n rfl rfl rfl (bookRight_pureN n t c htx) zG (by dsimp only; omega) ?_)
 refine aops_n rfl (n_not rfl rfl) ?_
 refine yN ?_
 dsimp only [St.put]
 refine K7 _ ?_
 refine aw_cond rfl (fun hc => ?_) (fun hc => ?_)
 ·have h1 : copyB t c = false := by simpa using hc
  refine yS fun _ K8 => ?_
  refine yR ?_
  refine yA rfl rfl ?_
  refine yA rfl rfl ?_
  refine yN ?_
  dsimp only [St.put]
  refine K8 _ ?_
  refine aw_ret ?_
  refine ends_2 rfl (by constructor) (by constructor) zN zS ?_ ?_
  ·simp [copiedC, copyEr, htx, h1]
  exact vi (by simp [copyEr, htx, h1])
 have h1 : copyB t c = true := by simpa using hc
 refine aw_skip ?_
 refine K6 _ ?_
 refine yS fun _ K9 => ?_
 refine yR ?_
 refine yM rfl rfl ?_
 refine yA rfl rfl ?_
 refine yA rfl rfl ?_
 refine yN ?_
 dsimp only [St.put]
 refine K9 _ ?_
 refine aw_ret ?_
 refine ends_2 rfl (by constructor) (by constructor) zN zS ?_ ?_
 ·simp [copiedC, copyEr, htx, h1]
 exact vi (by simp [copyEr, htx, h1])
theorem leafRead_pureN (n : Nat) (t : TextD) (c : CopyD) : PureN n kndF Tryz.prog 11 [textC t, val c] (.tup [textC (readTx t c), .v (.int .i64 (copyEr t c))]) := fun G nx hF hnx => by
 refine pc_named_of_body (G) (nx) Tryz.func11 rfl (.tup (low_cons (.agg (low_cons (lst_low _ _) low_nil)) (low_cons .v low_nil))) zN (fun hlt => zH) ?_
 simp only [Tryz.ntmps11, List.length_cons, List.length_nil, Nat.reduceAdd, Nat.reduceSub]
 refine aw_lt fun hlt => ?_
 dsimp only at hlt
 refine yS fun _ K1 => ?_
 refine yR ?_
 try dsimp only [St.put]
 refine yB rfl rfl rfl ?_
 try dsimp only [St.put]
 refine yB rfl rfl rfl ?_
 try dsimp only [St.put]
 refine aops_e rfl (e_allocC rfl ?_)
 refine yA rfl rfl ?_
 refine yN ?_
 dsimp only [St.put]
 refine K1 _ ?_
 refine yS fun _ K2 => ?_
 refine yR ?_
 try dsimp only [St.put]
 refine aops_s rfl (s_load_agg' rfl rfl rfl) ?_
 refine yE rfl rfl rfl ?_
 try dsimp only [St.put]
 refine aops_e rfl (e_call_n rfl rfl rfl (copied_pureN n t c) zG (by dsimp only; omega) ?_)
 refine yM rfl rfl ?_
 refine yX rfl rfl rfl rfl ?_
 refine yX rfl rfl rfl rfl ?_
 refine yA rfl rfl ?_
 refine yA rfl rfl ?_
 refine yN ?_
 dsimp only [St.put]
 refine K2 _ ?_
 refine yS fun _ K3 => ?_
 refine yS fun _ K4 => ?_
 refine yR ?_
 refine yM rfl rfl ?_
 refine aops_n rfl (n_neq rfl rfl rfl) ?_
 refine yN ?_
 dsimp only [St.put]
 refine K4 _ ?_
 refine aw_cond rfl (fun hc => ?_) (fun hc => ?_)
 ·have h0 : copyEr t c ≠ 0 := nd_t hc
  refine yS fun _ K5 => ?_
  refine yR ?_
  refine aops_n rfl (n_build rfl rfl) ?_
  refine yM rfl rfl ?_
  try dsimp only [St.put]
  refine aops_e rfl (e_store_all rfl rfl rfl zG rfl rfl (by rfl) ?_)
  refine yA rfl rfl ?_
  refine yN ?_
  dsimp only [St.put]
  refine K5 _ ?_
  refine aw_ret ?_
  refine ends_v2 rfl (rv_box rfl zG (by rfl) (by first | exact List.cons_ne_nil _ _ | (simp; done) | (simp [putAt]; done)) rfl) (rv_tmp (by constructor)) zN zS ?_ ?_
  ·rw [show readTx t c = [] by simp [readTx, h0]]
   exact zW
  exact zW
 have h0 : copyEr t c = 0 := nd_f hc
 obtain ⟨h1, h2⟩ := copyEr_zero.1 h0
 obtain ⟨_, h3, h4, _⟩ := copyB_true.1 h2
 rw [show copiedC t c = .elem [lst t] by simp [copiedC, h0]]
 refine aw_skip ?_
 refine K3 _ ?_
 refine yS fun _ K6 => ?_
 refine yR ?_
 refine yM rfl rfl ?_
 refine yE rfl rfl rfl ?_
 try dsimp only [St.put]
 refine aops_e rfl (e_call_n rfl rfl rfl (bookRead_pureN n t c h1 h3 h4) zG (by dsimp only; omega) ?_)
 try dsimp only [St.put]
 refine aops_e rfl (e_store_all rfl rfl rfl zG rfl rfl (by rfl) ?_)
 refine yA rfl rfl ?_
 refine yN ?_
 dsimp only [St.put]
 refine K6 _ ?_
 refine aw_ret ?_
 refine ends_v2 rfl (rv_box rfl zG (by rfl) (by first | exact List.cons_ne_nil _ _ | (simp; done) | (simp [putAt]; done)) rfl) (rv_tmp (by constructor)) zN zS ?_ ?_
 ·rw [show readTx t c = readT t c.rs by simp [readTx, h0]]
  exact zW
 exact Wk.of_eq (vi h0.symm)
end Go.Proofs.YtejhjijbgceklaaGreatDoor

/-
  What the walks through the program rest on: values, states, steps, calls (LiFacts, LnDoubt, LqOrder).
-/
import Derived.Test.YtejhjijbgceklaaDoorGrpQ
import Derived.Test.YtejhjijbgceklaaDoorAbRem
import Derived.Test.YtejhjijbgceklaaDoorGrpX
namespace Go.AB
open Go Go.RowKit
open Go.AB.Enc (cells)
open Go.PB (Chap TextD PlaceD ReadingD CopyD WayD)
theorem n_remE {P : Program} {o : Oper} {st : St} {xt yt : TypeId} {x y : Operand} {m n r : Int} (hr : m % n = r) (ho : o.op = .binOp .rem xt x y yt) (hx : evC st x = .v (.int .i64 m)) (hy : evC st y = .v (.int .i64 n)) (hm : 0 ≤ m ∧ m ≤ 9223372036854775807) (hn : 0 < n) : NStep P o st (.v (.int .i64 r)) := hr ▸ n_rem ho hx hy hm hn
section
variable {t : TextD} {i k : Nat} {x y : PW}
theorem readyT_true : readyT t = true ↔ greatB t = false ∧ textB t = true := by simp [readyT]
theorem rightC_true {c : CopyD} : rightC t c = true ↔ greatCp c = false ∧ copyB t c = true := by simp [rightC]
end
end Go.AB
namespace Go.Proofs.YtejhjijbgceklaaDoor
set_option maxRecDepth 10000
open Go.RowKit Go.AB
open Go.AB.Enc (cells)
open Go.PB (Chap TextD PlaceD ReadingD CopyD WayD)
end Go.Proofs.YtejhjijbgceklaaDoor
namespace Go.AB
open Go Go.RowKit
open Go.AB.Enc (cells)
open Go.PB (Chap TextD PlaceD ReadingD CopyD WayD)
theorem doubtL_mem {t : TextD} {cs : List CopyD} {x : PW} (hx : x ∈ allP t) : x.1 ∈ doubtL (allP t) cs ↔ doubtB cs x = true := by
 unfold doubtL
 simp only [List.mem_map, List.mem_filter]
 constructor
 ·rintro ⟨y, ⟨h1, h2⟩, h3⟩
  have e1 := allP_wordP h1
  have e2 := allP_wordP hx
  rw [h3] at e1
  have : y = x := Prod.ext h3 (e1.symm.trans e2)
  rwa [this] at h2
 exact fun h => ⟨x, ⟨hx, h⟩, rfl⟩
theorem mem_step {α : Type} [DecidableEq α] {l : List α} {k : Nat} {q p : α} (h : l[k]? = some q) : decide (p ∈ l.take (k + 1)) = (decide (p ∈ l.take k) || decide (q = p)) := by
 rw [List.take_add_one, h, Option.toList_some, Bool.eq_iff_iff]
 simp only [decide_eq_true_eq, List.mem_append, List.mem_singleton, Bool.or_eq_true]
 exact or_congr Iff.rfl eq_comm
end Go.AB
namespace Go.Proofs.YtejhjijbgceklaaDoor
set_option maxRecDepth 10000
open Go.RowKit Go.AB
open Go.AB.Enc (cells)
open Go.PB (Chap TextD PlaceD ReadingD CopyD WayD)
theorem lDoubt (n : Nat) (t : TextD) (cs : List CopyD) (ht : textB t = true) (hl : cs.length ≤ 5) (hc : cs.all (copyB t) = true) : PureN n kndF Tryd.prog 17 [textC t, lst cs] (.tup [lst (doubtL (allP t) cs), .v (.int .i64 0)]) := by
 have hE : doubtEr t cs = 0 := by simp [doubtEr, ht, hl, hc]
 have := leafDoubt_pureN n t cs
 rwa [hE, show doubtV t cs = doubtL (allP t) cs by simp [doubtV, hE]] at this
end Go.Proofs.YtejhjijbgceklaaDoor
namespace Go.AB
open Go Go.RowKit
open Go.AB.Enc (cells)
open Go.PB (Chap TextD PlaceD ReadingD CopyD WayD)
section
variable {P : Program} {o : Oper} {st : St} {K : St → Prop}
/-- What stands in a slot is known less well, ahead of an operation. -/
theorem e_wk (i : Nat) {c : C} (c' : C) (h0 : st.at i = c) (hw : Wk c c') (h : EStep P o { st with r := (i, c') :: st.r } K) : EStep P o st K := by
 intro E w a hs
 have hp := hs.at i
 rw [h0] at hp
 refine h E w a ⟨hs.d, hs.sz, fun j v hj => ?_, hs.g⟩
 simp only [getA]
 cases hb : Nat.beq i j
 ·exact hs.t j v hj
 have hij := Nat.eq_of_beq_eq_true hb
 subst hij
 have hv : a.tmps.getD i undef = v := by rw [Array.getD_eq_getD_getElem?, hj]; rfl
 rw [hv] at hp
 exact hw.2 _ _ _ hp
/-- An empty slice that is built: owned. -/
theorem e_buildSlice0_own {t e : TypeId} {sz bytes : Nat} [AppT P t e sz bytes] (ho : o.op = .buildSlice t 0 #[]) (hsz1 : 1 ≤ sz) (h : K (St.put { st with G := setG st.G st.nx (.arr 0 0 e sz 0 []), nx := st.nx + 1 } o.dst (.own st.nx 0 0))) : EStep P o st K :=
 estep_run fun E w a hsim => by
  obtain ⟨ht, i, z, hie, hz, h1, h2, h3⟩ := AppT.spec (P := P) (t := t) (e := e) (sz := sz) (bytes := bytes)
  obtain ⟨ob, hob⟩ : ∃ ob, ob = Obj.cells #[] e := ⟨_, rfl⟩
  have hev := Ev.laid hsim.g (o := ob) 0 (.inl rfl)
  have hg := SimG.laid hsim.g (o := ob) 0 (.inl rfl)
  have hnew : (w.alloc ob).heap[w.heap.size]? = some ob := heap_new w ob
  have hsz : (w.alloc ob).heap.size = w.heap.size + 1 := by simp
  have hold : ∀ n tt b, (E.lay w.heap.size 0).T n = some tt → blk tt.2.2 = some b → b < w.heap.size := fun n tt b h5 h6 => (hsim.g.tb n _ _ _ b h5 h6).2
  have hnx := hsim.g.nx
  have hfr : ∀ b o', blk (.slice (some ⟨w.heap.size, 0, none⟩) 0 0) = some b → w.heap[b]? = some o' → False := fun b o' hbk ho' => by
   simp only [blk, Option.some.injEq] at hbk
   subst hbk
   have := (Array.getElem?_eq_some_iff.1 ho').1
   omega
  have hev2 := hev.thenName (.slice (some ⟨w.heap.size, 0, none⟩) 0 0) hfr
  have hg2 := SimG.name hg (.slice (some ⟨w.heap.size, 0, none⟩) 0 0) (.arr 0 0 e sz 0 []) (fun b hbk => by
   simp only [blk, Option.some.injEq] at hbk
   subst hbk
   exact ⟨hsim.g.base, by rw [hsz]; omega, fun n tt h5 h6 => absurd (hold n tt _ h5 h6) (by omega)⟩) (by
   refine ⟨.slice (some ⟨w.heap.size, 0, none⟩) 0 0, [], ?_, ⟨by simp, .inr ⟨w.heap.size, 0, _, rfl, hsim.g.base, hnew.trans (by rw [hob]), Nat.le_refl _, Nat.zero_le _, by simp, by simp⟩⟩, fun c hc => (by cases hc), Rs.nil, fun b hbk => ?_, hsz1⟩
   ·simp [Env.name, Env.lay, hnx]
   simp only [blk, Option.some.injEq] at hbk
   subst hbk
   simp [Env.name, Env.lay])
  refine ⟨.slice (some ⟨w.heap.size, 0, none⟩) 0 0, w.alloc ob, _, _, _, .own st.nx 0 0, ?_, hev2, ?_, hg2, h⟩
  ·subst hob
   simp [execOp, ho, Instr.buildSlice, run_underlying ht, sizeOf, typeInfo, hie, Instr.fill, newRow, newObj, Sem.run, show (Array.map (fun _ => (default : Value)) (Array.range 0)) = #[] from by simp]
  refine R.own (by simp [Env.name, Env.lay]; omega) (Nat.le_refl _) (Nat.zero_le _) fun ver wv val htt => ?_
  simp only [Env.name, Env.lay, hnx, if_true, Option.some.injEq, Prod.mk.injEq] at htt
  obtain ⟨rfl, rfl, rfl⟩ := htt
  exact ⟨Nat.le_refl _, fun _ => ⟨_, Nat.le_refl _, rfl⟩⟩
end
theorem Rs.wk {E : Env} {w : World} : ∀ {cs cs' : List C} {vs : List Value}, Wks cs cs' → Rs E w cs vs → Rs E w cs' vs := fun {cs cs' vs} hw h =>
 ⟨hw.len ▸ h.1, fun j c v hj hv => by
  obtain ⟨c0, h1, h2⟩ := hw.get j c hj
  exact h2.2 _ _ _ (h.2 j c0 v h1 hv)⟩
theorem PureN.wk {n : Nat} {F : GObj} {P : Program} {f : FuncId} {al bl : List C} {r : C} (h : PureN n F P f bl r) (hw : Wks al bl) : PureN n F P f al r := fun G nx h1 h2 E w vs h3 h4 => h G nx h1 h2 E w vs (h3.wk hw) h4
/-- copies, turned by so many -/
def turnTo (l : List CopyD) (s k : Nat) : List CopyD := (List.range k).flatMap fun i => (l[(i + s) % l.length]?).toList
theorem turnTo_succ {l : List CopyD} {s k : Nat} {c : CopyD} (h : l[(k + s) % l.length]? = some c) : turnTo l s (k + 1) = turnTo l s k ++ [c] := by
 unfold turnTo
 rw [List.range_succ, List.flatMap_append]
 simp [h]
theorem turnTo_len (l : List CopyD) (s : Nat) : ∀ k, (turnTo l s k).length ≤ k
 | 0 => by simp [turnTo]
 | k + 1 => by
  have h := turnTo_len l s k
  unfold turnTo at h ⊢
  rw [List.range_succ, List.flatMap_append, List.length_append]
  have : (List.flatMap (fun i => (l[(i + s) % l.length]?).toList) [k]).length ≤ 1 := by
   cases e : l[(k + s) % l.length]? <;> simp [e]
  omega
theorem turnTo_mem {l : List CopyD} {s : Nat} (hs : l = [] ∨ s < l.length) {c : CopyD} : c ∈ turnTo l s l.length ↔ c ∈ l := by
 unfold turnTo
 rw [List.mem_flatMap]
 constructor
 ·rintro ⟨i, _, h⟩
  cases e : l[(i + s) % l.length]? with
  | none => rw [e] at h; cases h
  | some d =>
   rw [e] at h
   simp only [Option.toList_some, List.mem_singleton] at h
   subst h
   exact List.mem_of_getElem? e
 intro h
 obtain ⟨j, hj⟩ := List.getElem?_of_mem h
 have hlt := (List.getElem?_eq_some_iff.1 hj).1
 have hs2 : s < l.length := hs.resolve_left fun e => by subst e; cases h
 refine ⟨(j + (l.length - s)) % l.length, List.mem_range.2 (Nat.mod_lt _ (by omega)), ?_⟩
 rw [Nat.mod_add_mod, show j + (l.length - s) + s = j + l.length by omega, Nat.add_mod_right, Nat.mod_eq_of_lt hlt, hj]
 simp
theorem doubtB_mem {cs cs' : List CopyD} (h : ∀ c, c ∈ cs ↔ c ∈ cs') (x : PW) : doubtB cs x = doubtB cs' x := by
 unfold doubtB
 rw [Bool.eq_iff_iff, List.any_eq_true, List.any_eq_true]
 exact ⟨fun ⟨c, h1, h2⟩ => ⟨c, (h c).1 h1, h2⟩, fun ⟨c, h1, h2⟩ => ⟨c, (h c).2 h1, h2⟩⟩
theorem doubtL_same {cs cs' : List CopyD} (h : ∀ c, c ∈ cs ↔ c ∈ cs') (l : List PW) : doubtL l cs = doubtL l cs' := by
 unfold doubtL
 rw [show doubtB cs = doubtB cs' from funext (doubtB_mem h)]
theorem doubtB_app (cs cs' : List CopyD) (x : PW) : doubtB (cs ++ cs') x = (doubtB cs x || doubtB cs' x) := by unfold doubtB; rw [List.any_append]
theorem doubtL_nil (l : List PW) : doubtL l [] = [] := by
 unfold doubtL
 rw [show doubtB [] = fun _ => false from funext fun x => rfl]
 simp
theorem doubtL_more {t : TextD} {cs cs' : List CopyD} {q : PlaceD} : q ∈ doubtL (allP t) (cs ++ cs') ↔ q ∈ doubtL (allP t) cs ∨ q ∈ doubtL (allP t) cs' := by
 unfold doubtL
 simp only [List.mem_map, List.mem_filter, doubtB_app, Bool.or_eq_true]
 constructor
 ·rintro ⟨y, ⟨h1, h2 | h2⟩, h3⟩
  ·exact .inl ⟨y, ⟨h1, h2⟩, h3⟩
  exact .inr ⟨y, ⟨h1, h2⟩, h3⟩
 rintro (⟨y, ⟨h1, h2⟩, h3⟩ | ⟨y, ⟨h1, h2⟩, h3⟩)
 ·exact ⟨y, ⟨h1, .inl h2⟩, h3⟩
 exact ⟨y, ⟨h1, .inr h2⟩, h3⟩
/-- of all that are in doubt, those that were so before -/
theorem doubtL_part (t : TextD) (cs cs' : List CopyD) : (doubtL (allP t) (cs ++ cs')).filter (fun q => decide (q ∈ doubtL (allP t) cs)) = doubtL (allP t) cs := by
 have h0 : doubtL (allP t) (cs ++ cs') = ((allP t).filter (doubtB (cs ++ cs'))).map (·.1) := rfl
 rw [h0, List.filter_map, List.filter_filter]
 show _ = ((allP t).filter (doubtB cs)).map (·.1)
 congr 1
 refine List.filter_congr fun x hx => ?_
 have := doubtL_mem (cs := cs) hx
 rw [Bool.eq_iff_iff, Bool.and_eq_true, Function.comp, decide_eq_true_eq, this, doubtB_app, Bool.or_eq_true]
 exact ⟨fun h => h.1, fun h => ⟨h, .inl h⟩⟩
theorem doubtL_grows (t : TextD) (cs cs' : List CopyD) : (doubtL (allP t) cs').length ≤ (doubtL (allP t) (cs ++ cs')).length := by
 unfold doubtL
 rw [List.length_map, List.length_map, ← List.countP_eq_length_filter, ← List.countP_eq_length_filter]
 refine List.countP_mono_left fun x _ h => ?_
 rw [doubtB_app, h, Bool.or_true]
/-- so many of the first ones are of a list -/
def inN (b a : List PlaceD) : Nat := (b.filter fun q => decide (q ∈ a)).length
theorem inN_step {b a : List PlaceD} {k : Nat} {q : PlaceD} (h : b[k]? = some q) : inN (b.take (k + 1)) a = inN (b.take k) a + (bif decide (q ∈ a) then 1 else 0) := by
 unfold inN
 rw [List.take_add_one, h, Option.toList_some, List.filter_append, List.length_append]
 cases e : decide (q ∈ a) <;> simp [e]
theorem inN_le (b a : List PlaceD) : inN b a ≤ b.length := List.length_filter_le _ _
end Go.AB
namespace Go.Proofs.YtejhjijbgceklaaDoor
set_option maxRecDepth 10000
open Go.RowKit Go.AB
open Go.AB.Enc (cells)
open Go.PB (Chap TextD PlaceD ReadingD CopyD WayD)
set_option maxHeartbeats 8000000 in
theorem order_pureN (t : TextD) (l : List CopyD) (more : CopyD) (a : Int) : PureN 0 kndF Tryd.prog 5 [textC t, lst l, val more, .v (.int .u8 a)] (.v (.bool true)) := fun G nx hF hnx => by
 refine pc_named_of_body (G) (nx) Tryd.func5 rfl (.v) zN (fun hlt => zH) ?_
 simp only [Tryd.ntmps5, List.length_cons, List.length_nil, Nat.reduceAdd, Nat.reduceSub]
 refine aw_lt fun hlt => ?_
 dsimp only at hlt
 refine aw_fit 3 (fun hfa => ?_)
 replace hfa : 0 ≤ a ∧ a ≤ 255 := okV_int.1 (fit_v.1 hfa)
 refine aw_fit 1 (fun hfl => ?_)
 have hfl1 := (fit_lst.1 hfl).1
 refine yS fun _ K1 => ?_
 refine yR ?_
 try dsimp only [St.put]
 refine yB rfl rfl rfl ?_
 try dsimp only [St.put]
 refine yB rfl rfl rfl ?_
 refine yA rfl rfl ?_
 refine yN ?_
 dsimp only [St.put]
 refine K1 _ ?_
 refine yS fun _ K2 => ?_
 refine yR ?_
 try dsimp only [St.put]
 refine aops_e rfl (e_call_n rfl rfl rfl (alive_pureN 0) zG (by dsimp only [St.put]; omega) ?_)
 refine yA rfl rfl ?_
 refine yN ?_
 dsimp only [St.put]
 refine K2 _ ?_
 refine yS fun _ K3 => ?_
 refine yS fun _ K4 => ?_
 refine yR ?_
 try dsimp only [St.put]
 refine aops_s rfl (s_load_agg' rfl rfl rfl) ?_
 try dsimp only [St.put]
 refine aops_e rfl (e_call_pure rfl rfl rfl (lawReady_pure t) ?_)
 refine aops_n rfl (n_not rfl rfl) ?_
 refine yM rfl rfl ?_
 refine aops_split (fun hs => ?_) (fun hs => ?_)
 ·skip
  refine yK rfl ?_
  refine yK rfl ?_
  refine yK rfl ?_
  refine aops_n rfl (n_pt rfl rfl (by constructor)) ?_
  refine yM rfl rfl ?_
  refine yK rfl ?_
  refine yK rfl ?_
  refine yK rfl ?_
  refine yK rfl ?_
  refine aops_n rfl (n_pt rfl rfl (by constructor)) ?_
  refine yM rfl rfl ?_
  refine yK rfl ?_
  refine yK rfl ?_
  refine aops_n rfl (n_pt rfl rfl (by constructor)) ?_
  refine yN ?_
  dsimp only [St.put]
  refine K4 _ ?_
  refine aw_cond rfl (fun _ => ?_) (fun h => by cases h)
  refine yS fun _ K5 => ?_
  refine yR ?_
  refine yM rfl rfl ?_
  refine yA rfl rfl ?_
  refine yN ?_
  dsimp only [St.put]
  refine K5 _ ?_
  refine aw_ret ?_
  refine ends_1 rfl (by constructor) zN zS ?_
  rfl
 have ht : textB t = true := by
  have : readyT t = true := by simpa using hs
  exact (readyT_true.1 this).2
 refine yM rfl rfl ?_
 refine aops_n rfl (n_len' rfl rfl (List.length_map _)) ?_
 refine aops_n rfl (n_geq rfl rfl rfl) ?_
 refine aops_n rfl (n_pf rfl rfl (by constructor)) ?_
 refine yM rfl rfl ?_
 refine aops_split (fun hs => ?_) (fun hs => ?_)
 ·skip
  refine yK rfl ?_
  refine yK rfl ?_
  refine yK rfl ?_
  refine yK rfl ?_
  refine aops_n rfl (n_pt rfl rfl (by constructor)) ?_
  refine yM rfl rfl ?_
  refine yK rfl ?_
  refine yK rfl ?_
  refine aops_n rfl (n_pt rfl rfl (by constructor)) ?_
  refine yN ?_
  dsimp only [St.put]
  refine K4 _ ?_
  refine aw_cond rfl (fun _ => ?_) (fun h => by cases h)
  refine yS fun _ K6 => ?_
  refine yR ?_
  refine yM rfl rfl ?_
  refine yA rfl rfl ?_
  refine yN ?_
  dsimp only [St.put]
  refine K6 _ ?_
  refine aw_ret ?_
  refine ends_1 rfl (by constructor) zN zS ?_
  rfl
 have hl5 : l.length < 5 := by
  have := of_decide_eq_false hs
  omega
 try dsimp only [St.put]
 refine aops_s rfl (s_load_agg' rfl rfl rfl) ?_
 refine yE rfl rfl rfl ?_
 try dsimp only [St.put]
 refine aops_e rfl (e_call_pure rfl rfl rfl (lawRight_pure t more ht) ?_)
 refine aops_n rfl (n_not rfl rfl) ?_
 refine aops_n rfl (n_pf rfl rfl (by constructor)) ?_
 refine yM rfl rfl ?_
 refine aops_split (fun hs => ?_) (fun hs => ?_)
 ·skip
  refine yK rfl ?_
  refine yK rfl ?_
  refine aops_n rfl (n_pt rfl rfl (by constructor)) ?_
  refine yN ?_
  dsimp only [St.put]
  refine K4 _ ?_
  refine aw_cond rfl (fun _ => ?_) (fun h => by cases h)
  refine yS fun _ K7 => ?_
  refine yR ?_
  refine yM rfl rfl ?_
  refine yA rfl rfl ?_
  refine yN ?_
  dsimp only [St.put]
  refine K7 _ ?_
  refine aw_ret ?_
  refine ends_1 rfl (by constructor) zN zS ?_
  rfl
 have hcm : copyB t more = true := by
  have : rightC t more = true := by simpa using hs
  exact (rightC_true.1 this).2
 refine yM rfl rfl ?_
 refine aops_n rfl (n_not rfl rfl) ?_
 refine aops_n rfl (n_pf rfl rfl (by constructor)) ?_
 refine yN ?_
 dsimp only [St.put]
 refine K4 _ ?_
 refine aw_cond rfl (fun h => by cases h) (fun _ => ?_)
 refine aw_skip ?_
 refine K3 _ ?_
 refine yS fun _ K8 => ?_
 refine yS fun _ K9 => ?_
 refine yR ?_
 refine yM rfl rfl ?_
 refine aops_n rfl (n_len' rfl rfl (List.length_map _)) ?_
 refine yM rfl rfl ?_
 refine yN ?_
 dsimp only [St.put]
 refine K9 _ ?_
 refine aw_block ?_
 refine aw_wipe 55 ?_
 simp only [firsts, getA, Nat.reduceAdd, List.getD_cons_zero, List.getD_cons_succ, List.getD_nil, natBeq, Nat.reduceBEq, cond_true, cond_false]
 refine aw_forget (G) zX ?_
 dsimp only
 refine aw_loopD (X := Nat) (fun k => k ≤ l.length ∧ (l.take k).all (copyB t) = true) (fun k => l.length - k) (fun k => [(11, .any), (54, .v (.int .i64 (k : Int)))]) (fun k G' => G') 0 rfl ?_ ?_ (fun _ _ h => h) ?_ ?_ ?_
 ·exact ⟨Nat.zero_le _, rfl⟩
 ·exact zF
 ·rintro k hI
  exact zL
 ·exact fun _ _ _ _ h => .inl h
 rintro k hI
 dsimp only at hI ⊢
 refine yS fun _ K10 => ?_
 refine yR ?_
 refine aops_n rfl (n_lss rfl rfl rfl) ?_
 refine yN ?_
 dsimp only [St.put]
 refine K10 _ ?_
 refine yS fun _ K11 => ?_
 refine aw_cond rfl (fun hc => ?_) (fun hc => ?_)
 ·replace hc := of_decide_eq_true hc
  obtain ⟨c, hck⟩ : ∃ c, l[k]? = some c := some_of_lt (by omega)
  refine aw_skip ?_
  refine K11 _ ?_
  refine yS fun _ K12 => ?_
  refine aw_block ?_
  refine yS fun _ K13 => ?_
  refine yR ?_
  refine aops_n rfl (n_indexAddr rfl rfl rfl rfl (map_get (by assumption)) (Enc.len _)) ?_
  refine yE rfl rfl rfl ?_
  try dsimp only [St.put]
  refine aops_e rfl (e_allocC rfl ?_)
  try dsimp only [St.put]
  refine aops_e rfl (e_store_all rfl rfl rfl zG rfl rfl (by rfl) ?_)
  refine yN ?_
  dsimp only [St.put]
  refine K13 _ ?_
  refine aw_commitD (i := 11) rfl zG (by first | exact List.cons_ne_nil _ _ | (simp; done) | (simp [putAt]; done)) ?_
  dsimp only
  refine yS fun _ K14 => ?_
  refine yR ?_
  try dsimp only [St.put]
  refine aops_s rfl (s_load_agg' rfl rfl rfl) ?_
  refine yE rfl rfl rfl ?_
  try dsimp only [St.put]
  refine aops_e rfl (e_call_pure rfl rfl rfl (lawRight_pure t c ht) ?_)
  refine aops_n rfl (n_not rfl rfl) ?_
  refine yN ?_
  dsimp only [St.put]
  refine K14 _ ?_
  refine aw_cond rfl (fun hc => ?_) (fun hc => ?_)
  ·try replace hc := of_decide_eq_true hc
   refine yS fun _ K15 => ?_
   refine yR ?_
   refine yM rfl rfl ?_
   refine yA rfl rfl ?_
   refine yN ?_
   dsimp only [St.put]
   refine K15 _ ?_
   refine aw_ret ?_
   refine ends_1 rfl (by constructor) zN zS ?_
   rfl
  have hcB : copyB t c = true := by
   have : rightC t c = true := by simpa using hc
   exact (rightC_true.1 this).2
  refine aw_skip ?_
  refine K12 _ ?_
  refine yR ?_
  refine aops_n rfl (n_add rfl rfl rfl (by omega)) ?_
  refine yM rfl rfl ?_
  refine yN ?_
  dsimp only [St.put]
  exact ⟨k + 1, by omega, ⟨by omega, by rw [all_take hck, hI.2, hcB]; rfl⟩, ⟨⟨rfl, rfl⟩, zF, zB, zN, zX⟩⟩
 replace hc := of_decide_eq_false hc
 have hall := hI.2
 rw [take_all (show l.length ≤ k by omega)] at hall
 have hD0 := lDoubt 0 t l ht (by omega) hall
 have hD1 := lDoubt 0 t (l ++ [more]) ht (by rw [List.length_append, List.length_singleton]; omega) (by rw [List.all_append, hall]; simp [hcm])
 have hD2 := lDoubt 0 t [more] ht (by simp) (by simp [hcm])
 have hD3 := (lDoubt 0 t [] ht (by simp) rfl).wk (al := [textC t, .list [] .nil]) ⟨Wk.refl _, Wk.tok, trivial⟩
 have hn0 := doubtL_len (allP t) l
 have hn1 := doubtL_len (allP t) (l ++ [more])
 have hn2 := doubtL_len (allP t) [more]
 have hN := allP_len ht
 have hpart := doubtL_part t l [more]
 have hgrow := doubtL_grows t l [more]
 have hmem : ∀ q, q ∈ doubtL (allP t) (l ++ [more]) → (decide (q ∈ doubtL (allP t) l) || decide (q ∈ doubtL (allP t) [more])) = true := fun q hq => by
  rw [Bool.or_eq_true, decide_eq_true_eq, decide_eq_true_eq]
  exact doubtL_more.1 hq
 rw [doubtL_nil] at hD3
 have hT : ∀ s : Nat, (l = [] ∨ s < l.length) → PureN 0 kndF Tryd.prog 17 [textC t, lst (turnTo l s l.length)] (.tup [lst (doubtL (allP t) l), .v (.int .i64 0)]) := fun s hs => by
  have hm := fun c => turnTo_mem (l := l) (s := s) hs (c := c)
  have := lDoubt 0 t (turnTo l s l.length) ht (Nat.le_trans (turnTo_len l s _) (by omega)) (by rw [List.all_eq_true]; exact fun c hc => List.all_eq_true.1 hall c ((hm c).1 hc))
  rwa [doubtL_same hm] at this
 obtain ⟨A, hA⟩ : ∃ A, doubtL (allP t) l = A := ⟨_, rfl⟩
 obtain ⟨B, hB⟩ : ∃ B, doubtL (allP t) (l ++ [more]) = B := ⟨_, rfl⟩
 obtain ⟨D, hD⟩ : ∃ D, doubtL (allP t) [more] = D := ⟨_, rfl⟩
 simp only [hA, hB, hD] at hD0 hD1 hD2 hn0 hn1 hn2 hpart hgrow hmem hT
 refine aw_exit ?_
 refine K8 _ ?_
 refine yS fun _ K16 => ?_
 refine yR ?_
 try dsimp only [St.put]
 refine aops_s rfl (s_load_agg' rfl rfl rfl) ?_
 refine yM rfl rfl ?_
 try dsimp only [St.put]
 refine aops_e rfl (e_call_n rfl rfl rfl hD0 zG (by dsimp only [St.put]; omega) ?_)
 refine yM rfl rfl ?_
 refine yX rfl rfl rfl rfl ?_
 refine yX rfl rfl rfl rfl ?_
 refine yA rfl rfl ?_
 refine yA rfl rfl ?_
 refine yN ?_
 dsimp only [St.put]
 refine K16 _ ?_
 refine aw_wipe 70 ?_
 simp only [firsts, getA, Nat.reduceAdd, List.getD_cons_zero, List.getD_cons_succ, List.getD_nil, natBeq, Nat.reduceBEq, cond_true, cond_false]
 refine aw_cutD (X := Unit) (fun _ => True) (fun _ => [(14, lst B), (15, .v (.int .i64 0))]) (fun _ G' => G') rfl ?_ (fun _ _ _ _ h => .inl h) ?_ ?_
 ·rintro _ hI
  exact zL
 ·refine aw_drawT [(0, none), (2, none), (4, none)] (fun _ => false) (fun i => [2].contains i) 10 [true, false, true, false, true, false, false, false, false, false, false, false, false] (by kernel_rfl) (by kernel_rfl) ?_
  try dsimp only [St.put]
  refine acan1_s rfl rfl rfl rfl (s_load_agg' rfl rfl rfl) ?_
  refine xM rfl rfl rfl rfl rfl ?_
  try dsimp only [St.put]
  refine acan1_s rfl rfl rfl rfl (s_load_agg' rfl rfl (Enc.len _)) ?_
  refine acan1_nil ?_
  refine aany_step [1, 5] (by kernel_rfl) (by simp) ?_
  refine aeach_cons ?_ ?_
  ·try dsimp only [St.put]
   refine aone_e rfl rfl rfl (e_buildSlice0_own rfl (by decide) ?_)
   refine aany_step [3, 5] (by kernel_rfl) (by simp) ?_
   refine aeach_cons ?_ ?_
   ·try dsimp only [St.put]
    refine aone_e rfl rfl rfl (e_append_own_any (xs := ([] : List CopyD)) l rfl rfl zG rfl rfl rfl rfl zA zA (fun v1 => ?_))
    refine aany_step [5] (by kernel_rfl) (by simp) ?_
    refine aeach_cons ?_ ?_
    ·try dsimp only [St.put]
     refine aone_e rfl rfl rfl (e_buildSlice rfl rfl rfl (by decide) (by decide) zR (by decide) ?_)
     refine aany_step [6] (by kernel_rfl) (by simp) ?_
     refine aeach_cons ?_ ?_
     ·try dsimp only [St.put]
      refine aone_e rfl rfl rfl (e_append_own_any (xs := ([] : List CopyD) ++ l) [more] rfl rfl zG rfl rfl rfl rfl zA zA (fun v2 => ?_))
      refine aany_step [7] (by kernel_rfl) (by simp) ?_
      refine aeach_cons ?_ ?_
      ·try dsimp only [St.put]
       refine aone_e rfl rfl rfl (e_commit_own 77 (([] : List CopyD) ++ l ++ [more]) rfl zG rfl rfl rfl (e_call_n rfl rfl rfl hD1 zG (by dsimp only [St.put]; omega) ?_))
       refine aany_quiet [(8, none), (9, none), (10, none), (11, none), (12, none)] (fun i => [8, 9, 10, 11, 12].contains i) 0 [true, true, true, true, true, true, true, true, true, true, true, true, true] (by kernel_rfl) ?_
       refine xM rfl rfl rfl rfl rfl ?_
       refine acan1_n rfl rfl rfl rfl (n_extract rfl rfl rfl) ?_
       refine acan1_n rfl rfl rfl rfl (n_extract rfl rfl rfl) ?_
       refine acan1_n rfl rfl rfl rfl (n_as rfl (by constructor)) ?_
       refine acan1_n rfl rfl rfl rfl (n_as rfl (by constructor)) ?_
       refine acan1_nil ?_
       dsimp only [St.put]
       refine aany_nil (by kernel_rfl) ?_
       exact ⟨(), trivial, ⟨⟨rfl, rfl⟩, zF, zB, zN, zX⟩⟩
      exact aeach_nil
     exact aeach_nil
    exact aeach_nil
   refine aeach_cons ?_ ?_
   ·try dsimp only [St.put]
    refine aone_e rfl rfl rfl (e_buildSlice rfl rfl rfl (by decide) (by decide) zR (by decide) ?_)
    refine aany_step [3] (by kernel_rfl) (by simp) ?_
    refine aeach_cons ?_ ?_
    ·try dsimp only [St.put]
     refine aone_e rfl rfl rfl (e_append_own_any (xs := ([] : List CopyD)) l rfl rfl zG rfl rfl rfl rfl zA zA (fun v1 => ?_))
     refine aany_step [6] (by kernel_rfl) (by simp) ?_
     refine aeach_cons ?_ ?_
     ·try dsimp only [St.put]
      refine aone_e rfl rfl rfl (e_append_own_any (xs := ([] : List CopyD) ++ l) [more] rfl rfl zG rfl rfl rfl rfl zA zA (fun v2 => ?_))
      refine aany_step [7] (by kernel_rfl) (by simp) ?_
      refine aeach_cons ?_ ?_
      ·try dsimp only [St.put]
       refine aone_e rfl rfl rfl (e_commit_own 77 (([] : List CopyD) ++ l ++ [more]) rfl zG rfl rfl rfl (e_call_n rfl rfl rfl hD1 zG (by dsimp only [St.put]; omega) ?_))
       refine aany_quiet [(8, none), (9, none), (10, none), (11, none), (12, none)] (fun i => [8, 9, 10, 11, 12].contains i) 0 [true, true, true, true, true, true, true, true, true, true, true, true, true] (by kernel_rfl) ?_
       refine xM rfl rfl rfl rfl rfl ?_
       refine acan1_n rfl rfl rfl rfl (n_extract rfl rfl rfl) ?_
       refine acan1_n rfl rfl rfl rfl (n_extract rfl rfl rfl) ?_
       refine acan1_n rfl rfl rfl rfl (n_as rfl (by constructor)) ?_
       refine acan1_n rfl rfl rfl rfl (n_as rfl (by constructor)) ?_
       refine acan1_nil ?_
       dsimp only [St.put]
       refine aany_nil (by kernel_rfl) ?_
       exact ⟨(), trivial, ⟨⟨rfl, rfl⟩, zF, zB, zN, zX⟩⟩
      exact aeach_nil
     exact aeach_nil
    exact aeach_nil
   exact aeach_nil
  refine aeach_cons ?_ ?_
  ·try dsimp only [St.put]
   refine aone_e rfl rfl rfl (e_buildSlice rfl rfl rfl (by decide) (by decide) zR (by decide) ?_)
   refine aany_step [1] (by kernel_rfl) (by simp) ?_
   refine aeach_cons ?_ ?_
   ·try dsimp only [St.put]
    refine aone_e rfl rfl rfl (e_buildSlice0_own rfl (by decide) ?_)
    refine aany_step [3] (by kernel_rfl) (by simp) ?_
    refine aeach_cons ?_ ?_
    ·try dsimp only [St.put]
     refine aone_e rfl rfl rfl (e_append_own_any (xs := ([] : List CopyD)) l rfl rfl zG rfl rfl rfl rfl zA zA (fun v1 => ?_))
     refine aany_step [6] (by kernel_rfl) (by simp) ?_
     refine aeach_cons ?_ ?_
     ·try dsimp only [St.put]
      refine aone_e rfl rfl rfl (e_append_own_any (xs := ([] : List CopyD) ++ l) [more] rfl rfl zG rfl rfl rfl rfl zA zA (fun v2 => ?_))
      refine aany_step [7] (by kernel_rfl) (by simp) ?_
      refine aeach_cons ?_ ?_
      ·try dsimp only [St.put]
       refine aone_e rfl rfl rfl (e_commit_own 77 (([] : List CopyD) ++ l ++ [more]) rfl zG rfl rfl rfl (e_call_n rfl rfl rfl hD1 zG (by dsimp only [St.put]; omega) ?_))
       refine aany_quiet [(8, none), (9, none), (10, none), (11, none), (12, none)] (fun i => [8, 9, 10, 11, 12].contains i) 0 [true, true, true, true, true, true, true, true, true, true, true, true, true] (by kernel_rfl) ?_
       refine xM rfl rfl rfl rfl rfl ?_
       refine acan1_n rfl rfl rfl rfl (n_extract rfl rfl rfl) ?_
       refine acan1_n rfl rfl rfl rfl (n_extract rfl rfl rfl) ?_
       refine acan1_n rfl rfl rfl rfl (n_as rfl (by constructor)) ?_
       refine acan1_n rfl rfl rfl rfl (n_as rfl (by constructor)) ?_
       refine acan1_nil ?_
       dsimp only [St.put]
       refine aany_nil (by kernel_rfl) ?_
       exact ⟨(), trivial, ⟨⟨rfl, rfl⟩, zF, zB, zN, zX⟩⟩
      exact aeach_nil
     exact aeach_nil
    exact aeach_nil
   exact aeach_nil
  exact aeach_nil
 rintro _ hI
 dsimp only at hI ⊢
 refine yS fun _ K18 => ?_
 refine yR ?_
 try dsimp only [St.put]
 refine aops_s rfl (s_load_agg' rfl rfl rfl) ?_
 refine yE rfl rfl rfl ?_
 try dsimp only [St.put]
 refine aops_e rfl (e_buildSlice rfl rfl rfl (by decide) (by decide) zR (by decide) ?_)
 try dsimp only [St.put]
 refine aops_e rfl (e_call_n rfl rfl rfl hD2 zG (by dsimp only [St.put]; omega) ?_)
 refine yM rfl rfl ?_
 refine yX rfl rfl rfl rfl ?_
 refine yX rfl rfl rfl rfl ?_
 refine yA rfl rfl ?_
 refine yA rfl rfl ?_
 refine yN ?_
 dsimp only [St.put]
 refine K18 _ ?_
 refine yS fun _ K19 => ?_
 refine yR ?_
 try dsimp only [St.put]
 refine aops_s rfl (s_load_agg' rfl rfl rfl) ?_
 try dsimp only [St.put]
 refine aops_e rfl (e_call_n rfl rfl rfl hD3 zG (by dsimp only [St.put]; omega) ?_)
 refine yM rfl rfl ?_
 refine yX rfl rfl rfl rfl ?_
 refine yX rfl rfl rfl rfl ?_
 refine yA rfl rfl ?_
 refine yA rfl rfl ?_
 refine yN ?_
 dsimp only [St.put]
 obtain ⟨s, hs, hsl⟩ : ∃ s : Nat, (l.length = 0 ∨ a % (l.length : Int) = (s : Int)) ∧ (l = [] ∨ s < l.length) := by
  by_cases h0 : l = []
  ·exact ⟨0, .inl (by rw [h0]; rfl), .inl h0⟩
  have hpos : 0 < l.length := List.length_pos_iff.2 h0
  have h2 := Int.emod_nonneg a (show ((l.length : Nat) : Int) ≠ 0 by omega)
  have h3 := Int.emod_lt_of_pos a (show (0 : Int) < ((l.length : Nat) : Int) by omega)
  exact ⟨(a % (l.length : Int)).toNat, .inr (by omega), .inr (by omega)⟩
 refine K19 _ ?_
 refine yS fun _ K20 => ?_
 refine yR ?_
 refine yA rfl rfl ?_
 refine yN ?_
 dsimp only [St.put]
 refine K20 _ ?_
 refine aw_adopt 20 27 2 rfl (by decide) ?_
 dsimp only [List.set_cons_zero, List.set_cons_succ]
 refine yS fun _ K21 => ?_
 refine yS fun _ K22 => ?_
 refine yR ?_
 refine yM rfl rfl ?_
 refine aops_n rfl (n_len' rfl rfl (List.length_map _)) ?_
 refine yM rfl rfl ?_
 refine yN ?_
 dsimp only [St.put]
 refine K22 _ ?_
 refine aw_block ?_
 refine aw_wipe 96 ?_
 simp only [firsts, getA, Nat.reduceAdd, List.getD_cons_zero, List.getD_cons_succ, List.getD_nil, natBeq, Nat.reduceBEq, cond_true, cond_false]
 refine aw_forget (setG G nx (.tip (turnTo l s 0).length 27 2)) zX ?_
 dsimp only
 refine aw_loopD (X := Nat) (fun k2 => k2 ≤ l.length) (fun k2 => l.length - k2) (fun k2 => [(20, .list ((turnTo l s k2).map cells) (.tip nx)), (21, .any), (95, .v (.int .i64 (k2 : Int)))]) (fun k2 G' => setG G nx (.tip (turnTo l s k2).length 27 2)) 0 rfl ?_ ?_ ?_ ?_ ?_ ?_
 ·exact Nat.zero_le _
 ·exact zF
 ·exact zX
 ·rintro k2 hI
  exact zL
 ·rintro k2 hI
  exact zH
 rintro k2 hJ
 dsimp only at hJ ⊢
 refine yS fun _ K23 => ?_
 refine yR ?_
 refine aops_n rfl (n_lss rfl rfl rfl) ?_
 refine yN ?_
 dsimp only [St.put]
 refine K23 _ ?_
 refine yS fun _ K24 => ?_
 refine aw_cond rfl (fun hc => ?_) (fun hc => ?_)
 ·replace hc := of_decide_eq_true hc
  have hs1 := hs.resolve_left (by omega)
  have hmlt : (k2 + s) % l.length < l.length := Nat.mod_lt _ (by omega)
  obtain ⟨c2, htc⟩ : ∃ c, l[(k2 + s) % l.length]? = some c := some_of_lt hmlt
  have hs2 : ((k2 : Int) + (s : Int)) % (l.length : Int) = (((k2 + s) % l.length : Nat) : Int) := by first | (norm_cast; done) | (push_cast; rfl) | simp
  have hsb : s < l.length := hsl.resolve_left fun e => by
   rw [e, List.length_nil] at hc
   omega
  have htl := turnTo_len l s k2
  refine aw_skip ?_
  refine K24 _ ?_
  refine yS fun _ K25 => ?_
  refine aw_block ?_
  refine yS fun _ K26 => ?_
  refine yR ?_
  refine yM rfl rfl ?_
  refine yA rfl rfl ?_
  refine yN ?_
  dsimp only [St.put]
  refine K26 _ ?_
  refine yR ?_
  refine yM rfl rfl ?_
  refine yM rfl rfl ?_
  refine yM rfl rfl ?_
  refine yM rfl rfl ?_
  refine aops_n rfl (n_conv rfl rfl rfl rfl (by omega)) ?_
  refine yM rfl rfl ?_
  refine aops_n rfl (n_len' rfl rfl (List.length_map _)) ?_
  refine aops_n rfl (n_remE hs1 rfl rfl rfl (by omega) (by omega)) ?_
  refine aops_n rfl (n_add rfl rfl rfl (by omega)) ?_
  refine yM rfl rfl ?_
  refine aops_n rfl (n_len' rfl rfl (List.length_map _)) ?_
  refine aops_n rfl (n_remE hs2 rfl rfl rfl (by omega) (by omega)) ?_
  refine aops_n rfl (n_indexAddr rfl rfl rfl rfl (map_get (by assumption)) (Enc.len _)) ?_
  refine yE rfl rfl rfl ?_
  try dsimp only [St.put]
  refine aops_e rfl (e_buildSlice rfl rfl rfl (by decide) (by decide) zR (by decide) ?_)
  try dsimp only [St.put]
  refine aops_e rfl (e_append ([c2]) rfl rfl zG (by first | rfl | simp) rfl rfl zA ?_ zA)
  refine yA rfl rfl ?_
  refine yN ?_
  dsimp only [St.put]
  refine K25 _ ?_
  refine yR ?_
  refine aops_n rfl (n_add rfl rfl rfl (by omega)) ?_
  refine yM rfl rfl ?_
  refine yN ?_
  dsimp only [St.put]
  rw [← turnTo_succ htc]
  exact ⟨k2 + 1, by omega, by omega, ⟨⟨rfl, rfl⟩, zF, zB, zN, zX⟩⟩
 replace hc := of_decide_eq_false hc
 obtain rfl : k2 = l.length := by omega
 refine aw_exit ?_
 refine K21 _ ?_
 refine yS fun _ K27 => ?_
 refine yR ?_
 try dsimp only [St.put]
 refine aops_s rfl (s_load_agg' rfl rfl rfl) ?_
 refine yM rfl rfl ?_
 try dsimp only [St.put]
 refine aops_e rfl (e_wk 117 (lst (turnTo l s l.length)) rfl Wk.tok (e_call_n rfl rfl rfl (hT s hsl) zG (by dsimp only [St.put]; omega) ?_))
 refine yM rfl rfl ?_
 refine yX rfl rfl rfl rfl ?_
 refine yX rfl rfl rfl rfl ?_
 refine yA rfl rfl ?_
 refine yA rfl rfl ?_
 refine yN ?_
 dsimp only [St.put]
 refine K27 _ ?_
 refine yS fun _ K28 => ?_
 refine yS fun _ K29 => ?_
 refine yR ?_
 refine yM rfl rfl ?_
 refine aops_n rfl (n_bool (c := false) (n_neq rfl rfl rfl) (not_dec_f rfl)) ?_
 refine yM rfl rfl ?_
 refine yM rfl rfl ?_
 refine aops_n rfl (n_bool (c := false) (n_neq rfl rfl rfl) (not_dec_f rfl)) ?_
 refine aops_n rfl (n_pf rfl rfl (by constructor)) ?_
 refine yM rfl rfl ?_
 refine yM rfl rfl ?_
 refine aops_n rfl (n_bool (c := false) (n_neq rfl rfl rfl) (not_dec_f rfl)) ?_
 refine aops_n rfl (n_pf rfl rfl (by constructor)) ?_
 refine yM rfl rfl ?_
 refine yM rfl rfl ?_
 refine aops_n rfl (n_bool (c := false) (n_neq rfl rfl rfl) (not_dec_f rfl)) ?_
 refine aops_n rfl (n_pf rfl rfl (by constructor)) ?_
 refine yM rfl rfl ?_
 refine yM rfl rfl ?_
 refine aops_n rfl (n_bool (c := false) (n_neq rfl rfl rfl) (not_dec_f rfl)) ?_
 refine aops_n rfl (n_pf rfl rfl (by constructor)) ?_
 refine yM rfl rfl ?_
 refine yM rfl rfl ?_
 refine aops_n rfl (n_len' rfl rfl (List.length_map _)) ?_
 refine aops_n rfl (n_bool (c := false) (n_neq rfl rfl rfl) (not_dec_f rfl)) ?_
 refine aops_n rfl (n_pf rfl rfl (by constructor)) ?_
 refine yM rfl rfl ?_
 refine yM rfl rfl ?_
 refine yM rfl rfl ?_
 try dsimp only [St.put]
 refine aops_e rfl (e_call_pure rfl rfl rfl (lSameP A) ?_)
 refine aops_n rfl (n_not rfl rfl) ?_
 refine aops_n rfl (n_pf rfl rfl (by constructor)) ?_
 refine yN ?_
 dsimp only [St.put]
 refine K29 _ ?_
 refine aw_cond rfl (fun h => by cases h) (fun _ => ?_)
 refine aw_skip ?_
 refine K28 _ ?_
 refine yS fun _ K30 => ?_
 refine yR ?_
 refine yA rfl rfl ?_
 refine yN ?_
 dsimp only [St.put]
 refine K30 _ ?_
 refine yS fun _ K31 => ?_
 refine yS fun _ K32 => ?_
 refine yR ?_
 refine yM rfl rfl ?_
 refine aops_n rfl (n_len' rfl rfl (List.length_map _)) ?_
 refine yM rfl rfl ?_
 refine yN ?_
 dsimp only [St.put]
 refine K32 _ ?_
 refine aw_block ?_
 refine aw_wipe 153 ?_
 simp only [firsts, getA, Nat.reduceAdd, List.getD_cons_zero, List.getD_cons_succ, List.getD_nil, natBeq, Nat.reduceBEq, cond_true, cond_false]
 refine aw_forget (G) zX ?_
 dsimp only
 refine aw_loopD (X := Nat) (fun k3 => k3 ≤ B.length) (fun k3 => B.length - k3) (fun k3 => [(24, .v (.int .i64 ((inN (B.take k3) A : Nat) : Int))), (26, .any), (27, .any), (29, .any), (31, .any), (152, .v (.int .i64 (k3 : Int)))]) (fun k3 G' => G') 0 rfl ?_ ?_ (fun _ _ h => h) ?_ ?_ ?_
 ·exact Nat.zero_le _
 ·exact zF
 ·rintro k3 hI
  exact zL
 ·exact fun _ _ _ _ h => .inl h
 rintro k3 hL
 dsimp only at hL ⊢
 refine yS fun _ K33 => ?_
 refine yR ?_
 refine aops_n rfl (n_lss rfl rfl rfl) ?_
 refine yN ?_
 dsimp only [St.put]
 refine K33 _ ?_
 refine yS fun _ K34 => ?_
 refine aw_cond rfl (fun hc => ?_) (fun hc => ?_)
 ·replace hc := of_decide_eq_true hc
  obtain ⟨p, hq⟩ : ∃ q, B[k3]? = some q := some_of_lt (by omega)
  have hin1 := inN_le (B.take k3) A
  rw [List.length_take] at hin1
  refine aw_skip ?_
  refine K34 _ ?_
  refine yS fun _ K35 => ?_
  refine aw_block ?_
  refine yS fun _ K36 => ?_
  refine yR ?_
  refine aops_n rfl (n_indexAddr rfl rfl rfl rfl (map_get (by assumption)) (Enc.len _)) ?_
  refine yE rfl rfl rfl ?_
  try dsimp only [St.put]
  refine aops_e rfl (e_allocC rfl ?_)
  try dsimp only [St.put]
  refine aops_e rfl (e_store_all rfl rfl rfl zG rfl rfl (by rfl) ?_)
  refine yN ?_
  dsimp only [St.put]
  refine K36 _ ?_
  refine aw_commitD (i := 26) rfl zG (by first | exact List.cons_ne_nil _ _ | (simp; done) | (simp [putAt]; done)) ?_
  dsimp only
  refine yS fun _ K37 => ?_
  refine yR ?_
  refine yA rfl rfl ?_
  refine yN ?_
  dsimp only [St.put]
  refine K37 _ ?_
  refine yS fun _ K38 => ?_
  refine yS fun _ K39 => ?_
  refine yR ?_
  refine yM rfl rfl ?_
  refine aops_n rfl (n_len' rfl rfl (List.length_map _)) ?_
  refine yM rfl rfl ?_
  refine yN ?_
  dsimp only [St.put]
  refine K39 _ ?_
  refine aw_block ?_
  refine aw_wipe 159 ?_
  simp only [firsts, getA, Nat.reduceAdd, List.getD_cons_zero, List.getD_cons_succ, List.getD_nil, natBeq, Nat.reduceBEq, cond_true, cond_false]
  refine aw_forget (G) zX ?_
  dsimp only
  refine aw_loopD (X := Nat × Bool) (fun y => y.1 ≤ A.length ∧ decide (p ∈ A.take y.1) = y.2) (fun y => A.length - y.1) (fun y => [(27, .v (.bool y.2)), (29, .any), (158, .v (.int .i64 (y.1 : Int)))]) (fun y G' => G') (0, false) rfl ?_ ?_ (fun _ _ h => h) ?_ ?_ ?_
  ·exact ⟨Nat.zero_le _, rfl⟩
  ·exact zF
  ·rintro ⟨m, b2⟩ hI
   exact zL
  ·exact fun _ _ _ _ h => .inl h
  rintro ⟨m, b2⟩ hM
  dsimp only at hM ⊢
  refine yS fun _ K40 => ?_
  refine yR ?_
  refine aops_n rfl (n_lss rfl rfl rfl) ?_
  refine yN ?_
  dsimp only [St.put]
  refine K40 _ ?_
  refine yS fun _ K41 => ?_
  refine aw_cond rfl (fun hc => ?_) (fun hc => ?_)
  ·replace hc := of_decide_eq_true hc
   obtain ⟨d, hd⟩ : ∃ d, A[m]? = some d := some_of_lt (by omega)
   refine aw_skip ?_
   refine K41 _ ?_
   refine yS fun _ K42 => ?_
   refine aw_block ?_
   refine yS fun _ K43 => ?_
   refine yR ?_
   refine aops_n rfl (n_indexAddr rfl rfl rfl rfl (map_get (by assumption)) (Enc.len _)) ?_
   refine yE rfl rfl rfl ?_
   try dsimp only [St.put]
   refine aops_e rfl (e_allocC rfl ?_)
   try dsimp only [St.put]
   refine aops_e rfl (e_store_all rfl rfl rfl zG rfl rfl (by rfl) ?_)
   refine yN ?_
   dsimp only [St.put]
   refine K43 _ ?_
   refine aw_commitD (i := 29) rfl zG (by first | exact List.cons_ne_nil _ _ | (simp; done) | (simp [putAt]; done)) ?_
   dsimp only
   refine yR ?_
   refine yM rfl rfl ?_
   refine yM rfl rfl ?_
   refine aops_split (fun hs => ?_) (fun hs => ?_)
   ·have s2 := hs
    refine yK rfl ?_
    refine yK rfl ?_
    refine yK rfl ?_
    refine aops_n rfl (n_pt rfl rfl (by constructor)) ?_
    refine yA rfl rfl ?_
    refine yN ?_
    dsimp only [St.put]
    refine K42 _ ?_
    refine yR ?_
    refine aops_n rfl (n_add rfl rfl rfl (by omega)) ?_
    refine yM rfl rfl ?_
    refine yN ?_
    dsimp only [St.put]
    have hst := mem_step (p := p) hd
    rw [hM.2] at hst
    first
    | (have e1 : b2 = true := s2
       rw [e1, Bool.true_or] at hst
       exact ⟨(m + 1, true), by (dsimp only; omega), ⟨by (dsimp only; omega), hst⟩, ⟨⟨rfl, rfl⟩, zF, zB, zN, zX⟩⟩)
    | (have e1 : b2 = false := s2
       rw [e1, Bool.false_or, show decide (d = p) = decide (p = d) by rw [decide_eq_decide]; exact eq_comm] at hst
       exact ⟨(m + 1, decide (p = d)), by (dsimp only; omega), ⟨by (dsimp only; omega), hst⟩, ⟨⟨rfl, rfl⟩, zF, zB, zN, zX⟩⟩)
   have s2 := hs
   refine yE rfl rfl rfl ?_
   refine yE rfl rfl rfl ?_
   refine aops_n rfl (n_agg_eql (x := p) (y := d) rfl rfl rfl) ?_
   refine aops_n rfl (n_pf rfl rfl (by constructor)) ?_
   refine yA rfl rfl ?_
   refine yN ?_
   dsimp only [St.put]
   refine K42 _ ?_
   refine yR ?_
   refine aops_n rfl (n_add rfl rfl rfl (by omega)) ?_
   refine yM rfl rfl ?_
   refine yN ?_
   dsimp only [St.put]
   have hst := mem_step (p := p) hd
   rw [hM.2] at hst
   first
   | (have e1 : b2 = true := s2
      rw [e1, Bool.true_or] at hst
      exact ⟨(m + 1, true), by (dsimp only; omega), ⟨by (dsimp only; omega), hst⟩, ⟨⟨rfl, rfl⟩, zF, zB, zN, zX⟩⟩)
   | (have e1 : b2 = false := s2
      rw [e1, Bool.false_or, show decide (d = p) = decide (p = d) by rw [decide_eq_decide]; exact eq_comm] at hst
      exact ⟨(m + 1, decide (p = d)), by (dsimp only; omega), ⟨by (dsimp only; omega), hst⟩, ⟨⟨rfl, rfl⟩, zF, zB, zN, zX⟩⟩)
  replace hc := of_decide_eq_false hc
  have hb2 := hM.2
  rw [take_all (show A.length ≤ m by omega)] at hb2
  refine aw_exit ?_
  refine K38 _ ?_
  refine yS fun _ K44 => ?_
  refine yS fun _ K45 => ?_
  refine yR ?_
  refine yM rfl rfl ?_
  refine yN ?_
  dsimp only [St.put]
  refine K45 _ ?_
  refine aw_cond rfl (fun hc => ?_) (fun hc => ?_)
  ·have hin : decide (p ∈ A) = true := hb2.trans hc
   refine yR ?_
   refine yM rfl rfl ?_
   refine aops_n rfl (n_add rfl rfl rfl (by omega)) ?_
   refine yA rfl rfl ?_
   refine yN ?_
   dsimp only [St.put]
   refine K44 _ ?_
   refine yS fun _ K46 => ?_
   refine yS fun _ K47 => ?_
   refine yR ?_
   refine yM rfl rfl ?_
   refine aops_n rfl (n_len' rfl rfl (List.length_map _)) ?_
   refine yM rfl rfl ?_
   refine yN ?_
   dsimp only [St.put]
   refine K47 _ ?_
   refine aw_block ?_
   refine aw_wipe 175 ?_
   simp only [firsts, getA, Nat.reduceAdd, List.getD_cons_zero, List.getD_cons_succ, List.getD_nil, natBeq, Nat.reduceBEq, cond_true, cond_false]
   refine aw_forget (G) zX ?_
   dsimp only
   refine aw_loopD (X := Nat × Bool) (fun y => y.1 ≤ D.length ∧ (decide (p ∈ A) || decide (p ∈ D.take y.1)) = y.2) (fun y => D.length - y.1) (fun y => [(27, .v (.bool y.2)), (31, .any), (174, .v (.int .i64 (y.1 : Int)))]) (fun y G' => G') (0, b2) rfl ?_ ?_ (fun _ _ h => h) ?_ ?_ ?_
   ·exact ⟨Nat.zero_le _, by rw [hb2]; simp⟩
   ·exact zF
   ·rintro ⟨m2, b3⟩ hI
    exact zL
   ·exact fun _ _ _ _ h => .inl h
   rintro ⟨m2, b3⟩ hM2
   dsimp only at hM2 ⊢
   refine yS fun _ K48 => ?_
   refine yR ?_
   refine aops_n rfl (n_lss rfl rfl rfl) ?_
   refine yN ?_
   dsimp only [St.put]
   refine K48 _ ?_
   refine yS fun _ K49 => ?_
   refine aw_cond rfl (fun hc => ?_) (fun hc => ?_)
   ·replace hc := of_decide_eq_true hc
    obtain ⟨d2, hd2⟩ : ∃ d, D[m2]? = some d := some_of_lt (by omega)
    refine aw_skip ?_
    refine K49 _ ?_
    refine yS fun _ K50 => ?_
    refine aw_block ?_
    refine yS fun _ K51 => ?_
    refine yR ?_
    refine aops_n rfl (n_indexAddr rfl rfl rfl rfl (map_get (by assumption)) (Enc.len _)) ?_
    refine yE rfl rfl rfl ?_
    try dsimp only [St.put]
    refine aops_e rfl (e_allocC rfl ?_)
    try dsimp only [St.put]
    refine aops_e rfl (e_store_all rfl rfl rfl zG rfl rfl (by rfl) ?_)
    refine yN ?_
    dsimp only [St.put]
    refine K51 _ ?_
    refine aw_commitD (i := 31) rfl zG (by first | exact List.cons_ne_nil _ _ | (simp; done) | (simp [putAt]; done)) ?_
    dsimp only
    refine yR ?_
    refine yM rfl rfl ?_
    refine yM rfl rfl ?_
    refine aops_split (fun hs => ?_) (fun hs => ?_)
    ·have s3 := hs
     refine yK rfl ?_
     refine yK rfl ?_
     refine yK rfl ?_
     refine aops_n rfl (n_pt rfl rfl (by constructor)) ?_
     refine yA rfl rfl ?_
     refine yN ?_
     dsimp only [St.put]
     refine K50 _ ?_
     refine yR ?_
     refine aops_n rfl (n_add rfl rfl rfl (by omega)) ?_
     refine yM rfl rfl ?_
     refine yN ?_
     dsimp only [St.put]
     have hst := mem_step (p := p) hd2
     first
     | (have e1 : b3 = true := s3
        have h7 := hM2.2
        rw [e1] at h7
        refine ⟨(m2 + 1, true), by (dsimp only; omega), ⟨by (dsimp only; omega), ?_⟩, ⟨⟨rfl, rfl⟩, zF, zB, zN, zX⟩⟩
        rw [hst, ← Bool.or_assoc, h7]; rfl)
     | (have e1 : b3 = false := s3
        have h7 := hM2.2
        rw [e1] at h7
        refine ⟨(m2 + 1, decide (p = d2)), by (dsimp only; omega), ⟨by (dsimp only; omega), ?_⟩, ⟨⟨rfl, rfl⟩, zF, zB, zN, zX⟩⟩
        rw [hst, ← Bool.or_assoc, h7, Bool.false_or, decide_eq_decide]
        exact eq_comm)
    have s3 := hs
    refine yE rfl rfl rfl ?_
    refine yE rfl rfl rfl ?_
    refine aops_n rfl (n_agg_eql (x := p) (y := d2) rfl rfl rfl) ?_
    refine aops_n rfl (n_pf rfl rfl (by constructor)) ?_
    refine yA rfl rfl ?_
    refine yN ?_
    dsimp only [St.put]
    refine K50 _ ?_
    refine yR ?_
    refine aops_n rfl (n_add rfl rfl rfl (by omega)) ?_
    refine yM rfl rfl ?_
    refine yN ?_
    dsimp only [St.put]
    have hst := mem_step (p := p) hd2
    first
    | (have e1 : b3 = true := s3
       have h7 := hM2.2
       rw [e1] at h7
       refine ⟨(m2 + 1, true), by (dsimp only; omega), ⟨by (dsimp only; omega), ?_⟩, ⟨⟨rfl, rfl⟩, zF, zB, zN, zX⟩⟩
       rw [hst, ← Bool.or_assoc, h7]; rfl)
    | (have e1 : b3 = false := s3
       have h7 := hM2.2
       rw [e1] at h7
       refine ⟨(m2 + 1, decide (p = d2)), by (dsimp only; omega), ⟨by (dsimp only; omega), ?_⟩, ⟨⟨rfl, rfl⟩, zF, zB, zN, zX⟩⟩
       rw [hst, ← Bool.or_assoc, h7, Bool.false_or, decide_eq_decide]
       exact eq_comm)
   replace hc := of_decide_eq_false hc
   have hb3 := hM2.2
   rw [take_all (show D.length ≤ m2 by omega), hmem p (mem_of_get hq)] at hb3
   subst hb3
   refine aw_exit ?_
   refine K46 _ ?_
   refine yS fun _ K52 => ?_
   refine yR ?_
   refine yM rfl rfl ?_
   refine aops_n rfl (n_not rfl rfl) ?_
   refine yN ?_
   dsimp only [St.put]
   refine K52 _ ?_
   refine aw_cond rfl (fun h => by cases h) (fun _ => ?_)
   refine aw_skip ?_
   refine K35 _ ?_
   refine yR ?_
   refine aops_n rfl (n_add rfl rfl rfl (by omega)) ?_
   refine yM rfl rfl ?_
   refine yN ?_
   dsimp only [St.put]
   have hst := inN_step (a := A) hq
   first
   | (have q : decide (p ∈ A) = true := hin
      rw [q, cond_true] at hst
      rw [show ((inN (B.take k3) A : Nat) : Int) + 1 = ((inN (B.take (k3 + 1)) A : Nat) : Int) by rw [hst]; rfl]
      exact ⟨k3 + 1, by omega, by omega, ⟨⟨rfl, rfl⟩, zF, zB, zN, zX⟩⟩)
   | (have q : decide (p ∈ A) = false := hin
      rw [show inN (B.take k3) A = inN (B.take (k3 + 1)) A by rw [hst, q]; rfl]
      exact ⟨k3 + 1, by omega, by omega, ⟨⟨rfl, rfl⟩, zF, zB, zN, zX⟩⟩)
  have hin : decide (p ∈ A) = false := hb2.trans hc
  refine aw_skip ?_
  refine K44 _ ?_
  refine yS fun _ K53 => ?_
  refine yS fun _ K54 => ?_
  refine yR ?_
  refine yM rfl rfl ?_
  refine aops_n rfl (n_len' rfl rfl (List.length_map _)) ?_
  refine yM rfl rfl ?_
  refine yN ?_
  dsimp only [St.put]
  refine K54 _ ?_
  refine aw_block ?_
  refine aw_wipe 175 ?_
  simp only [firsts, getA, Nat.reduceAdd, List.getD_cons_zero, List.getD_cons_succ, List.getD_nil, natBeq, Nat.reduceBEq, cond_true, cond_false]
  refine aw_forget (G) zX ?_
  dsimp only
  refine aw_loopD (X := Nat × Bool) (fun y => y.1 ≤ D.length ∧ (decide (p ∈ A) || decide (p ∈ D.take y.1)) = y.2) (fun y => D.length - y.1) (fun y => [(27, .v (.bool y.2)), (31, .any), (174, .v (.int .i64 (y.1 : Int)))]) (fun y G' => G') (0, b2) rfl ?_ ?_ (fun _ _ h => h) ?_ ?_ ?_
  ·exact ⟨Nat.zero_le _, by rw [hb2]; simp⟩
  ·exact zF
  ·rintro ⟨m2, b3⟩ hI
   exact zL
  ·exact fun _ _ _ _ h => .inl h
  rintro ⟨m2, b3⟩ hM2
  dsimp only at hM2 ⊢
  refine yS fun _ K55 => ?_
  refine yR ?_
  refine aops_n rfl (n_lss rfl rfl rfl) ?_
  refine yN ?_
  dsimp only [St.put]
  refine K55 _ ?_
  refine yS fun _ K56 => ?_
  refine aw_cond rfl (fun hc => ?_) (fun hc => ?_)
  ·replace hc := of_decide_eq_true hc
   obtain ⟨d2, hd2⟩ : ∃ d, D[m2]? = some d := some_of_lt (by omega)
   refine aw_skip ?_
   refine K56 _ ?_
   refine yS fun _ K57 => ?_
   refine aw_block ?_
   refine yS fun _ K58 => ?_
   refine yR ?_
   refine aops_n rfl (n_indexAddr rfl rfl rfl rfl (map_get (by assumption)) (Enc.len _)) ?_
   refine yE rfl rfl rfl ?_
   try dsimp only [St.put]
   refine aops_e rfl (e_allocC rfl ?_)
   try dsimp only [St.put]
   refine aops_e rfl (e_store_all rfl rfl rfl zG rfl rfl (by rfl) ?_)
   refine yN ?_
   dsimp only [St.put]
   refine K58 _ ?_
   refine aw_commitD (i := 31) rfl zG (by first | exact List.cons_ne_nil _ _ | (simp; done) | (simp [putAt]; done)) ?_
   dsimp only
   refine yR ?_
   refine yM rfl rfl ?_
   refine yM rfl rfl ?_
   refine aops_split (fun hs => ?_) (fun hs => ?_)
   ·have s3 := hs
    refine yK rfl ?_
    refine yK rfl ?_
    refine yK rfl ?_
    refine aops_n rfl (n_pt rfl rfl (by constructor)) ?_
    refine yA rfl rfl ?_
    refine yN ?_
    dsimp only [St.put]
    refine K57 _ ?_
    refine yR ?_
    refine aops_n rfl (n_add rfl rfl rfl (by omega)) ?_
    refine yM rfl rfl ?_
    refine yN ?_
    dsimp only [St.put]
    have hst := mem_step (p := p) hd2
    first
    | (have e1 : b3 = true := s3
       have h7 := hM2.2
       rw [e1] at h7
       refine ⟨(m2 + 1, true), by (dsimp only; omega), ⟨by (dsimp only; omega), ?_⟩, ⟨⟨rfl, rfl⟩, zF, zB, zN, zX⟩⟩
       rw [hst, ← Bool.or_assoc, h7]; rfl)
    | (have e1 : b3 = false := s3
       have h7 := hM2.2
       rw [e1] at h7
       refine ⟨(m2 + 1, decide (p = d2)), by (dsimp only; omega), ⟨by (dsimp only; omega), ?_⟩, ⟨⟨rfl, rfl⟩, zF, zB, zN, zX⟩⟩
       rw [hst, ← Bool.or_assoc, h7, Bool.false_or, decide_eq_decide]
       exact eq_comm)
   have s3 := hs
   refine yE rfl rfl rfl ?_
   refine yE rfl rfl rfl ?_
   refine aops_n rfl (n_agg_eql (x := p) (y := d2) rfl rfl rfl) ?_
   refine aops_n rfl (n_pf rfl rfl (by constructor)) ?_
   refine yA rfl rfl ?_
   refine yN ?_
   dsimp only [St.put]
   refine K57 _ ?_
   refine yR ?_
   refine aops_n rfl (n_add rfl rfl rfl (by omega)) ?_
   refine yM rfl rfl ?_
   refine yN ?_
   dsimp only [St.put]
   have hst := mem_step (p := p) hd2
   first
   | (have e1 : b3 = true := s3
      have h7 := hM2.2
      rw [e1] at h7
      refine ⟨(m2 + 1, true), by (dsimp only; omega), ⟨by (dsimp only; omega), ?_⟩, ⟨⟨rfl, rfl⟩, zF, zB, zN, zX⟩⟩
      rw [hst, ← Bool.or_assoc, h7]; rfl)
   | (have e1 : b3 = false := s3
      have h7 := hM2.2
      rw [e1] at h7
      refine ⟨(m2 + 1, decide (p = d2)), by (dsimp only; omega), ⟨by (dsimp only; omega), ?_⟩, ⟨⟨rfl, rfl⟩, zF, zB, zN, zX⟩⟩
      rw [hst, ← Bool.or_assoc, h7, Bool.false_or, decide_eq_decide]
      exact eq_comm)
  replace hc := of_decide_eq_false hc
  have hb3 := hM2.2
  rw [take_all (show D.length ≤ m2 by omega), hmem p (mem_of_get hq)] at hb3
  subst hb3
  refine aw_exit ?_
  refine K53 _ ?_
  refine yS fun _ K59 => ?_
  refine yR ?_
  refine yM rfl rfl ?_
  refine aops_n rfl (n_not rfl rfl) ?_
  refine yN ?_
  dsimp only [St.put]
  refine K59 _ ?_
  refine aw_cond rfl (fun h => by cases h) (fun _ => ?_)
  refine aw_skip ?_
  refine K35 _ ?_
  refine yR ?_
  refine aops_n rfl (n_add rfl rfl rfl (by omega)) ?_
  refine yM rfl rfl ?_
  refine yN ?_
  dsimp only [St.put]
  have hst := inN_step (a := A) hq
  first
  | (have q : decide (p ∈ A) = true := hin
     rw [q, cond_true] at hst
     rw [show ((inN (B.take k3) A : Nat) : Int) + 1 = ((inN (B.take (k3 + 1)) A : Nat) : Int) by rw [hst]; rfl]
     exact ⟨k3 + 1, by omega, by omega, ⟨⟨rfl, rfl⟩, zF, zB, zN, zX⟩⟩)
  | (have q : decide (p ∈ A) = false := hin
     rw [show inN (B.take k3) A = inN (B.take (k3 + 1)) A by rw [hst, q]; rfl]
     exact ⟨k3 + 1, by omega, by omega, ⟨⟨rfl, rfl⟩, zF, zB, zN, zX⟩⟩)
 replace hc := of_decide_eq_false hc
 have hcnt : inN (B.take k3) A = A.length := by
  rw [take_all (show B.length ≤ k3 by omega)]
  unfold inN
  rw [hpart]
 refine aw_exit ?_
 refine K31 _ ?_
 refine yS fun _ K60 => ?_
 refine yR ?_
 refine yM rfl rfl ?_
 refine yM rfl rfl ?_
 refine yM rfl rfl ?_
 refine yM rfl rfl ?_
 refine aops_n rfl (n_len' rfl rfl (List.length_map _)) ?_
 refine aops_n rfl (n_bool (c := true) (n_eql rfl rfl rfl) (decide_eq_true (by omega))) ?_
 refine aops_n rfl (n_pt rfl rfl (by constructor)) ?_
 refine yM rfl rfl ?_
 refine yM rfl rfl ?_
 refine aops_n rfl (n_len' rfl rfl (List.length_map _)) ?_
 refine yM rfl rfl ?_
 refine aops_n rfl (n_len' rfl rfl (List.length_map _)) ?_
 refine aops_n rfl (n_bool (c := true) (n_geq rfl rfl rfl) (decide_eq_true (by omega))) ?_
 refine aops_n rfl (n_pt rfl rfl (by constructor)) ?_
 refine yA rfl rfl ?_
 refine yN ?_
 dsimp only [St.put]
 refine K60 _ ?_
 refine aw_ret ?_
 refine ends_1 rfl (by constructor) zN zS ?_
 rfl
end Go.Proofs.YtejhjijbgceklaaDoor

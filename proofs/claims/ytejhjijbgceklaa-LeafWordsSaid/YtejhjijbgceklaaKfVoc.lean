/-
 Contracts of the library's functions that gather what an iterator gives, and sort it; the words of a text.
-/
import Derived.Test.YtejhjijbgceklaaKeEach
import Derived.Test.YtejhjijbgceklaaAbSortS
import Derived.Test.YtejhjijbgceklaaLay
namespace Go.AB
open Go Go.RowKit
open Go.AB.Enc (cells)
open Go.PB (Chap TextD PlaceD ReadingD CopyD WayD)
def cmpS (a b : ByteArray) : Int := if sLess a b = true then -1 else if sLess b a = true then 1 else 0
theorem cmpS_lt {a b : ByteArray} : cmpS a b < 0 ↔ ltS a b := by
 unfold cmpS ltS
 split
 ·simp [*]
 ·split <;> simp [*]
theorem cmpS_ord : Ord3 (fun _ => True) cmpS where
 irrefl x _ h := ltS_irr (cmpS_lt.1 h)
 trans x y z _ _ _ h k := cmpS_lt.2 (ltS_trans (cmpS_lt.1 h) (cmpS_lt.1 k))
 ntrans x y z _ _ _ h k e := by
  rw [cmpS_lt] at h k e
  by_cases h2 : ltS y x
  ·by_cases h3 : ltS z y
   ·exact ltS_irr (ltS_trans (ltS_trans h3 h2) e)
   ·have := ltS_total k h3
    subst this
    exact h e
  ·have := ltS_total h h2
   subst this
   exact k e
theorem bl_gt (x y : List UInt8) : (!(Op.bytesLess x y || x == y)) = Op.bytesLess y x := by
 cases h : Op.bytesLess x y
 ·cases k : Op.bytesLess y x
  ·rw [bl_total h k]; simp
  ·have : x ≠ y := fun e => by subst e; rw [h] at k; cases k
   simp [this]
 ·cases k : Op.bytesLess y x
  ·rfl
  ·have := bl_trans h k
   rw [bl_irrefl] at this; cases this
theorem delG_sm {G : Nat → Option GObj} {n k : Nat} {o : GObj} (h : delG G n k = some o) : k ≠ n ∧ G k = some o := by
 unfold delG at h
 split at h
 ·cases h
 ·rename_i e; exact ⟨e, h⟩
theorem n_strgt {P : Program} {o : Oper} {st : St} {xt yt : TypeId} {x y : Operand} {m n : ByteArray} (ho : o.op = .binOp .gtr xt x y yt) (hx : evC st x = .v (.string m)) (hy : evC st y = .v (.string n)) : NStep P o st (.v (.bool (sLess n m))) :=
 n_str ho hx hy rfl fun w => by simp only [Op.stringOp]; rw [bl_gt]; rfl
/-- a row of texts of the frame's own -/
def vocG (kt : TypeId) (G : Nat → Option GObj) (nx : Nat) (L : List ByteArray) : Nat → Option GObj := setG (setG G nx (.box L.length [.own (nx + 1) L.length L.length])) (nx + 1) (.arr L.length 0 kt 1 L.length (flatC L))
theorem vocG_arr {kt : TypeId} {G : Nat → Option GObj} {nx : Nat} {L : List ByteArray} : vocG kt G nx L (nx + 1) = some (.arr L.length 0 kt 1 L.length (flatC L)) := setG_same _ _ _
theorem vocG_box {kt : TypeId} {G : Nat → Option GObj} {nx : Nat} {L : List ByteArray} : vocG kt G nx L nx = some (.box L.length [.own (nx + 1) L.length L.length]) := (setG_other (by omega)).trans (setG_same _ _ _)
theorem vocG_old {kt : TypeId} {G : Nat → Option GObj} {nx n : Nat} {L : List ByteArray} (h : n < nx) : vocG kt G nx L n = G n := (setG_other (by omega)).trans (setG_other (by omega))
theorem vocG_cases {kt : TypeId} {G : Nat → Option GObj} {nx n : Nat} {L : List ByteArray} {o : GObj} (h : vocG kt G nx L n = some o) : (n = nx + 1 ∧ o = .arr L.length 0 kt 1 L.length (flatC L)) ∨ (n = nx ∧ o = .box L.length [.own (nx + 1) L.length L.length]) ∨ (n ≠ nx + 1 ∧ n ≠ nx ∧ G n = some o) := by
 unfold vocG at h
 by_cases h1 : n = nx + 1
 ·rw [h1, setG_same] at h; cases h; exact .inl ⟨h1, rfl⟩
 ·rw [setG_other h1] at h
  by_cases h2 : n = nx
  ·rw [h2, setG_same] at h; cases h; exact .inr (.inl ⟨h2, rfl⟩)
  ·rw [setG_other h2] at h; exact .inr (.inr ⟨h1, h2, h⟩)
theorem vocG_sub {kt : TypeId} {G G' : Nat → Option GObj} {nx n : Nat} {L : List ByteArray} {o : GObj} (hG : ∀ n o, G n = some o → G' n = some o) (h : vocG kt G nx L n = some o) : vocG kt G' nx L n = some o := by
 rcases vocG_cases h with ⟨h1, rfl⟩ | ⟨h1, rfl⟩ | ⟨h1, h2, h3⟩
 ·subst h1; exact vocG_arr
 ·subst h1; exact vocG_box
 ·exact (setG_other h1).trans ((setG_other h2).trans (hG _ _ h3))
theorem vocG_new {kt : TypeId} {G : Nat → Option GObj} {nx M : Nat} {L L0 : List ByteArray} {st : St} (hst : st.G = vocG kt G nx L0) : NewOk st (vocG kt (delG G M) nx L) (nx + 1 + 1) := fun n o h => by
 rcases vocG_cases h with ⟨h1, rfl⟩ | ⟨h1, rfl⟩ | ⟨h1, h2, h3⟩
 ·exact .inr ⟨by omega, flatC_low _, fun _ => rfl⟩
 ·exact .inr ⟨by omega, low_cons (.own (by omega)) low_nil, fun _ => rfl⟩
 ·rw [hst]
  exact .inl ((setG_other h1).trans ((setG_other h2).trans (delG_sm h3).2))
end Go.AB
namespace Go.Proofs.Ytejhjijbgceklaa
set_option maxRecDepth 10000
open Go.RowKit Go.AB
open Go.AB.Enc (cells)
open Go.PB (Chap TextD PlaceD ReadingD CopyD WayD)
instance : Ty Try.prog (srt_string_ren.t 24) false 1 := inferInstanceAs (Ty Try.prog 9 false 1)
theorem isNaNS_pure (x : ByteArray) : Pure Try.prog 65 [.v (.string x)] (.v (.bool false)) := by
 refine pure_of_body Try.func65 rfl (fun m => .v) fun G nx => ?_
 simp only [Try.ntmps65, List.length_cons, List.length_nil, Nat.reduceAdd, Nat.reduceSub]
 refine aw_lt fun hlt => ?_
 dsimp only at hlt
 refine aw_seq_k fun K1 hK1 => ?_
 refine aw_region ?_
 refine aops_n rfl (n_as rfl (by constructor)) ?_
 refine aops_nil ?_
 dsimp only [St.put]
 refine hK1 _ ?_
 refine aw_seq_k fun K2 hK2 => ?_
 refine aw_region ?_
 refine aops_n rfl (n_mv rfl (by constructor)) ?_
 refine aops_n rfl (n_mv rfl (by constructor)) ?_
 refine aops_n rfl (n_strne rfl rfl rfl) ?_
 refine aops_n rfl (n_as rfl (by constructor)) ?_
 refine aops_nil ?_
 dsimp only [St.put]
 refine hK2 _ ?_
 refine aw_ret ?_
 refine ends_1 rfl (by constructor) zN zS ?_
 exact vb (by simp)
theorem cmpCompareS_pure (x y : ByteArray) : Pure Try.prog 50 [.v (.string x), .v (.string y)] (.v (.int .i64 (cmpS x y))) := by
 refine pure_of_body Try.func50 rfl (fun m => .v) fun G nx => ?_
 simp only [Try.ntmps50, List.length_cons, List.length_nil, Nat.reduceAdd, Nat.reduceSub]
 refine aw_lt fun hlt => ?_
 dsimp only at hlt
 refine aw_seq_k fun K1 hK1 => ?_
 refine aw_region ?_
 refine aops_n rfl (n_as rfl (by constructor)) ?_
 refine aops_nil ?_
 dsimp only [St.put]
 refine hK1 _ ?_
 refine aw_seq_k fun K2 hK2 => ?_
 refine aw_region ?_
 refine aops_n rfl (n_mv rfl (by constructor)) ?_
 try dsimp only [St.put]
 refine aops_e rfl (e_call_pure rfl rfl rfl (isNaNS_pure _) ?_)
 refine aops_n rfl (n_as rfl (by constructor)) ?_
 refine aops_nil ?_
 dsimp only [St.put]
 refine hK2 _ ?_
 refine aw_seq_k fun K3 hK3 => ?_
 refine aw_region ?_
 refine aops_n rfl (n_mv rfl (by constructor)) ?_
 try dsimp only [St.put]
 refine aops_e rfl (e_call_pure rfl rfl rfl (isNaNS_pure _) ?_)
 refine aops_n rfl (n_as rfl (by constructor)) ?_
 refine aops_nil ?_
 dsimp only [St.put]
 refine hK3 _ ?_
 refine aw_seq_k fun K4 hK4 => ?_
 refine aw_seq_k fun K5 hK5 => ?_
 refine aw_region ?_
 refine aops_n rfl (n_bool (c := false) (n_mv rfl (by constructor)) (by rfl)) ?_
 refine aops_nil ?_
 dsimp only [St.put]
 refine hK5 _ ?_
 refine aw_cond rfl (fun h => by cases h) (fun _ => ?_)
 refine aw_skip ?_
 refine hK4 _ ?_
 refine aw_seq_k fun K6 hK6 => ?_
 refine aw_seq_k fun K7 hK7 => ?_
 refine aw_region ?_
 refine aops_n rfl (n_bool (c := false) (n_mv rfl (by constructor)) (by rfl)) ?_
 refine aops_nil ?_
 dsimp only [St.put]
 refine hK7 _ ?_
 refine aw_cond rfl (fun h => by cases h) (fun _ => ?_)
 refine aw_skip ?_
 refine hK6 _ ?_
 refine aw_seq_k fun K8 hK8 => ?_
 refine aw_seq_k fun K9 hK9 => ?_
 refine aw_region ?_
 refine aops_n rfl (n_mv rfl (by constructor)) ?_
 refine aops_n rfl (n_mv rfl (by constructor)) ?_
 refine aops_n rfl (n_strlt rfl rfl rfl) ?_
 refine aops_nil ?_
 dsimp only [St.put]
 refine hK9 _ ?_
 refine aw_cond rfl (fun hc => ?_) (fun hc => ?_)
 ·have h1 := hc
  refine aw_seq_k fun K10 hK10 => ?_
  refine aw_region ?_
  refine aops_n rfl (n_as rfl (by constructor)) ?_
  refine aops_nil ?_
  dsimp only [St.put]
  refine hK10 _ ?_
  refine aw_ret ?_
  refine ends_1 rfl (by constructor) zN zS ?_
  exact vi (by simp [cmpS, h1])
 ·have h1 := hc
  refine aw_skip ?_
  refine hK8 _ ?_
  refine aw_seq_k fun K11 hK11 => ?_
  refine aw_seq_k fun K12 hK12 => ?_
  refine aw_region ?_
  refine aops_n rfl (n_mv rfl (by constructor)) ?_
  refine aops_n rfl (n_mv rfl (by constructor)) ?_
  refine aops_n rfl (n_strgt rfl rfl rfl) ?_
  refine aops_nil ?_
  dsimp only [St.put]
  refine hK12 _ ?_
  refine aw_cond rfl (fun hc => ?_) (fun hc => ?_)
  ·try replace hc := of_decide_eq_true hc
   refine aw_seq_k fun K13 hK13 => ?_
   refine aw_region ?_
   refine aops_n rfl (n_as rfl (by constructor)) ?_
   refine aops_nil ?_
   dsimp only [St.put]
   refine hK13 _ ?_
   refine aw_ret ?_
   refine ends_1 rfl (by constructor) zN zS ?_
   exact vi (by simp [cmpS, hc, h1])
  ·try replace hc := of_decide_eq_false hc
   refine aw_skip ?_
   refine hK11 _ ?_
   refine aw_seq_k fun K14 hK14 => ?_
   refine aw_region ?_
   refine aops_n rfl (n_as rfl (by constructor)) ?_
   refine aops_nil ?_
   dsimp only [St.put]
   refine hK14 _ ?_
   refine aw_ret ?_
   refine ends_1 rfl (by constructor) zN zS ?_
   exact vi (by simp [cmpS, hc, h1])
theorem appendSeq_pc (t : TextD) (ht : textB t = true) (M wv : Nat) (G : Nat → Option GObj) (nx : Nat) (hG : G M = some (gmap Try.prog 9 wv (ixF (allP t)))) : PC Try.prog 73 [.list [] .nil, (.fn (.func 48) [.elem [.elem [lst t]], .elem [.map M]])] G nx fun r' G' nx' => r' = .own (nx + 1) (keysW (allP t)).length (keysW (allP t)).length ∧ G' = (setG (delG G M) (nx + 1) (.arr (keysW (allP t)).length 0 9 1 (keysW (allP t)).length (flatC (keysW (allP t))))) ∧ nx' = nx + 1 + 1 := by
 refine pc_named_of_body ((setG (delG G M) (nx + 1) (.arr (keysW (allP t)).length 0 9 1 (keysW (allP t)).length (flatC (keysW (allP t)))))) (nx + 1 + 1) Try.func73 rfl (.own (show nx + 1 < nx + 1 + 1 by omega)) zN (fun hlt => (by (repeat' (refine lowG_set ?_ (by (try dsimp only); omega) ?_)); all_goals (first | exact lowG_base zS | (repeat' (first | exact trivial | refine ⟨?_, ?_⟩ | exact .v | exact .any | refine .elem ?_ | exact lst_low _ _ | exact cells_low _ _ | exact val_low _ _ | exact data_low _ (by (try dsimp only); omega) | exact .box (by (try dsimp only); omega) | exact nil_low | exact low_nil | exact flatC_low _ | exact lowG_base fun k o h => (delG_sm h).2 | refine set_low ?_ ?_ | exact .arr (by (try dsimp only); omega) | exact .own (by (try dsimp only); omega) | exact .map (by (try dsimp only); omega) | exact flatC_low _ | refine low_cons ?_ ?_ | exact lst_low _ _))))) ?_
 simp only [Try.ntmps73, List.length_cons, List.length_nil, Nat.reduceAdd, Nat.reduceSub]
 refine aw_lt fun hlt => ?_
 dsimp only at hlt
 have hM : M < nx := hlt M _ hG
 have hkl := keysW_len (allP t)
 have hpl := allP_len ht
 refine aw_seq_k fun K1 hK1 => ?_
 refine aw_region ?_
 try dsimp only [St.put]
 refine aops_e rfl (e_box_named rfl rfl ?_)
 refine aops_n rfl (n_as rfl (by constructor)) ?_
 refine aops_nil ?_
 dsimp only [St.put]
 refine hK1 _ ?_
 refine aw_adopt_own_box nx 0 _ _ 9 1 zG rfl (by decide) ?_
 dsimp only [List.set_cons_zero, List.set_cons_succ]
 refine aw_seq_k fun K2 hK2 => ?_
 refine aw_seq_k fun K3 hK3 => ?_
 refine aw_region ?_
 refine aops_n rfl (n_mv rfl (by constructor)) ?_
 refine aops_nil ?_
 dsimp only [St.put]
 refine hK3 _ ?_
 refine aw_block ?_
 refine aw_wipe 7 ?_
 simp only [firsts, getA, Nat.reduceAdd, List.getD_cons_zero, List.getD_cons_succ, List.getD_nil, natBeq, Nat.reduceBEq, cond_true, cond_false]
 refine aw_forget (vocG 9 G nx []) zX ?_
 dsimp only
 refine aw_rangeFuncM (M) (fun s => [.v (.string s)]) [7] (fun zs => vocG 9 (delG G M) nx zs) (fun zs => nx + 1 + 1) (fun _ _ (_ : Unit) => False) (fun _ => fun _ => none) (fun _ => 0) (fun x => [(7, .v (.string x))]) (each_iter t ht M wv) ((vocG_old hM).trans hG) ((vocG_old hM).trans (by simp [delG])) rfl rfl (fun _ => rfl) (fun x hx E W => by
 obtain ⟨p, hp, rfl⟩ := List.mem_map.1 (keysW_mem.1 hx)
 exact Rs.cons (.v (okV_str.2 (by have := allP_word ht hp; omega))) Rs.nil) ?_ ?_ (rfl) ?_ (fun _ _ _ h => h.elim) ?_ (fun _ _ _ h => h.elim) (fun lr pre x hx hlen hpre => ?_) (fun _ _ _ _ h => h.elim) ?_
 ·intro pre x
  rfl
 ·exact fun n o h => vocG_sub (fun n o h => (delG_sm h).2) h
 ·exact fun zs => Nat.le_refl _
 ·exact fun zs => vocG_new rfl
 ·unfold vocG
  replace hlt : ∀ n o, delG G M n = some o → n < nx := fun n o h => hlt n o (delG_sm h).2
  refine aw_region ?_
  refine aops_n rfl (n_as rfl (by constructor)) ?_
  refine aops_nil ?_
  dsimp only [St.put]
  show AW _ _ _ _ _
  refine aw_block ?_
  refine aw_region ?_
  try dsimp only [St.put]
  refine aops_s rfl (s_load_box rfl rfl zG trivial (by first | rfl | assumption)) ?_
  refine aops_n rfl (n_mv rfl (by constructor)) ?_
  try dsimp only [St.put]
  refine aops_e rfl (e_buildSlice rfl rfl rfl (by decide) (by decide) zR (by decide) ?_)
  try dsimp only [St.put]
  refine aops_e rfl (e_append_own x rfl rfl zG rfl rfl rfl rfl zA ?_ zA)
  try dsimp only [St.put]
  refine aops_e rfl (e_store_all rfl rfl rfl zG rfl rfl (by rfl) ?_)
  refine aops_nil ?_
  dsimp only [St.put]
  unfold ABlock RPostN
  dsimp only
  simp only [List.length_append, List.length_singleton]
  exact ⟨zX, Nat.le_refl _⟩
 ·dsimp only
  unfold vocG
  refine hK2 _ ?_
  refine aw_seq_k fun K4 hK4 => ?_
  refine aw_region ?_
  try dsimp only [St.put]
  refine aops_s rfl (s_load_box rfl rfl zG trivial (by first | rfl | assumption)) ?_
  refine aops_n rfl (n_as rfl (by constructor)) ?_
  refine aops_nil ?_
  dsimp only [St.put]
  refine hK4 _ ?_
  refine aw_ret ?_
  refine ends_1 rfl (by constructor) zN (fun n o h => by
 by_cases e : n = nx + 1
 ·subst e
  exact (setG_same _ _ _).trans ((setG_same _ _ _).symm.trans h)
 ·rw [setG_other e] at h
  exact (setG_other e).trans ((setG_other (by have := hlt n o (delG_sm h).2; omega)).trans h)) ?_
  rfl
theorem collect_pc (t : TextD) (ht : textB t = true) (M wv : Nat) (G : Nat → Option GObj) (nx : Nat) (hG : G M = some (gmap Try.prog 9 wv (ixF (allP t)))) : PC Try.prog 71 [(.fn (.func 48) [.elem [.elem [lst t]], .elem [.map M]])] G nx fun r' G' nx' => r' = .own (nx + 1) (keysW (allP t)).length (keysW (allP t)).length ∧ G' = (setG (delG G M) (nx + 1) (.arr (keysW (allP t)).length 0 9 1 (keysW (allP t)).length (flatC (keysW (allP t))))) ∧ nx' = nx + 1 + 1 := by
 refine pc_named_of_body ((setG (delG G M) (nx + 1) (.arr (keysW (allP t)).length 0 9 1 (keysW (allP t)).length (flatC (keysW (allP t)))))) (nx + 1 + 1) Try.func71 rfl (.own (show nx + 1 < nx + 1 + 1 by omega)) zN (fun hlt => (by (repeat' (refine lowG_set ?_ (by (try dsimp only); omega) ?_)); all_goals (first | exact lowG_base zS | (repeat' (first | exact trivial | refine ⟨?_, ?_⟩ | exact .v | exact .any | refine .elem ?_ | exact lst_low _ _ | exact cells_low _ _ | exact val_low _ _ | exact data_low _ (by (try dsimp only); omega) | exact .box (by (try dsimp only); omega) | exact nil_low | exact low_nil | exact flatC_low _ | exact lowG_base fun k o h => (delG_sm h).2 | refine set_low ?_ ?_ | exact .arr (by (try dsimp only); omega) | exact .own (by (try dsimp only); omega) | exact .map (by (try dsimp only); omega) | exact flatC_low _ | refine low_cons ?_ ?_ | exact lst_low _ _))))) ?_
 simp only [Try.ntmps71, List.length_cons, List.length_nil, Nat.reduceAdd, Nat.reduceSub]
 refine aw_lt fun hlt => ?_
 dsimp only at hlt
 have hM : M < nx := hlt M _ hG
 refine aw_seq_k fun K1 hK1 => ?_
 refine aw_region ?_
 refine aops_n rfl (n_as rfl (by constructor)) ?_
 refine aops_nil ?_
 dsimp only [St.put]
 refine hK1 _ ?_
 refine aw_seq_k fun K2 hK2 => ?_
 refine aw_region ?_
 refine aops_n rfl (n_mv rfl (by constructor)) ?_
 try dsimp only [St.put]
 refine aops_e rfl (e_call_named rfl rfl rfl (appendSeq_pc t ht M wv _ _ hG) ?_)
 refine aops_n rfl (n_as rfl (by constructor)) ?_
 refine aops_nil ?_
 dsimp only [St.put]
 refine hK2 _ ?_
 refine aw_ret ?_
 refine ends_1 rfl (by constructor) zN (fun n o h => h) ?_
 rfl
theorem sorted_keys {zs : List PW} {ys : List ByteArray} (h1 : ys.Perm (keysW zs)) (h2 : ys.Pairwise fun a b => ¬ cmpS b a < 0) : ys = vocL (zs.map (·.2)) := by
 have h3 : ys.Nodup := h1.nodup_iff.2 (keysW_nodup zs)
 refine voc_unique ?_ (vocL_sorted _) fun x => ?_
 ·refine (h2.and h3).imp fun {a b} h => ?_
  have h4 : ¬ ltS b a := fun e => h.1 (cmpS_lt.2 e)
  by_cases h5 : ltS a b
  ·exact h5
  ·exact absurd (ltS_total h5 h4) h.2
 ·rw [vocL_mem, h1.mem_iff, keysW_mem]
theorem sortedFunc_pc (t : TextD) (ht : textB t = true) (M wv : Nat) (G : Nat → Option GObj) (nx : Nat) (hG : G M = some (gmap Try.prog 9 wv (ixF (allP t)))) : PC Try.prog 64 [(.fn (.func 48) [.elem [.elem [lst t]], .elem [.map M]]), .fn (.func 50) []] G nx fun r' G' nx' => r' = lst (vocL ((allP t).map (·.2))) ∧ G' = delG G M ∧ nx' = nx + 1 + 1 := by
 refine pc_named_of_body (delG G M) (nx + 1 + 1) Try.func64 rfl (lst_low _ _) zN (fun hlt => (by (repeat' (refine lowG_set ?_ (by (try dsimp only); omega) ?_)); all_goals (first | exact lowG_base zS | (repeat' (first | exact trivial | refine ⟨?_, ?_⟩ | exact .v | exact .any | refine .elem ?_ | exact lst_low _ _ | exact cells_low _ _ | exact val_low _ _ | exact data_low _ (by (try dsimp only); omega) | exact .box (by (try dsimp only); omega) | exact nil_low | exact low_nil | exact lowG_base fun k o h => (delG_sm h).2 | refine set_low ?_ ?_ | exact .arr (by (try dsimp only); omega) | exact .own (by (try dsimp only); omega) | exact .map (by (try dsimp only); omega) | exact flatC_low _ | refine low_cons ?_ ?_ | exact lst_low _ _))))) ?_
 simp only [Try.ntmps64, List.length_cons, List.length_nil, Nat.reduceAdd, Nat.reduceSub]
 refine aw_lt fun hlt => ?_
 dsimp only at hlt
 have hM : M < nx := hlt M _ hG
 have hkl := keysW_len (allP t)
 have hpl := allP_len ht
 refine aw_seq_k fun K1 hK1 => ?_
 refine aw_region ?_
 refine aops_n rfl (n_as rfl (by constructor)) ?_
 refine aops_nil ?_
 dsimp only [St.put]
 refine hK1 _ ?_
 refine aw_seq_k fun K2 hK2 => ?_
 refine aw_region ?_
 refine aops_n rfl (n_mv rfl (by constructor)) ?_
 try dsimp only [St.put]
 refine aops_e rfl (e_call_named rfl rfl rfl (collect_pc t ht M wv _ _ hG) ?_)
 refine aops_n rfl (n_as rfl (by constructor)) ?_
 refine aops_nil ?_
 dsimp only [St.put]
 refine hK2 _ ?_
 refine aw_seq_k fun K3 hK3 => ?_
 refine aw_region ?_
 refine aops_n rfl (n_mv rfl (by constructor)) ?_
 refine aops_n rfl (n_mv rfl (by constructor)) ?_
 try dsimp only [St.put]
 refine aops_e rfl (e_sortS srt_string cmpS rfl rfl rfl rfl (setG_same _ _ _) rfl rfl rfl (by omega) cmpCompareS_pure cmpS_ord (fun ys hperm hsort => ?_))
 obtain rfl := sorted_keys hperm hsort
 refine aops_nil ?_
 dsimp only [St.put]
 refine hK3 _ ?_
 refine aw_commit_own 5 (vocL ((allP t).map (·.2))) rfl (setG_same _ _ _) rfl rfl (by have := hperm.length_eq; omega) ?_
 refine aw_seq_k fun K4 hK4 => ?_
 refine aw_region ?_
 refine aops_n rfl (n_mv rfl (by constructor)) ?_
 refine aops_n rfl (n_as rfl (by constructor)) ?_
 refine aops_nil ?_
 dsimp only [St.put]
 refine hK4 _ ?_
 refine aw_ret ?_
 refine ends_1 rfl (by constructor) zN (fun n o h => by
 have h1 := hlt n o (delG_sm h).2
 show delG _ _ _ = _
 unfold delG
 rw [if_neg (by omega)]
 exact (setG_other (by omega)).trans ((setG_other (by omega)).trans h)) ?_
 rfl
theorem sorted_pc (t : TextD) (ht : textB t = true) (M wv : Nat) (G : Nat → Option GObj) (nx : Nat) (hG : G M = some (gmap Try.prog 9 wv (ixF (allP t)))) : PC Try.prog 49 [(.fn (.func 48) [.elem [.elem [lst t]], .elem [.map M]]), .fn (.func 50) []] G nx fun r' G' nx' => r' = lst (vocL ((allP t).map (·.2))) ∧ G' = delG G M ∧ nx' = nx + 1 + 1 := by
 refine pc_named_of_body (delG G M) (nx + 1 + 1) Try.func49 rfl (lst_low _ _) zN (fun hlt => (by (repeat' (refine lowG_set ?_ (by (try dsimp only); omega) ?_)); all_goals (first | exact lowG_base zS | (repeat' (first | exact trivial | refine ⟨?_, ?_⟩ | exact .v | exact .any | refine .elem ?_ | exact lst_low _ _ | exact cells_low _ _ | exact val_low _ _ | exact data_low _ (by (try dsimp only); omega) | exact .box (by (try dsimp only); omega) | exact nil_low | exact low_nil | exact lowG_base fun k o h => (delG_sm h).2 | refine set_low ?_ ?_ | exact .arr (by (try dsimp only); omega) | exact .own (by (try dsimp only); omega) | exact .map (by (try dsimp only); omega) | exact flatC_low _ | refine low_cons ?_ ?_ | exact lst_low _ _))))) ?_
 simp only [Try.ntmps49, List.length_cons, List.length_nil, Nat.reduceAdd, Nat.reduceSub]
 refine aw_lt fun hlt => ?_
 dsimp only at hlt
 have hM : M < nx := hlt M _ hG
 refine aw_seq_k fun K1 hK1 => ?_
 refine aw_region ?_
 refine aops_n rfl (n_as rfl (by constructor)) ?_
 refine aops_nil ?_
 dsimp only [St.put]
 refine hK1 _ ?_
 refine aw_seq_k fun K2 hK2 => ?_
 refine aw_region ?_
 refine aops_n rfl (n_mv rfl (by constructor)) ?_
 refine aops_n rfl (n_mv rfl (by constructor)) ?_
 try dsimp only [St.put]
 refine aops_e rfl (e_call_named rfl rfl rfl (sortedFunc_pc t ht M wv _ _ hG) ?_)
 refine aops_n rfl (n_as rfl (by constructor)) ?_
 refine aops_nil ?_
 dsimp only [St.put]
 refine hK2 _ ?_
 refine aw_ret ?_
 refine ends_1 rfl (by constructor) zN (fun n o h => h) ?_
 rfl
theorem leafVoc_no (t : TextD) (htx : textB t = false) : Pure Try.prog 25 [textC t] (.tup [lst (vocV t), .v (.int .i64 (textEr t))]) := by
 refine pure_of_body Try.func25 rfl (fun m => .tup (low_cons (lst_low _ _) (low_cons .v low_nil))) fun G nx => ?_
 simp only [Try.ntmps25, List.length_cons, List.length_nil, Nat.reduceAdd, Nat.reduceSub]
 refine aw_lt fun hlt => ?_
 dsimp only at hlt
 refine aw_seq_k fun K1 hK1 => ?_
 refine aw_region ?_
 try dsimp only [St.put]
 refine aops_e rfl (e_box rfl rfl (by simp) ?_)
 refine aops_n rfl (n_as rfl (by constructor)) ?_
 refine aops_n rfl (n_as rfl (by constructor)) ?_
 refine aops_nil ?_
 dsimp only [St.put]
 refine hK1 _ ?_
 refine aw_seq_k fun K2 hK2 => ?_
 refine aw_region ?_
 try dsimp only [St.put]
 refine aops_s rfl (s_load_agg' rfl rfl rfl) ?_
 try dsimp only [St.put]
 refine aops_e rfl (e_call_pure rfl rfl rfl (leafOpen_no t htx) ?_)
 refine aops_n rfl (n_mv rfl (by constructor)) ?_
 refine aops_n rfl (n_extract rfl rfl rfl) ?_
 refine aops_n rfl (n_extract rfl rfl rfl) ?_
 try dsimp only [St.put]
 refine aops_e rfl (e_allocC rfl ?_)
 try dsimp only [St.put]
 refine aops_e rfl (e_store_all rfl rfl rfl zG rfl rfl (by rfl) ?_)
 refine aops_n rfl (n_as rfl (by constructor)) ?_
 refine aops_nil ?_
 dsimp only [St.put]
 refine hK2 _ ?_
 refine aw_seq_k fun K3 hK3 => ?_
 refine aw_seq_k fun K4 hK4 => ?_
 refine aw_region ?_
 refine aops_n rfl (n_mv rfl (by constructor)) ?_
 refine aops_n rfl (n_bool (c := true) (n_neq rfl rfl rfl) (not_dec_t (by decide))) ?_
 refine aops_nil ?_
 dsimp only [St.put]
 refine hK4 _ ?_
 refine aw_cond rfl (fun _ => ?_) (fun h => by cases h)
 refine aw_seq_k fun K5 hK5 => ?_
 refine aw_region ?_
 refine aops_n rfl (n_mv rfl (by constructor)) ?_
 refine aops_n rfl (n_as rfl (by constructor)) ?_
 refine aops_n rfl (n_as rfl (by constructor)) ?_
 refine aops_nil ?_
 dsimp only [St.put]
 refine hK5 _ ?_
 refine aw_ret ?_
 refine ends_v2 rfl (rv_tmp (by constructor)) (rv_tmp (by constructor)) zN zS ?_ ?_
 ·rw [show vocV t = [] by simp [vocV, htx]]
  exact zW
 ·exact Wk.of_eq (vi (by simp [textEr, htx]))
theorem leafVoc_yes (t : TextD) (htx : textB t = true) : Pure Try.prog 25 [textC t] (.tup [lst (vocV t), .v (.int .i64 (textEr t))]) := by
 refine pure_of_body Try.func25 rfl (fun m => .tup (low_cons (lst_low _ _) (low_cons .v low_nil))) fun G nx => ?_
 simp only [Try.ntmps25, List.length_cons, List.length_nil, Nat.reduceAdd, Nat.reduceSub]
 refine aw_lt fun hlt => ?_
 dsimp only at hlt
 refine aw_seq_k fun K1 hK1 => ?_
 refine aw_region ?_
 try dsimp only [St.put]
 refine aops_e rfl (e_box rfl rfl (by simp) ?_)
 refine aops_n rfl (n_as rfl (by constructor)) ?_
 refine aops_n rfl (n_as rfl (by constructor)) ?_
 refine aops_nil ?_
 dsimp only [St.put]
 refine hK1 _ ?_
 refine aw_seq_k fun K2 hK2 => ?_
 refine aw_region ?_
 try dsimp only [St.put]
 refine aops_s rfl (s_load_agg' rfl rfl rfl) ?_
 try dsimp only [St.put]
 refine aops_e rfl (e_call_pure rfl rfl rfl (leafOpen_yes t htx) ?_)
 refine aops_n rfl (n_mv rfl (by constructor)) ?_
 refine aops_n rfl (n_extract rfl rfl rfl) ?_
 refine aops_n rfl (n_extract rfl rfl rfl) ?_
 try dsimp only [St.put]
 refine aops_e rfl (e_allocC rfl ?_)
 try dsimp only [St.put]
 refine aops_e rfl (e_store_all rfl rfl rfl zG rfl rfl (by rfl) ?_)
 refine aops_n rfl (n_as rfl (by constructor)) ?_
 refine aops_nil ?_
 dsimp only [St.put]
 refine hK2 _ ?_
 refine aw_commitD (i := 4) rfl zG (by first | exact List.cons_ne_nil _ _ | (simp; done) | (simp [putAt]; done)) ?_
 dsimp only
 refine aw_seq_k fun K3 hK3 => ?_
 refine aw_seq_k fun K4 hK4 => ?_
 refine aw_region ?_
 refine aops_n rfl (n_mv rfl (by constructor)) ?_
 refine aops_n rfl (n_bool (c := false) (n_neq rfl rfl rfl) (not_dec_f rfl)) ?_
 refine aops_nil ?_
 dsimp only [St.put]
 refine hK4 _ ?_
 refine aw_cond rfl (fun h => by cases h) (fun _ => ?_)
 refine aw_skip ?_
 refine hK3 _ ?_
 refine aw_seq_k fun K5 hK5 => ?_
 refine aw_region ?_
 try dsimp only [St.put]
 refine aops_s rfl (s_load rfl rfl) ?_
 try dsimp only [St.put]
 refine aops_e rfl (e_call_named rfl rfl rfl (leafIndex_pc t htx _ _) ?_)
 try dsimp only [St.put]
 refine aops_e rfl (e_allocC rfl ?_)
 try dsimp only [St.put]
 refine aops_e rfl (e_store_all rfl rfl rfl zG rfl rfl (by rfl) ?_)
 refine aops_nil ?_
 dsimp only [St.put]
 refine hK5 _ ?_
 refine aw_commitD (i := 6) rfl zG (by first | exact List.cons_ne_nil _ _ | (simp; done) | (simp [putAt]; done)) ?_
 dsimp only
 refine aw_seq_k fun K6 hK6 => ?_
 refine aw_region ?_
 refine aops_n rfl (n_makeFunc rfl rfl) ?_
 refine aops_n rfl (n_as rfl (by constructor)) ?_
 refine aops_nil ?_
 dsimp only [St.put]
 refine hK6 _ ?_
 refine aw_seq_k fun K7 hK7 => ?_
 refine aw_region ?_
 refine aops_n rfl (n_mv rfl (by constructor)) ?_
 try dsimp only [St.put]
 refine aops_e rfl (e_call_named rfl rfl rfl (sorted_pc t htx _ _ _ _ zG) ?_)
 refine aops_n rfl (n_as rfl (by constructor)) ?_
 refine aops_n rfl (n_as rfl (by constructor)) ?_
 refine aops_nil ?_
 dsimp only [St.put]
 refine hK7 _ ?_
 refine aw_ret ?_
 refine ends_v2 rfl (rv_tmp (by constructor)) (rv_tmp (by constructor)) zN zS ?_ ?_
 ·rw [show vocV t = vocL ((allP t).map (·.2)) by simp [vocV, htx, wordsT]]
  exact zW
 ·exact Wk.of_eq (vi (by simp [textEr, htx]))
theorem leafVocabulary_pure (t : TextD) : Pure Try.prog 25 [textC t] (.tup [lst (vocV t), .v (.int .i64 (textEr t))]) := by
 cases h : textB t
 ·exact leafVoc_no t h
 ·exact leafVoc_yes t h
end Go.Proofs.Ytejhjijbgceklaa

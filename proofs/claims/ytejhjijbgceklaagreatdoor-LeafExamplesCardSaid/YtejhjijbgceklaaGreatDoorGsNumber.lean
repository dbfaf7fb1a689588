/-
 Contracts of the program's functions of texts: the number of a place.
-/
import Derived.Test.YtejhjijbgceklaaGreatDoorItAll
import Derived.Test.YtejhjijbgceklaaGreatDoorGrpF
import Derived.Test.YtejhjijbgceklaaGreatDoorEcRefer
namespace Go.AB
open Go Go.RowKit
open Go.AB.Enc (cells)
open Go.PB (Chap TextD PlaceD ReadingD CopyD WayD)
/-- What cannot be is no state. -/
theorem aw_absurd {ρ : Option Nat} {P : Program} {c : Code} {Q : Exit → St → Prop} {st : St} {n ver wv len : Nat} {tt : TypeId} {cs : List C} (h : st.G n = some (.arr ver wv tt 0 len cs)) : AW ρ P c Q st := fun E w a hs => by
 obtain ⟨_, _, _, _, _, _, _, h1⟩ := hs.g.obj n _ h
 omega
theorem allP_words (t : TextD) : (allP t).map (·.1) = wordsF t fun _ => some (1, 1) := by
 have key : ∀ (k n : Nat) (c : Chap) (l : List ByteArray), t[k]? = some c → c.lines[n]? = some l → lineW t (fun _ => some (1, 1)) ((k : Int), (n : Int)) = (lineP k n l).map (·.1) := fun k n c l hc hl => by
  unfold lineW
  rw [wordsOf_get hc hl]
  simp only [Option.isSome_some, cond_true, Option.getD_some]
  unfold lineN lineP
  apply List.ext_getElem?
  intro i
  rw [List.getElem?_map, List.getElem?_map, List.getElem?_mapIdx]
  by_cases hi : i < l.length
  ·rw [List.getElem?_range hi, List.getElem?_eq_getElem hi]; rfl
  rw [List.getElem?_eq_none (by simp; omega), List.getElem?_eq_none (by omega)]; rfl
 unfold wordsF wordsP linesT allP chapP
 rw [List.map_flatten, map_mapIdx', List.map_flatten, map_mapIdx', List.flatten_flatten]
 congr 1
 rw [map_mapIdx']
 apply List.ext_getElem?
 intro k
 rw [List.getElem?_mapIdx, List.getElem?_mapIdx]
 cases hc : t[k]? with
 | none => rfl
 | some c =>
  simp only [Option.map_some]
  congr 1
  rw [List.map_flatten, map_mapIdx', map_mapIdx']
  congr 1
  apply List.ext_getElem?
  intro n
  rw [List.getElem?_mapIdx, List.getElem?_mapIdx]
  cases hl : c.lines[n]? with
  | none => rfl
  | some l => simp only [Option.map_some]; rw [key k n c l hc hl]
def isP (p : PlaceD) (x : PW) : Bool := decide (x.1 = p)
/-- so many places are ahead of a place -/
def numP (t : TextD) (p : PlaceD) : Nat := (allP t).findIdx (isP p)
theorem allP_nodup (t : TextD) : ((allP t).map (·.1)).Nodup := by rw [allP_words]; exact words_nodup _ _
theorem allP_mem {t : TextD} {p : PlaceD} : p ∈ (allP t).map (·.1) ↔ placeB t p = true := by
 rw [allP_words, mem_words]; simp
theorem allP_any {t : TextD} {p : PlaceD} (hp : placeB t p = true) : (allP t).any (isP p) = true := by
 obtain ⟨x, hx, h⟩ := List.mem_map.1 (allP_mem.2 hp)
 exact List.any_eq_true.2 ⟨x, hx, by simp [isP, h]⟩
theorem num_at {t : TextD} {p : PlaceD} {k : Nat} {x : PW} (hx : (allP t)[k]? = some x) (hp : x.1 = p) : numP t p = k := by
 refine findIdx_at hx (fun y hy => ?_) (by simp [isP, hp])
 obtain ⟨j, hj⟩ := List.getElem?_of_mem hy
 rw [List.getElem?_take] at hj
 split at hj
 ·rename_i hjk
  refine decide_eq_false fun e => ?_
  exact not_nodup_map hj hx hjk (f := fun z : PW => z.1) (e.trans hp.symm) (allP_nodup t)
 cases hj
theorem num_of {t : TextD} {p : PlaceD} {pre : List PW} {x : PW} (h : pre ++ [x] <+: allP t) (hp : x.1 = p) : numP t p = pre.length := by
 obtain ⟨r, hr⟩ := h
 refine num_at (x := x) ?_ hp
 rw [← hr, List.append_assoc, List.getElem?_append_right (Nat.le_refl _), Nat.sub_self]
 rfl
theorem allP_len {t : TextD} (ht : textB t = true) : (allP t).length ≤ 600 := by
 have h1 : ((allP t).map (·.1)).length = (wordsF t fun _ => some (1, 1)).length := by rw [allP_words]
 have h2 := wordsP_len ht (fun _ => some (1, 1)) (linesT t)
 have h3 := linesT_len ht
 unfold wordsF at h1
 rw [List.length_map] at h1
 omega
/-- so many were counted; where the place is among them, nothing is -/
def cntG (G : Nat → Option GObj) (n : Nat) (p : PlaceD) (zs : List PW) : Nat → Option GObj := bif zs.any (isP p) then setG G n (.arr 0 0 0 0 0 []) else setG G n (.box (zs.length + 1) [.v (.int .i64 (zs.length : Int))])
theorem cntG_no {G : Nat → Option GObj} {n : Nat} {p : PlaceD} {zs : List PW} (h : zs.any (isP p) = false) : cntG G n p zs = setG G n (.box (zs.length + 1) [.v (.int .i64 (zs.length : Int))]) := by unfold cntG; rw [h]; rfl
theorem cntG_yes {G : Nat → Option GObj} {n : Nat} {p : PlaceD} {zs : List PW} (h : zs.any (isP p) = true) : cntG G n p zs n = some (.arr 0 0 0 0 0 []) := by unfold cntG; rw [h]; exact setG_same _ _ _
def numE (t : TextD) (p : PlaceD) : Int := bif decide (placedEr t p = 0) then (numP t p : Int) else 0
theorem allP_word {t : TextD} (ht : textB t = true) {x : PW} (hx : x ∈ allP t) : x.2.size ≤ 12 := by
 unfold allP at hx
 obtain ⟨l, hl, h1⟩ := List.mem_flatten.1 hx
 obtain ⟨k, hk, rfl⟩ := List.mem_mapIdx.1 hl
 unfold chapP at h1
 obtain ⟨l2, hl2, h2⟩ := List.mem_flatten.1 h1
 obtain ⟨n, hn, rfl⟩ := List.mem_mapIdx.1 hl2
 unfold lineP at h2
 obtain ⟨w, hw, rfl⟩ := List.mem_mapIdx.1 h2
 simp only [textB, Bool.and_eq_true, List.all_eq_true, chapB, lineB, wordB, inB_true] at ht
 have h3 := ((((ht.1.2 _ (List.getElem_mem hk)).2 _ (List.getElem_mem hn)).2 _ (List.getElem_mem hw)).1).2
 dsimp only
 omega
theorem allP_cl {t : TextD} (ht : textB t = true) : ∀ x ∈ allP t, ∀ E W, Rs E W (clP x) (encP x) := fun x hx E W => by
 have hb := place_bd ht (allP_mem.1 (List.mem_map.2 ⟨x, hx, rfl⟩))
 have hw := allP_word ht hx
 exact Rs.cons ((Rs.cons (.v (okV_i64 (by omega))) (Rs.cons (.v (okV_i64 (by omega))) (Rs.cons (.v (okV_i64 (by omega))) Rs.nil))).agg (by intro c hc; simp only [List.mem_cons, List.not_mem_nil, or_false] at hc; rcases hc with rfl | rfl | rfl <;> rfl)) (Rs.cons (.v (okV_str.2 (by omega))) Rs.nil)
end Go.AB
namespace Go.Proofs.YtejhjijbgceklaaGreatDoor
set_option maxRecDepth 10000
open Go.RowKit Go.AB
open Go.AB.Enc (cells)
open Go.PB (Chap TextD PlaceD ReadingD CopyD WayD)
theorem leafAll_pc (t : TextD) (G : Nat → Option GObj) (nx : Nat) : PC Tryz.prog 50 [.elem [lst t]] G nx fun r' G' nx' => r' = .fn (.func 79) [.elem [.elem [lst t]]] ∧ G' = G ∧ nx' = nx := by
 refine pc_named_of_body (G) (nx) Tryz.func50 rfl (.fn (low_cons (.elem (low_cons (.elem (low_cons (lst_low _ _) low_nil)) low_nil)) low_nil)) zN (fun hlt => zH) ?_
 simp only [Tryz.ntmps50, List.length_cons, List.length_nil, Nat.reduceAdd, Nat.reduceSub]
 refine aw_lt fun hlt => ?_
 dsimp only at hlt
 refine aw_seq_k fun K1 hK1 => ?_
 refine aw_region ?_
 try dsimp only [St.put]
 refine aops_e rfl (e_box rfl rfl (by simp) ?_)
 refine aops_n rfl (n_as rfl (by constructor)) ?_
 refine aops_nil ?_
 dsimp only [St.put]
 refine hK1 _ ?_
 refine aw_seq_k fun K2 hK2 => ?_
 refine aw_region ?_
 refine aops_n rfl (n_makeFunc rfl rfl) ?_
 refine aops_n rfl (n_as rfl (by constructor)) ?_
 refine aops_nil ?_
 dsimp only [St.put]
 refine hK2 _ ?_
 refine aw_ret ?_
 refine ends_1 rfl (by constructor) zN zS ?_
 rfl
theorem leafNumber_pure (t : TextD) (p : PlaceD) : Pure Tryz.prog 26 [textC t, val p] (.tup [.v (.int .i64 (numE t p)), .v (.int .i64 (placedEr t p))]) := by
 refine pure_of_body Tryz.func26 rfl (fun m => .tup (low_cons .v (low_cons .v low_nil))) fun G nx => ?_
 simp only [Tryz.ntmps26, List.length_cons, List.length_nil, Nat.reduceAdd, Nat.reduceSub]
 refine aw_lt fun hlt => ?_
 dsimp only at hlt
 refine aw_seq_k fun K1 hK1 => ?_
 refine aw_region ?_
 try dsimp only [St.put]
 refine aops_e rfl (e_box rfl rfl (by simp) ?_)
 try dsimp only [St.put]
 refine aops_e rfl (e_box rfl rfl (by simp) ?_)
 refine aops_n rfl (n_as rfl (by constructor)) ?_
 refine aops_n rfl (n_as rfl (by constructor)) ?_
 refine aops_nil ?_
 dsimp only [St.put]
 refine hK1 _ ?_
 refine aw_seq_k fun K2 hK2 => ?_
 refine aw_region ?_
 try dsimp only [St.put]
 refine aops_s rfl (s_load_agg' rfl rfl rfl) ?_
 try dsimp only [St.put]
 refine aops_s rfl (s_load_agg' rfl rfl (Enc.len _)) ?_
 try dsimp only [St.put]
 refine aops_e rfl (e_call_pure rfl rfl rfl (leafPlaced_pure t p) ?_)
 refine aops_n rfl (n_mv rfl (by constructor)) ?_
 refine aops_n rfl (n_extract rfl rfl rfl) ?_
 refine aops_n rfl (n_extract rfl rfl rfl) ?_
 refine aops_n rfl (n_as rfl (by constructor)) ?_
 refine aops_n rfl (n_as rfl (by constructor)) ?_
 refine aops_nil ?_
 dsimp only [St.put]
 refine hK2 _ ?_
 refine aw_seq_k fun K3 hK3 => ?_
 refine aw_seq_k fun K4 hK4 => ?_
 refine aw_region ?_
 refine aops_n rfl (n_mv rfl (by constructor)) ?_
 refine aops_n rfl (n_neq rfl rfl rfl) ?_
 refine aops_nil ?_
 dsimp only [St.put]
 refine hK4 _ ?_
 refine aw_cond rfl (fun hc => ?_) (fun hc => ?_)
 ·have h0 : ¬ placedEr t p = 0 := nd_t hc
  refine aw_seq_k fun K5 hK5 => ?_
  refine aw_region ?_
  refine aops_n rfl (n_mv rfl (by constructor)) ?_
  refine aops_n rfl (n_as rfl (by constructor)) ?_
  refine aops_n rfl (n_as rfl (by constructor)) ?_
  refine aops_nil ?_
  dsimp only [St.put]
  refine hK5 _ ?_
  refine aw_ret ?_
  refine ends_2 rfl (by constructor) (by constructor) zN zS ?_ ?_
  ·exact vi (by simp [numE, h0])
  rfl
 have h0 : placedEr t p = 0 := nd_f hc
 obtain ⟨ht, hp⟩ : textB t = true ∧ placeB t p = true := by
  unfold placedEr at h0
  cases h1 : textB t <;> cases h2 : placeB t p <;> simp_all
 rw [show placedC t p = .elem [lst t] by simp [placedC, ht, hp]]
 have hall := allP_any hp
 have hlen := allP_len ht
 refine aw_skip ?_
 refine hK3 _ ?_
 refine aw_seq_k fun K6 hK6 => ?_
 refine aw_region ?_
 try dsimp only [St.put]
 refine aops_e rfl (e_allocC rfl ?_)
 try dsimp only [St.put]
 refine aops_e rfl (e_store_all rfl rfl rfl zG rfl rfl (by rfl) ?_)
 refine aops_nil ?_
 dsimp only [St.put]
 refine hK6 _ ?_
 refine aw_seq_k fun K7 hK7 => ?_
 refine aw_seq_k fun K8 hK8 => ?_
 refine aw_region ?_
 refine aops_n rfl (n_mv rfl (by constructor)) ?_
 try dsimp only [St.put]
 refine aops_e rfl (e_call_one rfl rfl rfl (leafAll_pc t _ _) ?_)
 refine aops_nil ?_
 dsimp only [St.put]
 refine hK8 _ ?_
 refine aw_block ?_
 refine aw_wipe 21 ?_
 simp only [firsts, getA, Nat.reduceAdd, List.getD_cons_zero, List.getD_cons_succ, List.getD_nil, natBeq, Nat.reduceBEq, cond_true, cond_false]
 refine aw_forget (setG G nx (.box 1 [.v (.int .i64 0)])) zX ?_
 dsimp only
 refine aw_rangeFunc (clP) [21, 22] (fun zs => cntG G nx p zs) (fun c zs (y : Nat) => c = .exit 0 ∧ ∃ pre x, zs = pre ++ [x] ∧ x.1 = p ∧ y = pre.length) (fun y => setG G nx (.box (y + 1) [.v (.int .i64 (y : Int))])) (fun x => [(22, .v (.string x.2)), (21, .agg [.v (.int .i64 x.1.ch), .v (.int .i64 x.1.ln), .v (.int .i64 x.1.wd)])]) (all_iter t) rfl rfl (fun _ => rfl) (allP_cl ht) ?_ ?_ ?_ ?_ (fun lr pre x hx hlen hpre => ?_) ?_ (?_)
 ·intro pre x
  rfl
 ·exact fun n o h => h
 ·intro zs
  unfold cntG
  cases zs.any (isP p) <;> exact zH
 ·intro c zs y hy
  exact zH
 ·by_cases hany : pre.any (isP p) = true
  ·exact aw_absurd (cntG_yes hany)
  replace hany : pre.any (isP p) = false := by simpa using hany
  dsimp only
  rw [cntG_no hany]
  refine aw_region ?_
  try dsimp only [St.put]
  refine aops_e rfl (e_allocC rfl ?_)
  try dsimp only [St.put]
  refine aops_e rfl (e_store_all rfl rfl rfl zG rfl rfl (by rfl) ?_)
  refine aops_nil ?_
  dsimp only [St.put]
  show AW _ _ _ _ _
  refine aw_block ?_
  refine aw_seq_k fun K9 hK9 => ?_
  refine aw_seq_k fun K10 hK10 => ?_
  refine aw_region ?_
  try dsimp only [St.put]
  refine aops_s rfl (s_load_box_all rfl rfl zG trivial (by rfl)) ?_
  try dsimp only [St.put]
  refine aops_s rfl (s_load_agg' rfl rfl (Enc.len _)) ?_
  refine aops_n rfl (n_agg_eql (x := x.1) (y := p) rfl rfl rfl) ?_
  refine aops_nil ?_
  dsimp only [St.put]
  refine hK10 _ ?_
  refine aw_cond rfl (fun hc => ?_) (fun hc => ?_)
  ·have hxp : x.1 = p := of_decide_eq_true hc
   refine aw_exit ?_
   exact ⟨pre.length, ⟨rfl, pre, x, rfl, hxp, rfl⟩, zX⟩
  have hxp : ¬ x.1 = p := of_decide_eq_false hc
  refine aw_skip ?_
  refine hK9 _ ?_
  refine aw_region ?_
  try dsimp only [St.put]
  refine aops_s rfl (s_load_box rfl rfl zG trivial (by first | rfl | assumption)) ?_
  refine aops_n rfl (n_add rfl rfl rfl (by omega)) ?_
  try dsimp only [St.put]
  refine aops_e rfl (e_store_all rfl rfl rfl zG rfl rfl (by rfl) ?_)
  refine aops_nil ?_
  dsimp only [St.put]
  unfold ABlock RPost
  dsimp only
  rw [cntG_no (show (pre ++ [x]).any (isP p) = false by rw [List.any_append, hany]; simp [isP, hxp])]
  simp only [List.length_append, List.length_singleton]
  exact zX
 ·rintro c pre y hpf ⟨rfl, pre', x, rfl, hxp, rfl⟩
  have hnum := num_of hpf hxp
  refine aw_exit ?_
  refine hK7 _ ?_
  refine aw_seq_k fun K11 hK11 => ?_
  refine aw_region ?_
  try dsimp only [St.put]
  refine aops_s rfl (s_load_box rfl rfl zG trivial (by first | rfl | assumption)) ?_
  refine aops_n rfl (n_as rfl (by constructor)) ?_
  refine aops_n rfl (n_as rfl (by constructor)) ?_
  refine aops_nil ?_
  dsimp only [St.put]
  refine hK11 _ ?_
  refine aw_ret ?_
  refine ends_2 rfl (by constructor) (by constructor) zN zS ?_ ?_
  ·exact vi (by simp [numE, h0, hnum])
  exact vi h0.symm
 dsimp only
 exact hK7 _ (aw_absurd (n := nx) (cntG_yes hall))
end Go.Proofs.YtejhjijbgceklaaGreatDoor

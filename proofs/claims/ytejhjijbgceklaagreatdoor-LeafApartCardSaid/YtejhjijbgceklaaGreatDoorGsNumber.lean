/-
 Contracts of the program's functions of texts: the number of a place.
-/
import Derived.Test.YtejhjijbgceklaaGreatDoorItAll
import Derived.Test.YtejhjijbgceklaaGreatDoorGrpF
import Derived.Test.YtejhjijbgceklaaGreatDoorEcRefer
namespace Go.AB
open Go Go.RowKit
open Go.AB.Enc (cells)
open Go.PB (Chap TextD PlaceD ReadingD CopyD WayD)
/-- What cannot be is no state. -/
theorem aw_absurd {ρ : Option Nat} {P : Program} {c : Code} {Q : Exit → St → Prop} {st : St} {n ver wv len : Nat} {tt : TypeId} {cs : List C} (h : st.G n = some (.arr ver wv tt 0 len cs)) : AW ρ P c Q st := fun E w a hs => by
 obtain ⟨_, _, _, _, _, _, _, h1⟩ := hs.g.obj n _ h
 omega
theorem allP_words (t : TextD) : (allP t).map (·.1) = wordsF t fun _ => some (1, 1) := by
 have key : ∀ (k n : Nat) (c : Chap) (l : List ByteArray), t[k]? = some c → c.lines[n]? = some l → lineW t (fun _ => some (1, 1)) ((k : Int), (n : Int)) = (lineP k n l).map (·.1) := fun k n c l hc hl => by
  unfold lineW
  rw [wordsOf_get hc hl]
  simp only [Option.isSome_some, cond_true, Option.getD_some]
  unfold lineN lineP
  apply List.ext_getElem?
  intro i
  rw [List.getElem?_map, List.getElem?_map, List.getElem?_mapIdx]
  by_cases hi : i < l.length
  ·rw [List.getElem?_range hi, List.getElem?_eq_getElem hi]; rfl
  rw [List.getElem?_eq_none (by simp; omega), List.getElem?_eq_none (by omega)]; rfl
 unfold wordsF wordsP linesT allP chapP
 rw [List.map_flatten, map_mapIdx', List.map_flatten, map_mapIdx', List.flatten_flatten]
 congr 1
 rw [map_mapIdx']
 apply List.ext_getElem?
 intro k
 rw [List.getElem?_mapIdx, List.getElem?_mapIdx]
 cases hc : t[k]? with
 | none => rfl
 | some c =>
  simp only [Option.map_some]
  congr 1
  rw [List.map_flatten, map_mapIdx', map_mapIdx']
  congr 1
  apply List.ext_getElem?
  intro n
  rw [List.getElem?_mapIdx, List.getElem?_mapIdx]
  cases hl : c.lines[n]? with
  | none => rfl
  | some l => simp only [Option.map_some]; rw [key k n c l hc hl]
theorem allP_mem {t : TextD} {p : PlaceD} : p ∈ (allP t).map (·.1) ↔ placeB t p = true := by
 rw [allP_words, mem_words]; simp
theorem allP_len {t : TextD} (ht : textB t = true) : (allP t).length ≤ 600 := by
 have h1 : ((allP t).map (·.1)).length = (wordsF t fun _ => some (1, 1)).length := by rw [allP_words]
 have h2 := wordsP_len ht (fun _ => some (1, 1)) (linesT t)
 have h3 := linesT_len ht
 unfold wordsF at h1
 rw [List.length_map] at h1
 omega
theorem allP_word {t : TextD} (ht : textB t = true) {x : PW} (hx : x ∈ allP t) : x.2.size ≤ 12 := by
 unfold allP at hx
 obtain ⟨l, hl, h1⟩ := List.mem_flatten.1 hx
 obtain ⟨k, hk, rfl⟩ := List.mem_mapIdx.1 hl
 unfold chapP at h1
 obtain ⟨l2, hl2, h2⟩ := List.mem_flatten.1 h1
 obtain ⟨n, hn, rfl⟩ := List.mem_mapIdx.1 hl2
 unfold lineP at h2
 obtain ⟨w, hw, rfl⟩ := List.mem_mapIdx.1 h2
 simp only [textB, Bool.and_eq_true, List.all_eq_true, chapB, lineB, wordB, inB_true] at ht
 have h3 := ((((ht.1.2 _ (List.getElem_mem hk)).2 _ (List.getElem_mem hn)).2 _ (List.getElem_mem hw)).1).2
 dsimp only
 omega
theorem allP_cl {t : TextD} (ht : textB t = true) : ∀ x ∈ allP t, ∀ E W, Rs E W (clP x) (encP x) := fun x hx E W => by
 have hb := place_bd ht (allP_mem.1 (List.mem_map.2 ⟨x, hx, rfl⟩))
 have hw := allP_word ht hx
 exact Rs.cons ((Rs.cons (.v (okV_i64 (by omega))) (Rs.cons (.v (okV_i64 (by omega))) (Rs.cons (.v (okV_i64 (by omega))) Rs.nil))).agg (by intro c hc; simp only [List.mem_cons, List.not_mem_nil, or_false] at hc; rcases hc with rfl | rfl | rfl <;> rfl)) (Rs.cons (.v (okV_str.2 (by omega))) Rs.nil)
end Go.AB
namespace Go.Proofs.YtejhjijbgceklaaGreatDoor
set_option maxRecDepth 10000
open Go.RowKit Go.AB
open Go.AB.Enc (cells)
open Go.PB (Chap TextD PlaceD ReadingD CopyD WayD)
theorem leafAll_pc (t : TextD) (G : Nat → Option GObj) (nx : Nat) : PC Tryz.prog 50 [.elem [lst t]] G nx fun r' G' nx' => r' = .fn (.func 79) [.elem [.elem [lst t]]] ∧ G' = G ∧ nx' = nx := by
 refine pc_named_of_body (G) (nx) Tryz.func50 rfl (.fn (low_cons (.elem (low_cons (.elem (low_cons (lst_low _ _) low_nil)) low_nil)) low_nil)) zN (fun hlt => zH) ?_
 simp only [Tryz.ntmps50, List.length_cons, List.length_nil, Nat.reduceAdd, Nat.reduceSub]
 refine aw_lt fun hlt => ?_
 dsimp only at hlt
 refine aw_seq_k fun K1 hK1 => ?_
 refine aw_region ?_
 try dsimp only [St.put]
 refine aops_e rfl (e_box rfl rfl (by simp) ?_)
 refine aops_n rfl (n_as rfl (by constructor)) ?_
 refine aops_nil ?_
 dsimp only [St.put]
 refine hK1 _ ?_
 refine aw_seq_k fun K2 hK2 => ?_
 refine aw_region ?_
 refine aops_n rfl (n_makeFunc rfl rfl) ?_
 refine aops_n rfl (n_as rfl (by constructor)) ?_
 refine aops_nil ?_
 dsimp only [St.put]
 refine hK2 _ ?_
 refine aw_ret ?_
 refine ends_1 rfl (by constructor) zN zS ?_
 rfl
end Go.Proofs.YtejhjijbgceklaaGreatDoor

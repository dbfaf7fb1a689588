/-
 Places by their words: what a map of them holds while it is made; the contract of the program's function that makes it.
-/
import Derived.Test.YtejhjijbgceklaaKwWords
import Derived.Test.YtejhjijbgceklaaAbRangeN
import Derived.Test.YtejhjijbgceklaaAbCut
import Derived.Test.YtejhjijbgceklaaHeMap
namespace Go.AB
open Go Go.RowKit
open Go.AB.Enc (cells)
open Go.PB (Chap TextD PlaceD ReadingD CopyD WayD)
instance : LawfulBEq ByteArray where
 rfl := by
  intro a
  show ByteArray.beq a a = true
  unfold ByteArray.beq
  simp
 eq_of_beq := by
  intro a b h
  have h : ByteArray.beq a b = true := h
  unfold ByteArray.beq at h
  cases a; cases b
  simpa using h
/-- the words, as they come up -/
def keysW (zs : List PW) : List ByteArray := zs.foldl (fun ks x => if x.2 ∈ ks then ks else ks ++ [x.2]) []
theorem keysW_snoc (zs : List PW) (x : PW) : keysW (zs ++ [x]) = if x.2 ∈ keysW zs then keysW zs else keysW zs ++ [x.2] := by unfold keysW; rw [List.foldl_append]; rfl
theorem keysW_old {zs : List PW} {x : PW} (h : x.2 ∈ keysW zs) : keysW (zs ++ [x]) = keysW zs := by rw [keysW_snoc, if_pos h]
theorem keysW_new {zs : List PW} {x : PW} (h : x.2 ∉ keysW zs) : keysW (zs ++ [x]) = keysW zs ++ [x.2] := by rw [keysW_snoc, if_neg h]
theorem snoc_ind {α : Type} {p : List α → Prop} (h0 : p []) (h1 : ∀ l x, p l → p (l ++ [x])) (l : List α) : p l := by
 rw [← List.reverse_reverse l]
 induction l.reverse with
 | nil => exact h0
 | cons x l ih => rw [List.reverse_cons]; exact h1 _ _ ih
theorem keysW_mem {zs : List PW} {s : ByteArray} : s ∈ keysW zs ↔ s ∈ zs.map (·.2) := by
 revert s
 refine snoc_ind (p := fun zs => ∀ {s : ByteArray}, s ∈ keysW zs ↔ s ∈ zs.map (·.2)) (by simp [keysW]) (fun zs x ih => ?_) zs
 intro s
 rw [List.map_append, List.mem_append, ← ih]
 by_cases h : x.2 ∈ keysW zs
 ·rw [keysW_old h]
  simp only [List.map_cons, List.map_nil, List.mem_singleton]
  constructor
  ·exact .inl
  ·rintro (h2 | rfl)
   ·exact h2
   ·exact h
 ·rw [keysW_new h, List.mem_append]; simp
theorem keysW_nodup (zs : List PW) : (keysW zs).Nodup := by
 refine snoc_ind (p := fun zs => (keysW zs).Nodup) (by simp [keysW]) (fun zs x ih => ?_) zs
 by_cases h : x.2 ∈ keysW zs
 ·rw [keysW_old h]; exact ih
 ·rw [keysW_new h]; exact nodup_snoc ih h
theorem keysW_len (zs : List PW) : (keysW zs).length ≤ zs.length := by
 refine snoc_ind (p := fun zs => (keysW zs).length ≤ zs.length) (by simp [keysW]) (fun zs x ih => ?_) zs
 by_cases h : x.2 ∈ keysW zs
 ·rw [keysW_old h]; simp; omega
 ·rw [keysW_new h]; simp; omega
theorem placesL_snoc (zs : List PW) (x : PW) (s : ByteArray) : placesL (zs ++ [x]) s = if x.2 = s then placesL zs s ++ [x.1] else placesL zs s := by
 unfold placesL
 rw [List.filter_append, List.map_append]
 by_cases h : x.2 = s <;> simp [h]
theorem placesL_nil {zs : List PW} {s : ByteArray} (h : s ∉ keysW zs) : placesL zs s = [] := by
 unfold placesL
 rw [List.map_eq_nil_iff, List.filter_eq_nil_iff]
 intro x hx
 simp only [decide_eq_true_eq]
 intro e
 exact h (keysW_mem.2 (List.mem_map.2 ⟨x, hx, e⟩))
theorem placesL_ne {zs : List PW} {s : ByteArray} (h : s ∈ keysW zs) : placesL zs s ≠ [] := by
 obtain ⟨x, hx, e⟩ := List.mem_map.1 (keysW_mem.1 h)
 unfold placesL
 intro h0
 rw [List.map_eq_nil_iff, List.filter_eq_nil_iff] at h0
 exact h0 x hx (by simp [e])
theorem nodup_idx {α : Type} [BEq α] [LawfulBEq α] {l : List α} (h : l.Nodup) {j : Nat} {x : α} (hj : l[j]? = some x) : l.idxOf x = j := by
 obtain ⟨h1, h2⟩ := List.getElem?_eq_some_iff.1 hj
 have h3 : x ∈ l := List.mem_of_getElem? hj
 have h4 := List.idxOf_lt_length_of_mem h3
 have h5 : l[l.idxOf x] = x := List.getElem_idxOf h4
 have h6 := List.pairwise_iff_getElem.1 h
 rcases Nat.lt_trichotomy (l.idxOf x) j with h7 | h7 | h7
 ·exact absurd (h5.trans h2.symm) (h6 _ _ h4 h1 h7)
 ·exact h7
 ·exact absurd (h2.trans h5.symm) (h6 _ _ h1 h4 h7)
def tipW (base : Nat) (zs : List PW) (s : ByteArray) : Nat := base + 2 * (keysW zs).idxOf s + 1
def namesW (base : Nat) (zs : List PW) : Nat := base + 2 * (keysW zs).length
/-- what the map holds -/
def ixN (base : Nat) (zs : List PW) : ByteArray → Option C := fun s => if s ∈ keysW zs then some (.list ((placesL zs s).map cells) (.tip (tipW base zs s))) else none
/-- .. in the end -/
def ixF (zs : List PW) : ByteArray → Option C := fun s => if s ∈ keysW zs then some (lst (placesL zs s)) else none
noncomputable def ixG (P : Program) (kt rt : TypeId) (G0 : Nat → Option GObj) (M base : Nat) (zs : List PW) : Nat → Option GObj := fun n =>
 if n < base then (if n = M then some (gmap P kt zs.length (ixN base zs)) else G0 n)
 else if (n - base) % 2 = 1 then ((keysW zs)[(n - base) / 2]?).map fun s => .tip (placesL zs s).length rt 3 else none
theorem namesW_le (base : Nat) (zs : List PW) : base ≤ namesW base zs := by unfold namesW; omega
theorem tipW_lt {base : Nat} {zs : List PW} {s : ByteArray} (h : s ∈ keysW zs) : tipW base zs s < namesW base zs := by
 have := List.idxOf_lt_length_of_mem h
 unfold tipW namesW; omega
theorem tipW_ge (base : Nat) (zs : List PW) (s : ByteArray) : base < tipW base zs s := by unfold tipW; omega
section
variable {P : Program} {kt rt : TypeId} {G0 : Nat → Option GObj} {M base : Nat} {zs : List PW} {x : PW}
theorem ixG_map (hM : M < base) : ixG P kt rt G0 M base zs M = some (gmap P kt zs.length (ixN base zs)) := by
 unfold ixG
 rw [if_pos hM, if_pos rfl]
theorem ixG_base {n : Nat} (hM : n < base) (hne : n ≠ M) : ixG P kt rt G0 M base zs n = G0 n := by
 unfold ixG
 rw [if_pos hM, if_neg hne]
theorem ixG_box {zs : List PW} {P : Program} {kt rt : TypeId} {m b : Nat} {o : GObj} {H : Nat → Option GObj} (hb : m < b ∧ m ≠ M) : ixG P kt rt (setG H m o) M b zs m = some o := by
 unfold ixG
 rw [if_pos hb.1, if_neg hb.2, setG_same]
theorem ixG_tip {s : ByteArray} (h : s ∈ keysW zs) : ixG P kt rt G0 M base zs (tipW base zs s) = some (.tip (placesL zs s).length rt 3) := by
 unfold ixG tipW
 rw [if_neg (by omega), if_pos (by omega)]
 have : (base + 2 * (keysW zs).idxOf s + 1 - base) / 2 = (keysW zs).idxOf s := by omega
 rw [this, List.getElem?_eq_getElem (List.idxOf_lt_length_of_mem h), List.getElem_idxOf]
 rfl
theorem ixG_lt (hG0 : ∀ n o, G0 n = some o → n < base) {n : Nat} {o : GObj} (h : ixG P kt rt G0 M base zs n = some o) : n < namesW base zs := by
 have := namesW_le base zs
 unfold ixG at h
 split at h
 ·omega
 ·split at h
  ·obtain ⟨p, hp, _⟩ := Option.map_eq_some_iff.1 h
   have := (List.getElem?_eq_some_iff.1 hp).1
   unfold namesW
   omega
  ·cases h
theorem ixN_low {m : Nat} (hm : namesW base zs ≤ m) (s : ByteArray) (c : C) (h : ixN base zs s = some c) : c.low m := by
 unfold ixN at h
 split at h
 ·rename_i hp
  cases h
  refine .list (fun row hrow c hc => ?_) (fun n hn => ?_)
  ·obtain ⟨y, _, rfl⟩ := List.mem_map.1 hrow
   exact Enc.low m y c hc
  ·cases hn
   have := tipW_lt (base := base) hp
   omega
 ·cases h
theorem ixG_new (st : St) (hst : st.nx = base) (hG0 : ∀ n o, G0 n = some o → n ≠ M → st.G n = some o) (hM : M < base) : NewOk st (ixG P kt rt G0 M base zs) (namesW base zs) := fun n o h => by
 have h1 := namesW_le base zs
 unfold ixG at h
 split at h
 ·split at h
  ·rename_i hn
   cases h
   exact .inr ⟨by omega, mapV_low fun s c hc => ixN_low (Nat.le_refl _) s c hc, fun h => by omega⟩
  ·rename_i hn
   exact .inl (hG0 n o h hn)
 ·split at h
  ·obtain ⟨p, hp, rfl⟩ := Option.map_eq_some_iff.1 h
   have := (List.getElem?_eq_some_iff.1 hp).1
   exact .inr ⟨by unfold namesW; omega, trivial, fun _ => rfl⟩
  ·cases h
theorem ixN_start (base : Nat) : ixN base [] = fun _ => none := by
 funext s
 simp [ixN, keysW]
theorem ixG_start (hM : M < base) {n : Nat} {o : GObj} (h : ixG P kt rt G0 M base [] n = some o) : setG G0 M (gmap P kt 0 (α := ByteArray) fun _ => none) n = some o := by
 unfold ixG at h
 split at h
 ·split at h
  ·rename_i hn
   rw [hn, setG_same, ← ixN_start base]; exact h
  ·rename_i hn
   rw [setG_other hn]; exact h
 ·split at h
  ·simp [keysW] at h
  ·cases h
theorem ixN_getD {z : Value} (h : x.2 ∈ keysW zs) : (ixN base zs x.2).getD (constC z) = .list ((placesL zs x.2).map cells) (.tip (tipW base zs x.2)) := by
 simp [ixN, h]
theorem ixN_getD_new (h : x.2 ∉ keysW zs) : (ixN base zs x.2).getD (constC (.slice none 0 0)) = .list [] .nil := by
 simp [ixN, h]; rfl
theorem tipW_old {s : ByteArray} (h : s ∈ keysW zs) : tipW base (zs ++ [x]) s = tipW base zs s := by
 unfold tipW
 by_cases hin : x.2 ∈ keysW zs
 ·rw [keysW_old hin]
 ·rw [keysW_new hin, List.idxOf_append, if_pos h]
theorem tipW_new (h : x.2 ∉ keysW zs) : tipW base (zs ++ [x]) x.2 = namesW base zs + 1 := by
 unfold tipW namesW
 rw [keysW_new h, List.idxOf_append, if_neg h]
 simp
theorem ixN_step_old (h : x.2 ∈ keysW zs) {c : C} (hc : c = .list ((placesL zs x.2 ++ [x.1]).map cells) (.tip (tipW base zs x.2))) : mset (ixN base zs) x.2 c = ixN base (zs ++ [x]) := by
 funext s
 unfold mset ixN
 rw [keysW_old h, placesL_snoc]
 split
 ·rename_i e
  subst e
  rw [if_pos h, if_pos rfl, hc, tipW_old h]
 ·rename_i e
  split
  ·rename_i hp
   rw [if_neg (fun e2 => e e2.symm), tipW_old hp]
  ·rfl
theorem ixN_step_new (h : x.2 ∉ keysW zs) {c : C} (hc : c = .list ((([] : List PlaceD) ++ [x.1]).map cells) (.tip (namesW base zs + 1))) : mset (ixN base zs) x.2 c = ixN base (zs ++ [x]) := by
 funext s
 unfold mset ixN
 rw [keysW_new h, placesL_snoc]
 by_cases e : s = x.2
 ·subst e
  rw [if_pos rfl, if_pos (by simp), if_pos rfl, hc, tipW_new h, placesL_nil h]
 ·have e' : ¬ x.2 = s := fun h => e h.symm
  by_cases hp : s ∈ keysW zs
  ·simp [e, e', hp, tipW_old hp]
  ·simp [e, e', hp]
theorem ixG_keep (hG0 : ∀ n o, G0 n = some o → n < base) {B B' : GObj} {n : Nat} {o : GObj} (h : ixG P kt rt G0 M base zs n = some o) : delG (setG (setG (ixG P kt rt G0 M base zs) (namesW base zs) B) (namesW base zs) B') (namesW base zs) n = some o := by
 have := ixG_lt hG0 h
 rw [delG_other (by omega), setG_other (by omega), setG_other (by omega)]
 exact h
theorem ixG_old (hM : M < base) (hin : x.2 ∈ keysW zs) {len : Nat} (hl : len = (placesL zs x.2 ++ [x.1]).length) {n : Nat} {o : GObj} (h : ixG P kt rt G0 M base (zs ++ [x]) n = some o) :
  setG (setG (ixG P kt rt G0 M base zs) (tipW base zs x.2) (.tip len rt 3)) M (gmap P kt (zs.length + 1) (ixN base (zs ++ [x]))) n = some o := by
 by_cases hn : n = M
 ·subst hn
  rw [setG_same]
  rw [ixG_map hM] at h
  simpa using h
 ·rw [setG_other hn]
  unfold ixG at h
  split at h
  ·rename_i hlt
   have := tipW_ge base zs x.2
   rw [setG_other (by omega), ixG_base hlt hn]
   exact h
  ·rename_i hlt
   split at h
   ·rename_i hodd
    obtain ⟨p, hp, rfl⟩ := Option.map_eq_some_iff.1 h
    rw [keysW_old hin] at hp
    by_cases ht : n = tipW base zs x.2
    ·rw [ht, setG_same]
     unfold tipW at ht
     have e1 : (n - base) / 2 = (keysW zs).idxOf x.2 := by omega
     rw [e1, List.getElem?_eq_getElem (List.idxOf_lt_length_of_mem hin), List.getElem_idxOf] at hp
     cases hp
     rw [placesL_snoc, if_pos rfl, hl]
    ·rw [setG_other ht]
     unfold ixG
     rw [if_neg hlt, if_pos hodd, hp, Option.map_some, placesL_snoc, if_neg (fun e => ht ?_)]
     subst e
     have hnd : (keysW zs).idxOf x.2 = (n - base) / 2 := ?_
     ·unfold tipW; omega
     ·exact nodup_idx (keysW_nodup zs) hp
   ·cases h
theorem ixG_fresh (hG0 : ∀ n o, G0 n = some o → n < base) (hM : M < base) (hin : x.2 ∉ keysW zs) {B : GObj} {len : Nat} (hl : len = 1) {n : Nat} {o : GObj} (h : ixG P kt rt G0 M base (zs ++ [x]) n = some o) :
  setG (setG (setG (ixG P kt rt G0 M base zs) (namesW base zs + 1) B) (namesW base zs + 1) (.tip len rt 3)) M (gmap P kt (zs.length + 1) (ixN base (zs ++ [x]))) n = some o := by
 have hnle := namesW_le base zs
 by_cases hn : n = M
 ·subst hn
  rw [setG_same]
  rw [ixG_map hM] at h
  simpa using h
 ·rw [setG_other hn]
  unfold ixG at h
  split at h
  ·rename_i hlt
   rw [setG_other (by omega), setG_other (by omega), ixG_base hlt hn]
   exact h
  ·rename_i hlt
   split at h
   ·rename_i hodd
    obtain ⟨p, hp, rfl⟩ := Option.map_eq_some_iff.1 h
    rw [keysW_new hin] at hp
    by_cases ht : n = namesW base zs + 1
    ·rw [ht, setG_same]
     have e1 : (n - base) / 2 = (keysW zs).length := by unfold namesW at ht; omega
     rw [e1, List.getElem?_append_right (Nat.le_refl _), Nat.sub_self] at hp
     cases hp
     rw [placesL_snoc, if_pos rfl, hl, placesL_nil hin]
     rfl
    ·have hlt2 := (List.getElem?_eq_some_iff.1 hp).1
     rw [List.length_append, List.length_singleton] at hlt2
     have hlt3 : (n - base) / 2 < (keysW zs).length := by unfold namesW at ht; omega
     rw [List.getElem?_append_left hlt3] at hp
     rw [setG_other ht, setG_other ht]
     unfold ixG
     rw [if_neg hlt, if_pos hodd, hp, Option.map_some, placesL_snoc, if_neg (fun e => hin ?_)]
     rw [e]
     exact List.mem_of_getElem? hp
   ·cases h
theorem namesW_old (h : x.2 ∈ keysW zs) : namesW base (zs ++ [x]) = namesW base zs := by
 unfold namesW
 rw [keysW_old h]
theorem namesW_new (h : x.2 ∉ keysW zs) : namesW base (zs ++ [x]) = namesW base zs + 1 + 1 := by
 unfold namesW
 rw [keysW_new h, List.length_append, List.length_singleton]
 omega
theorem ixF_weak (s : ByteArray) (c : C) (h : ixN base zs s = some c) : ∃ c', ixF zs s = some c' ∧ ∀ (E : Env) (w : World) (v : Value), R E w c v → R E w c' v := by
 unfold ixN at h
 split at h
 ·rename_i hp
  cases h
  exact ⟨lst (placesL zs s), by simp [ixF, hp], fun E w v hr => Wk.tok.2 E w v hr⟩
 ·cases h
theorem ixF_back (s : ByteArray) (c : C) (h : ixF zs s = some c) : ∃ c', ixN base zs s = some c' := by
 unfold ixF at h
 split at h
 ·rename_i hp
  exact ⟨_, if_pos hp⟩
 ·cases h
theorem ixF_get (zs : List PW) (s : ByteArray) : ∃ tok, (ixF zs s).getD (constC (.slice none 0 0)) = .list ((placesL zs s).map cells) tok := by
 unfold ixF
 by_cases h : s ∈ keysW zs
 ·rw [if_pos h]; exact ⟨.none, rfl⟩
 ·rw [if_neg h, placesL_nil h]
  exact ⟨.nil, rfl⟩
theorem ixF_low {m : Nat} (s : ByteArray) (c : C) (h : ixF zs s = some c) : c.low m := by
 unfold ixF at h
 split at h
 ·cases h; exact lst_low _ _
 ·cases h
theorem ixF_glow {m wv : Nat} : (gmap P kt wv (ixF zs)).low m := mapV_low fun x c h => ixF_low x c h
end
end Go.AB
namespace Go.Proofs.Ytejhjijbgceklaa
set_option maxRecDepth 10000
open Go.RowKit Go.AB
open Go.AB.Enc (cells)
open Go.PB (Chap TextD PlaceD ReadingD CopyD WayD)
theorem uStrK : Try.prog.underlying 9 = some .string := by kernel_rfl
instance : KeyT Try.prog 9 ByteArray where
 keyed := Go.Maps.string_keyed uStrK
 has {E w x v} h := by
  have h1 : okV (.string x) = true := R.okVv h
  have h2 : x.size ≤ maxLen := okV_str.1 h1
  simp [keyOf, mapKey, uStrK, KeyV.kv, h2]
set_option maxHeartbeats 4000000 in
theorem leafIndex_pc (t : TextD) (ht : textB t = true) (G : Nat → Option GObj) (nx : Nat) : PC Try.prog 46 [.elem [lst t]] G nx fun r' G' nx' => r' = .map nx ∧ G' = setG G nx (gmap Try.prog 9 (allP t).length (ixF (allP t))) ∧ nx' = nx + 1 := by
 refine pc_named_of_body (setG G nx (gmap Try.prog 9 (allP t).length (ixF (allP t)))) (nx + 1) Try.func46 rfl (.map (Nat.lt_succ_self _)) zN (fun hlt => (by (repeat' (refine lowG_set ?_ (by (try dsimp only); omega) ?_)); all_goals (first | exact lowG_base zS | (repeat' (first | exact trivial | refine ⟨?_, ?_⟩ | exact .v | exact .any | refine .elem ?_ | exact lst_low _ _ | exact cells_low _ _ | exact val_low _ _ | exact data_low _ (by (try dsimp only); omega) | exact .box (by (try dsimp only); omega) | exact nil_low | exact low_nil | exact ixF_glow | refine set_low ?_ ?_ | exact .arr (by (try dsimp only); omega) | exact .own (by (try dsimp only); omega) | exact .map (by (try dsimp only); omega) | exact flatC_low _ | refine low_cons ?_ ?_ | exact lst_low _ _))))) ?_
 simp only [Try.ntmps46, List.length_cons, List.length_nil, Nat.reduceAdd, Nat.reduceSub]
 refine aw_lt fun hlt => ?_
 dsimp only at hlt
 have hlt0 : ∀ n o, (setG (setG G nx (gmap Try.prog 9 0 (α := ByteArray) fun _ => none)) (nx + 1) (.box 1 [.map nx])) n = some o → n < nx + 1 + 1 := fun j o h => by
  simp only [setG] at h
  split at h
  ·omega
  ·split at h
   ·omega
   ·have := hlt j o h; omega
 have hM : nx < nx + 1 + 1 := by omega
 have hlen := allP_len ht
 have hlb : nx + 1 < nx + 1 + 1 ∧ nx + 1 ≠ nx := by omega
 refine aw_seq_k fun K1 hK1 => ?_
 refine aw_region ?_
 refine aops_n rfl (n_as rfl (by constructor)) ?_
 refine aops_nil ?_
 dsimp only [St.put]
 refine hK1 _ ?_
 refine aw_seq_k fun K2 hK2 => ?_
 refine aw_region ?_
 try dsimp only [St.put]
 refine aops_e rfl (e_makeMap (α := ByteArray) rfl ?_)
 try dsimp only [St.put]
 refine aops_e rfl (e_allocC rfl ?_)
 try dsimp only [St.put]
 refine aops_e rfl (e_store_all rfl rfl rfl zG rfl rfl (by rfl) ?_)
 refine aops_nil ?_
 dsimp only [St.put]
 refine hK2 _ ?_
 refine aw_seq_k fun K3 hK3 => ?_
 refine aw_seq_k fun K4 hK4 => ?_
 refine aw_region ?_
 refine aops_n rfl (n_mv rfl (by constructor)) ?_
 try dsimp only [St.put]
 refine aops_e rfl (e_call_one rfl rfl rfl (leafAll_pc t _ _) ?_)
 refine aops_nil ?_
 dsimp only [St.put]
 refine hK4 _ ?_
 refine aw_block ?_
 refine aw_wipe 9 ?_
 simp only [firsts, getA, Nat.reduceAdd, List.getD_cons_zero, List.getD_cons_succ, List.getD_nil, natBeq, Nat.reduceBEq, cond_true, cond_false]
 refine aw_forget ((setG (setG G nx (gmap Try.prog 9 0 (α := ByteArray) fun _ => none)) (nx + 1) (.box 1 [.map nx]))) zX ?_
 dsimp only
 refine aw_rangeFuncN (clP) [9, 10] (fun zs => (ixG Try.prog 9 43 (setG (setG G nx (gmap Try.prog 9 0 (α := ByteArray) fun _ => none)) (nx + 1) (.box 1 [.map nx])) nx (nx + 1 + 1) zs)) (fun zs => namesW (nx + 1 + 1) zs) (fun _ _ (_ : Unit) => False) (fun _ => fun _ => none) (fun _ => 0) (fun x => [(10, .v (.string x.2)), (9, .agg [.v (.int .i64 x.1.ch), .v (.int .i64 x.1.ln), .v (.int .i64 x.1.wd)])]) (all_iter t) rfl rfl (fun _ => rfl) (allP_cl ht) ?_ ?_ (rfl) ?_ (fun _ _ _ h => h.elim) ?_ (fun _ _ _ h => h.elim) (fun lr pre x hx hlen hpre => ?_) (fun _ _ _ _ h => h.elim) ?_
 ·intro pre x
  rfl
 ·exact fun j o h => by
   have h1 := ixG_start hM h
   by_cases e : j = nx
   ·subst e
    rw [setG_same] at h1
    exact (setG_other (by omega)).trans ((setG_same _ _ _).trans h1)
   ·rw [setG_other e] at h1; exact h1
 ·exact fun zs => namesW_le _ _
 ·exact fun zs => ixG_new _ rfl (fun n o h hne => h) hM
 ·have hnle := namesW_le (nx + 1 + 1) pre
  have hkl := keysW_len pre
  have hpl := placesL_len pre x.2
  refine aw_seq_k fun K5 hK5 => ?_
  refine aw_region ?_
  try dsimp only [St.put]
  refine aops_e rfl (e_allocC rfl ?_)
  try dsimp only [St.put]
  refine aops_e rfl (e_store_all rfl rfl rfl zG rfl rfl (by rfl) ?_)
  refine aops_nil ?_
  dsimp only [St.put]
  refine hK5 _ ?_
  refine aw_commitD (i := 4) rfl zG (by first | exact List.cons_ne_nil _ _ | (simp; done) | (simp [putAt]; done)) ?_
  dsimp only
  refine aw_forget (ixG Try.prog 9 43 (setG (setG G nx (gmap Try.prog 9 0 (α := ByteArray) fun _ => none)) (nx + 1) (.box 1 [.map nx])) nx (nx + 1 + 1) pre) (fun j o h => ixG_keep hlt0 h) ?_
  dsimp only
  refine aw_region ?_
  refine aops_n rfl (n_as rfl (by constructor)) ?_
  refine aops_nil ?_
  dsimp only [St.put]
  show AW _ _ _ _ _
  refine aw_block ?_
  by_cases hin : x.2 ∈ keysW pre
  ·refine aw_draw [(0, none), (1, none), (2, none), (3, none), (4, none), (5, none), (6, none), (7, none), (8, none)] (fun i => [8].contains i) (fun i => [6, 7, 8].contains i) (fun i => [1, 3].contains i) [nx, nx + 1] (by kernel_rfl) (by kernel_rfl) ?_
   try dsimp only [St.put]
   refine acan1_s rfl rfl rfl rfl (s_load_box rfl rfl (ixG_box hlb) (by simp) rfl) ?_
   refine acan1_n rfl rfl rfl rfl (n_mv rfl (by constructor)) ?_
   try dsimp only [St.put]
   refine acan1_s rfl rfl rfl rfl (s_load_box rfl rfl (ixG_box hlb) (by simp) rfl) ?_
   refine acan1_n rfl rfl rfl rfl (n_mv rfl (by constructor)) ?_
   try dsimp only [St.put]
   refine acan1_s rfl rfl rfl rfl (s_lookupC (α := ByteArray) x.2 rfl rfl (ixG_map hM) (by simp) rfl (ixN_getD hin)) ?_
   try dsimp only [St.put]
   refine acan1_s rfl rfl rfl rfl (s_load_agg' rfl rfl rfl) ?_
   refine acan1_two ?_
   try dsimp only [St.put]
   refine acan2_e rfl rfl rfl (e_buildSlice rfl rfl rfl (by decide) (by decide) zR (by decide) ⟨sameD_cons (ixG_map hM) (ixG_map hM) rfl (sameD_cons (ixG_box hlb) (ixG_box hlb) rfl sameD_nil), ?_⟩)
   try dsimp only [St.put]
   refine acan2_e rfl rfl rfl (e_append [x.1] rfl rfl (ixG_tip hin) rfl rfl rfl (by simp only [List.length_cons, List.length_nil]; omega) ⟨sameD_cons (ixG_map hM) ((setG_other (by have := tipW_ge (nx + 1 + 1) pre x.2; omega)).trans (ixG_map hM)) rfl (sameD_cons (ixG_box hlb) ((setG_other (by have := tipW_ge (nx + 1 + 1) pre x.2; omega)).trans (ixG_box hlb)) rfl sameD_nil), ?_⟩ (by simp only [List.length_cons, List.length_nil]; omega))
   try dsimp only [St.put]
   refine acan2_late rfl rfl rfl rfl (e_mapUpdate (α := ByteArray) x.2 rfl rfl rfl ((setG_other (by have := tipW_ge (nx + 1 + 1) pre x.2; omega)).trans (ixG_map hM)) rfl (ixN_step_old hin rfl) ?_)
   refine acan2_nil ?_
   dsimp only [St.put]
   first
    | exact ⟨fun j o h => ixG_old hM hin rfl h, by show namesW (nx + 1 + 1) (pre ++ [x]) ≤ namesW (nx + 1 + 1) pre + 1; rw [namesW_old hin]; exact Nat.le_succ _⟩
    | exact ⟨fun j o h => ixG_fresh hlt0 hM hin rfl h, by show namesW (nx + 1 + 1) (pre ++ [x]) ≤ namesW (nx + 1 + 1) pre + 1 + 1; rw [namesW_new hin]; exact Nat.le_refl _⟩
  ·refine aw_draw [(0, none), (1, none), (2, none), (3, none), (4, none), (5, none), (6, none), (7, none), (8, none)] (fun i => [8].contains i) (fun i => [6, 7, 8].contains i) (fun i => [1, 3].contains i) [nx, nx + 1] (by kernel_rfl) (by kernel_rfl) ?_
   try dsimp only [St.put]
   refine acan1_s rfl rfl rfl rfl (s_load_box rfl rfl (ixG_box hlb) (by simp) rfl) ?_
   refine acan1_n rfl rfl rfl rfl (n_mv rfl (by constructor)) ?_
   try dsimp only [St.put]
   refine acan1_s rfl rfl rfl rfl (s_load_box rfl rfl (ixG_box hlb) (by simp) rfl) ?_
   refine acan1_n rfl rfl rfl rfl (n_mv rfl (by constructor)) ?_
   try dsimp only [St.put]
   refine acan1_s rfl rfl rfl rfl (s_lookupC (α := ByteArray) x.2 rfl rfl (ixG_map hM) (by simp) rfl (ixN_getD_new hin)) ?_
   try dsimp only [St.put]
   refine acan1_s rfl rfl rfl rfl (s_load_agg' rfl rfl rfl) ?_
   refine acan1_two ?_
   try dsimp only [St.put]
   refine acan2_e rfl rfl rfl (e_buildSlice rfl rfl rfl (by decide) (by decide) zR (by decide) ⟨sameD_cons (ixG_map hM) (ixG_map hM) rfl (sameD_cons (ixG_box hlb) (ixG_box hlb) rfl sameD_nil), ?_⟩)
   try dsimp only [St.put]
   refine acan2_e rfl rfl rfl (e_adopt 15 43 3 rfl (by decide) (e_append (xs := ([] : List PlaceD)) [x.1] rfl rfl (setG_same _ _ _) rfl rfl rfl (by simp) ⟨sameD_cons (ixG_map hM) ((setG_other (by dsimp only [St.put]; omega)).trans ((setG_other (by dsimp only [St.put]; omega)).trans (ixG_map hM))) rfl (sameD_cons (ixG_box hlb) ((setG_other (by dsimp only [St.put]; omega)).trans ((setG_other (by dsimp only [St.put]; omega)).trans (ixG_box hlb))) rfl sameD_nil), ?_⟩ (by simp)))
   try dsimp only [St.put]
   refine acan2_late rfl rfl rfl rfl (e_mapUpdate (α := ByteArray) x.2 rfl rfl rfl ((setG_other (by omega)).trans ((setG_other (by omega)).trans (ixG_map hM))) rfl (ixN_step_new hin rfl) ?_)
   refine acan2_nil ?_
   dsimp only [St.put]
   first
    | exact ⟨fun j o h => ixG_old hM hin rfl h, by show namesW (nx + 1 + 1) (pre ++ [x]) ≤ namesW (nx + 1 + 1) pre + 1; rw [namesW_old hin]; exact Nat.le_succ _⟩
    | exact ⟨fun j o h => ixG_fresh hlt0 hM hin rfl h, by show namesW (nx + 1 + 1) (pre ++ [x]) ≤ namesW (nx + 1 + 1) pre + 1 + 1; rw [namesW_new hin]; exact Nat.le_refl _⟩
 ·dsimp only
  refine hK3 _ ?_
  refine aw_seq_k fun K6 hK6 => ?_
  refine aw_map_weak (m' := ixF (allP t)) (ixG_map hM) (fun x c h => ixF_weak x c h) (fun x c h => ixF_back x c h) ?_
  refine aw_region ?_
  try dsimp only [St.put]
  refine aops_s rfl (s_load_box rfl rfl ((setG_other (by omega)).trans (ixG_box hlb)) trivial rfl) ?_
  refine aops_n rfl (n_as rfl (by constructor)) ?_
  refine aops_nil ?_
  dsimp only [St.put]
  refine hK6 _ ?_
  refine aw_ret ?_
  refine ends_1 rfl (by constructor) (by have := namesW_le (nx + 1 + 1) (allP t); dsimp only; omega) (fun n o h => by
 by_cases e : n = nx
 ·subst e
  rw [setG_same] at h
  exact (setG_same _ _ _).trans h
 ·rw [setG_other e] at h
  have := hlt n o h
  refine (setG_other e).trans ((ixG_base (by omega) e).trans ((setG_other (by omega)).trans ((setG_other e).trans h)))) ?_
  rfl
end Go.Proofs.Ytejhjijbgceklaa

/-
  What the walks through the program rest on: values, states, steps, calls (MaAlign, MbFound, McWay, LmWays, LpStands).
-/
import Derived.Test.YtejhjijbgceklaaGreatDoorAdFew
import Derived.Test.YtejhjijbgceklaaGreatDoorHaCopy
import Derived.Test.YtejhjijbgceklaaGreatDoorKyCopy
import Derived.Test.YtejhjijbgceklaaGreatDoorGrpU
namespace Go.AB
open Go Go.RowKit
open Go.PB (Chap TextD PlaceD ReadingD CopyD WayD)
/-- a way from line to line, with so many readings -/
inductive Al : List ByteArray → List ByteArray → Nat → Prop
 | nil : Al [] [] 0
 | same (x : ByteArray) {a b : List ByteArray} {n : Nat} : Al a b n → Al (x :: a) (x :: b) n
 | sub (x y : ByteArray) {a b : List ByteArray} {n : Nat} : Al a b n → Al (x :: a) (y :: b) (n + 1)
 | del (x : ByteArray) {a b : List ByteArray} {n : Nat} : Al a b n → Al (x :: a) b (n + 1)
 | ins (y : ByteArray) {a b : List ByteArray} {n : Nat} : Al a b n → Al a (y :: b) (n + 1)
theorem Al.trans {a b : List ByteArray} {m : Nat} (h : Al a b m) : ∀ {c : List ByteArray} {n : Nat}, Al b c n → ∃ k, k ≤ m + n ∧ Al a c k := by
 induction h with
 | nil => intro c n h2; exact ⟨n, by omega, h2⟩
 | @same x a b m _ ih =>
  intro c n h2
  generalize e : x :: b = bb at h2
  induction h2 with
  | nil => cases e
  | same y h3 _ => cases e; obtain ⟨k, h4, h5⟩ := ih h3; exact ⟨k, h4, .same _ h5⟩
  | sub y z h3 _ => cases e; obtain ⟨k, h4, h5⟩ := ih h3; exact ⟨k + 1, by omega, .sub _ z h5⟩
  | del y h3 _ => cases e; obtain ⟨k, h4, h5⟩ := ih h3; exact ⟨k + 1, by omega, .del _ h5⟩
  | ins z _ ih2 => obtain ⟨k, h4, h5⟩ := ih2 e; exact ⟨k + 1, by omega, .ins z h5⟩
 | @sub x y a b m _ ih =>
  intro c n h2
  generalize e : y :: b = bb at h2
  induction h2 with
  | nil => cases e
  | same y h3 _ => cases e; obtain ⟨k, h4, h5⟩ := ih h3; exact ⟨k + 1, by omega, .sub x _ h5⟩
  | sub y z h3 _ => cases e; obtain ⟨k, h4, h5⟩ := ih h3; exact ⟨k + 1, by omega, .sub x z h5⟩
  | del y h3 _ => cases e; obtain ⟨k, h4, h5⟩ := ih h3; exact ⟨k + 1, by omega, .del x h5⟩
  | ins z _ ih2 => obtain ⟨k, h4, h5⟩ := ih2 e; exact ⟨k + 1, by omega, .ins z h5⟩
 | @del x a b m _ ih =>
  intro c n h2
  obtain ⟨k, h4, h5⟩ := ih h2
  exact ⟨k + 1, by omega, .del x h5⟩
 | @ins y a b m _ ih =>
  intro c n h2
  generalize e : y :: b = bb at h2
  induction h2 with
  | nil => cases e
  | same y h3 _ => cases e; obtain ⟨k, h4, h5⟩ := ih h3; exact ⟨k + 1, by omega, .ins _ h5⟩
  | sub y z h3 _ => cases e; obtain ⟨k, h4, h5⟩ := ih h3; exact ⟨k + 1, by omega, .ins z h5⟩
  | del y h3 _ => cases e; obtain ⟨k, h4, h5⟩ := ih h3; exact ⟨k, by omega, h5⟩
  | ins z _ ih2 => obtain ⟨k, h4, h5⟩ := ih2 e; exact ⟨k + 1, by omega, .ins z h5⟩
end Go.AB
namespace Go.AB
open Go Go.RowKit
open Go.PB (Chap TextD PlaceD ReadingD CopyD WayD)
section
variable {a b : List ByteArray} {ch ln : Int}
end
/-! ### The readings of a text's lines -/
section
variable {t u : TextD}
end
end Go.AB
namespace Go.AB
open Go Go.RowKit
open Go.PB (Chap TextD PlaceD ReadingD CopyD WayD)
/-! ### Sums -/
/-! ### A copy's line is a way -/
section
variable {t : TextD} {rs : List ReadingD}
/-! ### How far texts are apart -/
end
section
variable {t u x : TextD}
end
end Go.AB
namespace Go.AB
open Go Go.RowKit
open Go.AB.Enc (cells)
open Go.PB (Chap TextD PlaceD ReadingD CopyD WayD)
theorem alike_iff {t u : TextD} : alikeB t u = true ↔ t.length = u.length ∧ ∀ (k : Nat) (c d : Chap), t[k]? = some c → u[k]? = some d → chapAlike c d = true := by
 unfold alikeB
 rw [Bool.and_eq_true, decide_eq_true_eq, List.all_eq_true]
 constructor
 ·rintro ⟨h1, h2⟩
  exact ⟨h1, fun k c d hc hd => h2 (c, d) (List.mem_of_getElem? (i := k) (List.getElem?_zip_eq_some.2 ⟨hc, hd⟩))⟩
 rintro ⟨h1, h2⟩
 refine ⟨h1, fun p hp => ?_⟩
 obtain ⟨k, hk⟩ := List.getElem?_of_mem hp
 rw [List.getElem?_zip_eq_some] at hk
 exact h2 k _ _ hk.1 hk.2
theorem chapAlike_true {c d : Chap} : chapAlike c d = true ↔ c.id = d.id ∧ c.lines.length = d.lines.length := by unfold chapAlike; rw [Bool.and_eq_true, decide_eq_true_eq, decide_eq_true_eq]
theorem readT_alike (t : TextD) (rs : List ReadingD) : alikeB t (readT t rs) = true := by
 refine alike_iff.2 ⟨(readT_len t rs).symm, fun k c d hc hd => ?_⟩
 rw [readT_at hc] at hd
 cases hd
 exact chapAlike_true.2 ⟨rfl, (readC_len rs k c).symm⟩
end Go.AB
namespace Go.Proofs.YtejhjijbgceklaaGreatDoor
set_option maxRecDepth 10000
open Go.RowKit Go.AB
open Go.AB.Enc (cells)
open Go.PB (Chap TextD PlaceD ReadingD CopyD WayD)
theorem lAlike (t u : TextD) (h : alikeB t u = true) : Pure Tryz.prog 12 [textC t, textC u] (.v (.bool true)) := by
 have := Alike_pure t u
 rwa [h] at this
theorem lRead (n : Nat) (t : TextD) (c : CopyD) (ht : textB t = true) (hc : copyB t c = true) : PureN n kndF Tryz.prog 11 [textC t, val c] (.tup [textC (readT t c.rs), .v (.int .i64 0)]) := by
 have hE : copyEr t c = 0 := copyEr_zero.2 ⟨ht, hc⟩
 have := leafRead_pureN n t c
 rwa [hE, show readTx t c = readT t c.rs by simp [readTx, hE]] at this
end Go.Proofs.YtejhjijbgceklaaGreatDoor
namespace Go.AB
open Go Go.RowKit
open Go.AB.Enc (cells)
open Go.PB (Chap TextD PlaceD ReadingD CopyD WayD)
def isPut (p : PlaceD) (r : ReadingD) : Bool := decide (r.kind = 2) && decide (r.pl = p)
def putsW (rs : List ReadingD) (p : PlaceD) : List ByteArray := (rs.filter (isPut p)).map (·.word)
theorem putsW_nil (p : PlaceD) : putsW [] p = [] := rfl
theorem putsW_step {rs : List ReadingD} {p : PlaceD} {i : Nat} {r : ReadingD} (h : rs[i]? = some r) : putsW (rs.take (i + 1)) p = putsW (rs.take i) p ++ (bif isPut p r then [r.word] else []) := by
 unfold putsW
 rw [List.take_add_one, h, Option.toList_some, List.filter_append, List.map_append]
 cases hp : isPut p r <;> simp [hp]
theorem putsW_len (rs : List ReadingD) (p : PlaceD) : (putsW rs p).length ≤ rs.length := by unfold putsW; rw [List.length_map]; exact List.length_filter_le _ _
/-- what stands where the readings of the place are these -/
def standL (own : ByteArray) (L : List ReadingD) : ByteArray := ((L.find? fun r => !decide (r.kind = 2)).map (·.word)).getD own
theorem stand_list {t : TextD} {own : ByteArray} : ∀ {L : List ReadingD}, (∀ r ∈ L, readingB t r = true) → (∀ (k : Nat) (r : ReadingD), L[k]? = some r → ∀ x ∈ L.take k, x.kind = 2) →
  (progR own L).filter (fun s => !decide (s = ByteArray.empty)) = ((L.filter fun r => decide (r.kind = 2)).map (·.word)) ++ (bif decide (standL own L = ByteArray.empty) then [] else [standL own L])
 | [], _, _ => by
  simp only [progR, standL, List.find?_nil, Option.map_none, Option.getD_none, List.filter_nil, List.map_nil, List.nil_append]
  by_cases h : own = ByteArray.empty <;> simp [h]
 | r :: L, h, hp => by
  obtain ⟨_, _, hk⟩ := readingB_kind (h r (List.mem_cons_self ..))
  have hl : r.kind ≠ 2 → L = [] := fun hne => by
   cases L with
   | nil => rfl
   | cons y L => exact absurd (hp 1 y rfl r (by simp)) hne
  rcases hk with ⟨k1, _, _, k4⟩ | ⟨k1, _, _, k4⟩ | ⟨k1, _, _, k4, _⟩
  ·have hn := hl (by omega)
   subst hn
   simp [progR, standL, k1, k4]
  ·have ih := stand_list (t := t) (own := own) (fun x hx => h x (List.mem_cons_of_mem _ hx)) (fun k x hx y hy => hp (k + 1) x hx y (by rw [List.take_succ_cons]; exact List.mem_cons_of_mem _ hy))
   have e1 : standL own (r :: L) = standL own L := by simp [standL, k1]
   rw [e1]
   simp only [progR, k1, decide_true, cond_true, List.filter_cons, wordB_ne k4, decide_false, Bool.not_false, if_true, ih, List.map_cons, List.cons_append]
  have hn := hl (by omega)
  subst hn
  simp [progR, standL, k1, wordB_ne k4]
theorem stand_cell {t : TextD} {rs : List ReadingD} (hv : rsB t rs = true) (ch ln : Int) (l : List ByteArray) (w : Nat) : cellR rs ch ln l w = putsW rs ⟨ch, ln, w⟩ ++ (bif decide (standR rs ⟨ch, ln, w⟩ (ownW l w) = ByteArray.empty) then [] else [standR rs ⟨ch, ln, w⟩ (ownW l w)]) := by
 obtain ⟨h1, h2⟩ := rsB_true.1 hv
 have e := stand_list (t := t) (own := ownW l w) (L := readsAt rs ⟨ch, ln, w⟩) (fun r hr => h1 r (List.mem_filter.1 hr).1) (fun k r hk => readsAt_puts h2 _ hk)
 have e1 : standL (ownW l w) (readsAt rs ⟨ch, ln, w⟩) = standR rs ⟨ch, ln, w⟩ (ownW l w) := by
  unfold standL standR readsAt
  rw [List.find?_filter, show (fun a : ReadingD => decide (decide (a.pl = ⟨ch, ln, (w : Int)⟩) = true ∧ (!decide (a.kind = 2)) = true)) = fun a => decide (a.pl = ⟨ch, ln, (w : Int)⟩) && !decide (a.kind = 2) from funext fun a => by rw [Bool.eq_iff_iff]; simp]
  cases rs.find? fun a => decide (a.pl = ⟨ch, ln, (w : Int)⟩) && !decide (a.kind = 2) <;> rfl
 have e2 : ((readsAt rs ⟨ch, ln, w⟩).filter fun r => decide (r.kind = 2)).map (·.word) = putsW rs ⟨ch, ln, w⟩ := by
  unfold readsAt putsW isPut
  rw [List.filter_filter]
 rw [cellR_prog hv, e, e1, e2]
theorem stand_end {t : TextD} {rs : List ReadingD} (hv : rsB t rs = true) {k n : Nat} {c : Chap} {l : List ByteArray} (hk : t[k]? = some c) (hn : c.lines[n]? = some l) : cellR rs (k : Int) (n : Int) l l.length = putsW rs ⟨(k : Int), (n : Int), (l.length : Int)⟩ := by
 have hst : standR rs ⟨(k : Int), (n : Int), (l.length : Int)⟩ ByteArray.empty = ByteArray.empty := standR_none fun r hr ⟨h1, h2⟩ => by
  obtain ⟨l', hw, hkk⟩ := readingB_kind ((rsB_true.1 hv).1 r hr)
  rw [h1] at hw hkk
  rw [wordsOf_get hk hn] at hw
  cases hw
  dsimp only at hkk
  rcases hkk with ⟨_, _, h3, _⟩ | ⟨h3, _⟩ | ⟨_, _, h3, _⟩
  ·omega
  ·exact h2 h3
  omega
 rw [stand_cell hv, show ownW l l.length = ByteArray.empty by unfold ownW; rw [List.getElem?_eq_none (Nat.le_refl _)]; rfl, hst]
 simp
theorem allP_in {t : TextD} {k n w : Nat} {c : Chap} {l : List ByteArray} {s : ByteArray} (hk : t[k]? = some c) (hn : c.lines[n]? = some l) (hw : l[w]? = some s) : ((⟨k, n, w⟩, s) : PW) ∈ allP t := by
 obtain ⟨k1, k2⟩ := List.getElem?_eq_some_iff.1 hk
 obtain ⟨n1, n2⟩ := List.getElem?_eq_some_iff.1 hn
 obtain ⟨w1, w2⟩ := List.getElem?_eq_some_iff.1 hw
 refine List.mem_flatten.2 ⟨_, List.mem_mapIdx.2 ⟨k, k1, rfl⟩, List.mem_flatten.2 ⟨_, List.mem_mapIdx.2 ⟨n, by rw [k2]; exact n1, rfl⟩, ?_⟩⟩
 subst k2
 subst n2
 exact List.mem_mapIdx.2 ⟨w, w1, Prod.ext rfl w2⟩
section
variable {P : Program} {o : Oper} {st : St} {K : St → Prop}
/-- What stands in a slot is known less well, ahead of an operation. -/
theorem e_wk (i : Nat) {c : C} (c' : C) (h0 : st.at i = c) (hw : Wk c c') (h : EStep P o { st with r := (i, c') :: st.r } K) : EStep P o st K := by
 intro E w a hs
 have hp := hs.at i
 rw [h0] at hp
 refine h E w a ⟨hs.d, hs.sz, fun j v hj => ?_, hs.g⟩
 simp only [getA]
 cases hb : Nat.beq i j
 ·exact hs.t j v hj
 have hij := Nat.eq_of_beq_eq_true hb
 subst hij
 have hv : a.tmps.getD i undef = v := by rw [Array.getD_eq_getD_getElem?, hj]; rfl
 rw [hv] at hp
 exact hw.2 _ _ _ hp
end
end Go.AB
namespace Go.Proofs.YtejhjijbgceklaaGreatDoor
set_option maxRecDepth 10000
open Go.RowKit Go.AB
open Go.AB.Enc (cells)
open Go.PB (Chap TextD PlaceD ReadingD CopyD WayD)
set_option maxHeartbeats 8000000 in
theorem stands_pureN (t : TextD) (c : CopyD) : PureN 0 kndF Tryz.prog 5 [textC t, val c] (.v (.bool true)) := fun G nx hF hnx => by
 refine pc_named_of_body (G) (nx) Tryz.func5 rfl (.v) zN (fun hlt => zH) ?_
 simp only [Tryz.ntmps5, List.length_cons, List.length_nil, Nat.reduceAdd, Nat.reduceSub]
 refine aw_lt fun hlt => ?_
 dsimp only at hlt
 refine yS fun _ K1 => ?_
 refine yR ?_
 try dsimp only [St.put]
 refine yB rfl rfl rfl ?_
 try dsimp only [St.put]
 refine yB rfl rfl rfl ?_
 refine yA rfl rfl ?_
 refine yN ?_
 dsimp only [St.put]
 refine K1 _ ?_
 refine yS fun _ K2 => ?_
 refine yR ?_
 try dsimp only [St.put]
 refine aops_e rfl (e_call_n rfl rfl rfl (alive_pureN 0) zG (by dsimp only [St.put]; omega) ?_)
 refine yA rfl rfl ?_
 refine yN ?_
 dsimp only [St.put]
 refine K2 _ ?_
 refine yS fun _ K3 => ?_
 refine yS fun _ K4 => ?_
 refine yR ?_
 try dsimp only [St.put]
 refine aops_s rfl (s_load_agg' rfl rfl rfl) ?_
 try dsimp only [St.put]
 refine aops_e rfl (e_call_pure rfl rfl rfl (lawReady_pure t) ?_)
 refine aops_n rfl (n_not rfl rfl) ?_
 refine yM rfl rfl ?_
 refine aops_split (fun hs => ?_) (fun hs => ?_)
 ·skip
  refine yK rfl ?_
  refine yK rfl ?_
  refine yK rfl ?_
  refine yK rfl ?_
  refine aops_n rfl (n_pt rfl rfl (by constructor)) ?_
  refine yM rfl rfl ?_
  refine yK rfl ?_
  refine yK rfl ?_
  refine aops_n rfl (n_pt rfl rfl (by constructor)) ?_
  refine yN ?_
  dsimp only [St.put]
  refine K4 _ ?_
  refine aw_cond rfl (fun _ => ?_) (fun h => by cases h)
  refine yS fun _ K5 => ?_
  refine yR ?_
  refine yM rfl rfl ?_
  refine yA rfl rfl ?_
  refine yN ?_
  dsimp only [St.put]
  refine K5 _ ?_
  refine aw_ret ?_
  refine ends_1 rfl (by constructor) zN zS ?_
  rfl
 have ht : textB t = true := by
  have : readyT t = true := by simpa using hs
  exact (readyT_true.1 this).2
 try dsimp only [St.put]
 refine aops_s rfl (s_load_agg' rfl rfl rfl) ?_
 refine yE rfl rfl rfl ?_
 try dsimp only [St.put]
 refine aops_e rfl (e_call_pure rfl rfl rfl (lawRight_pure t c ht) ?_)
 refine aops_n rfl (n_not rfl rfl) ?_
 refine aops_n rfl (n_pf rfl rfl (by constructor)) ?_
 refine yM rfl rfl ?_
 refine aops_split (fun hs => ?_) (fun hs => ?_)
 ·skip
  refine yK rfl ?_
  refine yK rfl ?_
  refine aops_n rfl (n_pt rfl rfl (by constructor)) ?_
  refine yN ?_
  dsimp only [St.put]
  refine K4 _ ?_
  refine aw_cond rfl (fun _ => ?_) (fun h => by cases h)
  refine yS fun _ K6 => ?_
  refine yR ?_
  refine yM rfl rfl ?_
  refine yA rfl rfl ?_
  refine yN ?_
  dsimp only [St.put]
  refine K6 _ ?_
  refine aw_ret ?_
  refine ends_1 rfl (by constructor) zN zS ?_
  rfl
 have hc2 : copyB t c = true := by
  have : rightC t c = true := by simpa using hs
  exact (rightC_true.1 this).2
 obtain ⟨hid, hl20, hv, hln⟩ := copyB_true.1 hc2
 have hR0 := lRead 0 t c ht hc2
 have hal := readT_alike t c.rs
 obtain ⟨htx1, htx2, htx3⟩ := text_ok ht
 have hxl := readT_len t c.rs
 refine yM rfl rfl ?_
 refine aops_n rfl (n_not rfl rfl) ?_
 refine aops_n rfl (n_pf rfl rfl (by constructor)) ?_
 refine yN ?_
 dsimp only [St.put]
 refine K4 _ ?_
 refine aw_cond rfl (fun h => by cases h) (fun _ => ?_)
 refine aw_skip ?_
 refine K3 _ ?_
 refine yS fun _ K7 => ?_
 refine yR ?_
 try dsimp only [St.put]
 refine aops_s rfl (s_load_agg' rfl rfl rfl) ?_
 refine yE rfl rfl rfl ?_
 try dsimp only [St.put]
 refine aops_e rfl (e_call_n rfl rfl rfl hR0 zG (by dsimp only [St.put]; omega) ?_)
 refine yM rfl rfl ?_
 refine yX rfl rfl rfl rfl ?_
 refine yX rfl rfl rfl rfl ?_
 try dsimp only [St.put]
 refine aops_e rfl (e_allocC rfl ?_)
 try dsimp only [St.put]
 refine aops_e rfl (e_store_all rfl rfl rfl zG rfl rfl (by rfl) ?_)
 refine yA rfl rfl ?_
 refine yN ?_
 dsimp only [St.put]
 refine K7 _ ?_
 refine aw_commitD (i := 6) rfl zG (by first | exact List.cons_ne_nil _ _ | (simp; done) | (simp [putAt]; done)) ?_
 dsimp only
 refine yS fun _ K8 => ?_
 refine yS fun _ K9 => ?_
 refine yR ?_
 refine yM rfl rfl ?_
 refine aops_n rfl (n_bool (c := false) (n_neq rfl rfl rfl) (not_dec_f rfl)) ?_
 refine yM rfl rfl ?_
 try dsimp only [St.put]
 refine aops_s rfl (s_load_agg' rfl rfl rfl) ?_
 try dsimp only [St.put]
 refine aops_s rfl (s_load_agg' rfl rfl rfl) ?_
 try dsimp only [St.put]
 refine aops_e rfl (e_call_pure rfl rfl rfl (lAlike t (readT t c.rs) hal) ?_)
 refine aops_n rfl (n_not rfl rfl) ?_
 refine aops_n rfl (n_pf rfl rfl (by constructor)) ?_
 refine yN ?_
 dsimp only [St.put]
 refine K9 _ ?_
 refine aw_cond rfl (fun h => by cases h) (fun _ => ?_)
 refine aw_skip ?_
 refine K8 _ ?_
 refine yS fun _ K10 => ?_
 refine yS fun _ K11 => ?_
 refine yR ?_
 refine yF rfl rfl rfl rfl ?_
 refine yL rfl rfl rfl ?_
 refine aops_n rfl (n_len' rfl rfl (List.length_map _)) ?_
 refine yM rfl rfl ?_
 refine yN ?_
 dsimp only [St.put]
 refine K11 _ ?_
 refine aw_block ?_
 refine aw_wipe 51 ?_
 simp only [firsts, getA, Nat.reduceAdd, List.getD_cons_zero, List.getD_cons_succ, List.getD_nil, natBeq, Nat.reduceBEq, cond_true, cond_false]
 refine aw_forget (G) zX ?_
 dsimp only
 refine aw_loopD (X := Nat) (fun k => k ≤ t.length) (fun k => t.length - k) (fun k => [(8, .any), (9, .any), (10, .any), (11, .any), (12, .any), (13, .any), (15, .any), (16, .any), (17, .any), (50, .v (.int .i64 (k : Int)))]) (fun k G' => G') 0 rfl ?_ ?_ (fun _ _ h => h) ?_ ?_ ?_
 ·exact Nat.zero_le _
 ·exact zF
 ·rintro k hI
  exact zL
 ·exact fun _ _ _ _ h => .inl h
 rintro k hI
 dsimp only at hI ⊢
 refine yS fun _ K12 => ?_
 refine yR ?_
 refine aops_n rfl (n_lss rfl rfl rfl) ?_
 refine yN ?_
 dsimp only [St.put]
 refine K12 _ ?_
 refine yS fun _ K13 => ?_
 refine aw_cond rfl (fun hc => ?_) (fun hc => ?_)
 ·replace hc := of_decide_eq_true hc
  obtain ⟨x, hk⟩ : ∃ x, t[k]? = some x := some_of_lt (by omega)
  have hxc := htx3 x (mem_of_get hk)
  have hkl := (List.getElem?_eq_some_iff.1 hk).1
  have hxk := readT_at (rs := c.rs) hk
  refine aw_skip ?_
  refine K13 _ ?_
  refine yS fun _ K14 => ?_
  refine aw_block ?_
  refine yS fun _ K15 => ?_
  refine yR ?_
  refine yM rfl rfl ?_
  refine aops_n rfl (n_indexAddr rfl rfl rfl rfl (map_get (by assumption)) (Enc.len _)) ?_
  refine yE rfl rfl rfl ?_
  try dsimp only [St.put]
  refine aops_e rfl (e_allocC rfl ?_)
  refine yA rfl rfl ?_
  try dsimp only [St.put]
  refine aops_e rfl (e_store_all rfl rfl rfl zG rfl rfl (by rfl) ?_)
  refine yN ?_
  dsimp only [St.put]
  refine K15 _ ?_
  refine aw_commitD (i := 9) rfl zG (by first | exact List.cons_ne_nil _ _ | (simp; done) | (simp [putAt]; done)) ?_
  dsimp only
  refine yS fun _ K16 => ?_
  refine yR ?_
  refine yF rfl rfl rfl rfl ?_
  refine yL rfl rfl rfl ?_
  refine aops_n rfl (n_len' rfl rfl (List.length_map _)) ?_
  refine yM rfl rfl ?_
  refine yN ?_
  dsimp only [St.put]
  refine K16 _ ?_
  refine aw_block ?_
  refine aw_wipe 59 ?_
  simp only [firsts, getA, Nat.reduceAdd, List.getD_cons_zero, List.getD_cons_succ, List.getD_nil, natBeq, Nat.reduceBEq, cond_true, cond_false]
  refine aw_forget (G) zX ?_
  dsimp only
  refine aw_loopD (X := Nat) (fun n => n ≤ x.lines.length) (fun n => x.lines.length - n) (fun n => [(10, .any), (11, .any), (12, .any), (13, .any), (15, .any), (16, .any), (17, .any), (58, .v (.int .i64 (n : Int)))]) (fun n G' => G') 0 rfl ?_ ?_ (fun _ _ h => h) ?_ ?_ ?_
  ·exact Nat.zero_le _
  ·exact zF
  ·rintro n hI
   exact zL
  ·exact fun _ _ _ _ h => .inl h
  rintro n hJ
  dsimp only at hJ ⊢
  refine yS fun _ K17 => ?_
  refine yR ?_
  refine aops_n rfl (n_lss rfl rfl rfl) ?_
  refine yN ?_
  dsimp only [St.put]
  refine K17 _ ?_
  refine yS fun _ K18 => ?_
  refine aw_cond rfl (fun hc => ?_) (fun hc => ?_)
  ·replace hc := of_decide_eq_true hc
   obtain ⟨l, hn⟩ : ∃ y, x.lines[n]? = some y := some_of_lt (by omega)
   have hll := hxc.2.2 l (mem_of_get hn)
   have hnl := (List.getElem?_eq_some_iff.1 hn).1
   have hxn := readC_lines (rs := c.rs) (k := k) hn
   refine aw_skip ?_
   refine K18 _ ?_
   refine yS fun _ K19 => ?_
   refine aw_block ?_
   refine yS fun _ K20 => ?_
   refine yR ?_
   refine yM rfl rfl ?_
   refine aops_n rfl (n_indexAddr rfl rfl rfl rfl (map_get (by assumption)) (Enc.len _)) ?_
   refine yL rfl rfl rfl ?_
   refine yA rfl rfl ?_
   refine yA rfl rfl ?_
   refine yN ?_
   dsimp only [St.put]
   refine K20 _ ?_
   refine yS fun _ K21 => ?_
   refine yR ?_
   refine yA rfl rfl ?_
   refine yN ?_
   dsimp only [St.put]
   refine K21 _ ?_
   refine aw_adopt 12 9 1 rfl (by decide) ?_
   dsimp only [List.set_cons_zero, List.set_cons_succ]
   refine yS fun _ K22 => ?_
   refine yS fun _ K23 => ?_
   refine yR ?_
   refine yM rfl rfl ?_
   refine aops_n rfl (n_len' rfl rfl (List.length_map _)) ?_
   refine aops_n rfl (n_add rfl rfl rfl (by omega)) ?_
   refine yM rfl rfl ?_
   refine yN ?_
   dsimp only [St.put]
   refine K23 _ ?_
   refine aw_block ?_
   refine aw_wipe 67 ?_
   simp only [firsts, getA, Nat.reduceAdd, List.getD_cons_zero, List.getD_cons_succ, List.getD_nil, natBeq, Nat.reduceBEq, cond_true, cond_false]
   refine aw_forget ((setG G (nx + 1 + 1) (.tip (([] : List ByteArray)).length 9 1))) zX ?_
   dsimp only
   refine aw_loopD (X := Nat) (fun w => w ≤ l.length + 1) (fun w => l.length + 1 - w) (fun w => [(12, .list (((lineR c.rs (k : Int) (n : Int) l w)).map cells) (.tip (nx + 1 + 1))), (13, .any), (15, .any), (16, .any), (17, .any), (66, .v (.int .i64 (w : Int)))]) (fun w G' => (setG G (nx + 1 + 1) (.tip (lineR c.rs (k : Int) (n : Int) l w).length 9 1))) 0 rfl ?_ ?_ ?_ ?_ ?_ ?_
   ·exact Nat.zero_le _
   ·exact zF
   ·exact zX
   ·rintro w hI
    exact zL
   ·rintro w hI
    exact zH
   rintro w hW
   dsimp only at hW ⊢
   refine yS fun _ K24 => ?_
   refine yR ?_
   refine aops_n rfl (n_lss rfl rfl rfl) ?_
   refine yN ?_
   dsimp only [St.put]
   refine K24 _ ?_
   refine yS fun _ K25 => ?_
   refine aw_cond rfl (fun hc => ?_) (fun hc => ?_)
   ·replace hc := of_decide_eq_true hc
    have hpl := lineR_len c.rs (k : Int) (n : Int) l w
    obtain ⟨P, hP⟩ : ∃ P, lineR c.rs (k : Int) (n : Int) l w = P := ⟨_, rfl⟩
    rw [hP] at hpl ⊢
    have hpl2 : P.length ≤ 11 * 21 := Nat.le_trans hpl (Nat.mul_le_mul (by omega) (by omega))
    have hpw2 := putsW_len c.rs ((⟨(k : Int), (n : Int), (w : Int)⟩ : PlaceD))
    refine aw_skip ?_
    refine K25 _ ?_
    refine yS fun _ K26 => ?_
    refine aw_block ?_
    refine yS fun _ K27 => ?_
    refine yR ?_
    refine yM rfl rfl ?_
    refine yA rfl rfl ?_
    refine yN ?_
    dsimp only [St.put]
    refine K27 _ ?_
    refine yS fun _ K28 => ?_
    refine yS fun _ K29 => ?_
    refine yR ?_
    refine yF rfl rfl rfl rfl ?_
    refine yL rfl rfl rfl ?_
    refine aops_n rfl (n_len' rfl rfl (List.length_map _)) ?_
    refine yM rfl rfl ?_
    refine yN ?_
    dsimp only [St.put]
    rw [show P = P ++ putsW (c.rs.take 0) ((⟨(k : Int), (n : Int), (w : Int)⟩ : PlaceD)) by rw [List.take_zero, putsW_nil, List.append_nil]]
    refine K29 _ ?_
    refine aw_block ?_
    refine aw_wipe 73 ?_
    simp only [firsts, getA, Nat.reduceAdd, List.getD_cons_zero, List.getD_cons_succ, List.getD_nil, natBeq, Nat.reduceBEq, cond_true, cond_false]
    refine aw_forget ((setG G (nx + 1 + 1) (.tip ((P ++ putsW (c.rs.take 0) ((⟨(k : Int), (n : Int), (w : Int)⟩ : PlaceD)))).length 9 1))) zX ?_
    dsimp only
    refine aw_loopD (X := Nat) (fun i => i ≤ c.rs.length) (fun i => c.rs.length - i) (fun i => [(12, .list ((P ++ putsW (c.rs.take i) ((⟨(k : Int), (n : Int), (w : Int)⟩ : PlaceD))).map cells) (.tip (nx + 1 + 1))), (15, .any), (72, .v (.int .i64 (i : Int)))]) (fun i G' => (setG G (nx + 1 + 1) (.tip ((P ++ putsW (c.rs.take i) ((⟨(k : Int), (n : Int), (w : Int)⟩ : PlaceD)))).length 9 1))) 0 rfl ?_ ?_ ?_ ?_ ?_ ?_
    ·exact Nat.zero_le _
    ·exact zF
    ·exact zX
    ·rintro i hI
     exact zL
    ·rintro i hI
     exact zH
    rintro i hJ
    dsimp only at hJ ⊢
    refine yS fun _ K30 => ?_
    refine yR ?_
    refine aops_n rfl (n_lss rfl rfl rfl) ?_
    refine yN ?_
    dsimp only [St.put]
    refine K30 _ ?_
    refine yS fun _ K31 => ?_
    refine aw_cond rfl (fun hc => ?_) (fun hc => ?_)
    ·replace hc := of_decide_eq_true hc
     obtain ⟨r, hr⟩ : ∃ r, c.rs[i]? = some r := some_of_lt (by omega)
     have hpw := putsW_len (c.rs.take i) ((⟨(k : Int), (n : Int), (w : Int)⟩ : PlaceD))
     rw [List.length_take] at hpw
     refine aw_skip ?_
     refine K31 _ ?_
     refine yS fun _ K32 => ?_
     refine aw_block ?_
     refine yS fun _ K33 => ?_
     refine yR ?_
     refine aops_n rfl (n_indexAddr rfl rfl rfl rfl (map_get (by assumption)) (Enc.len _)) ?_
     refine yE rfl rfl rfl ?_
     try dsimp only [St.put]
     refine aops_e rfl (e_allocC rfl ?_)
     try dsimp only [St.put]
     refine aops_e rfl (e_store_all rfl rfl rfl zG rfl rfl (by rfl) ?_)
     refine yN ?_
     dsimp only [St.put]
     refine K33 _ ?_
     refine aw_commitD (i := 15) rfl zG (by first | exact List.cons_ne_nil _ _ | (simp; done) | (simp [putAt]; done)) ?_
     dsimp only
     refine aw_wipe 73 ?_
     simp only [firsts, getA, Nat.reduceAdd, List.getD_cons_zero, List.getD_cons_succ, List.getD_nil, natBeq, Nat.reduceBEq, cond_true, cond_false]
     refine aw_cutD (X := Bool) (fun b => isPut ((⟨(k : Int), (n : Int), (w : Int)⟩ : PlaceD)) r = b) (fun b => [(87, .v (.bool b))]) (fun b G' => G') rfl ?_ (fun _ _ _ _ h => .inl h) ?_ ?_
     ·rintro b hI
      exact zL
     ·refine aw_draw [(0, none), (1, none), (2, none), (3, none), (4, none), (5, none), (6, none), (7, none), (8, none), (9, none), (10, none), (11, none)] (fun i => [].contains i) (fun i => [9].contains i) (fun i => [0, 2, 3, 4, 6, 7, 8, 10, 11].contains i) [] (by kernel_rfl) (by kernel_rfl) ?_
      refine acan1_n rfl rfl rfl rfl (n_fieldAddr' rfl rfl rfl) ?_
      try dsimp only [St.put]
      refine acan1_s rfl rfl rfl rfl (s_load rfl rfl) ?_
      refine acan1_n rfl rfl rfl rfl (n_eql rfl rfl rfl) ?_
      refine xM rfl rfl rfl rfl rfl ?_
      refine acan1_split (fun hs => ?_) (fun hs => ?_)
      ·have s1 : r.kind = 2 := of_decide_eq_true hs
       refine acan1_n rfl rfl rfl rfl (n_fieldAddr' rfl rfl rfl) ?_
       try dsimp only [St.put]
       refine acan1_s rfl rfl rfl rfl (c := val r.pl) (s_load_agg (cs := cells r) rfl rfl (show 3 ≤ 5 by decide)) ?_
       refine xM rfl rfl rfl rfl rfl ?_
       refine xM rfl rfl rfl rfl rfl ?_
       refine xM rfl rfl rfl rfl rfl ?_
       refine acan1_two ?_
       try dsimp only [St.put]
       refine acan2_e rfl rfl rfl (e_call_pure rfl rfl rfl (lawAt_pure _ _ _) ⟨zD, ?_⟩)
       refine acan2_n rfl rfl rfl rfl (n_agg_eql (x := r.pl) (y := ((⟨(k : Int), (n : Int), (w : Int)⟩ : PlaceD))) rfl rfl rfl) ?_
       refine acan2_n rfl rfl rfl rfl (n_pt rfl rfl (by constructor)) ?_
       refine acan2_nil ?_
       dsimp only [St.put]
       refine ⟨_, ?_, ⟨⟨rfl, rfl⟩, zF, zB, zN, zX⟩⟩
       first
       | (have q : r.kind = 2 := s1
          simp [isPut, q]; done)
       | (have q : ¬ r.kind = 2 := s1
          simp [isPut, q]; done)
      have s1 : ¬ r.kind = 2 := of_decide_eq_false hs
      refine acan1_skip rfl rfl rfl ?_
      refine acan1_skip rfl rfl rfl ?_
      refine acan1_skip rfl rfl rfl ?_
      refine acan1_skip rfl rfl rfl ?_
      refine acan1_skip rfl rfl rfl ?_
      refine acan1_two ?_
      refine acan2_skipE rfl rfl rfl ?_
      refine acan2_skip rfl rfl rfl ?_
      refine acan2_n rfl rfl rfl rfl (n_pf rfl rfl (by constructor)) ?_
      refine acan2_nil ?_
      dsimp only [St.put]
      refine ⟨_, ?_, ⟨⟨rfl, rfl⟩, zF, zB, zN, zX⟩⟩
      first
      | (have q : r.kind = 2 := s1
         simp [isPut, q]; done)
      | (have q : ¬ r.kind = 2 := s1
         simp [isPut, q]; done)
     rintro b hst
     dsimp only at hst ⊢
     refine aw_cond rfl (fun hc => ?_) (fun hc => ?_)
     ·have hb : isPut ((⟨(k : Int), (n : Int), (w : Int)⟩ : PlaceD)) r = true := hst.trans hc
      refine yR ?_
      refine yM rfl rfl ?_
      refine yF rfl rfl rfl rfl ?_
      refine yL rfl rfl rfl ?_
      try dsimp only [St.put]
      refine aops_e rfl (e_buildSlice rfl rfl rfl (by decide) (by decide) zR (by decide) ?_)
      try dsimp only [St.put]
      refine aops_e rfl (e_append ([r.word]) rfl rfl zG (by first | rfl | simp) rfl rfl zA ?_ zA)
      refine yA rfl rfl ?_
      refine yN ?_
      dsimp only [St.put]
      refine K32 _ ?_
      refine yR ?_
      refine aops_n rfl (n_add rfl rfl rfl (by omega)) ?_
      refine yM rfl rfl ?_
      refine yN ?_
      dsimp only [St.put]
      have e3 := putsW_step (p := ((⟨(k : Int), (n : Int), (w : Int)⟩ : PlaceD))) hr
      first
      | (have q : isPut ((⟨(k : Int), (n : Int), (w : Int)⟩ : PlaceD)) r = true := hb
         rw [q, cond_true] at e3
         rw [List.append_assoc, ← e3]
         exact ⟨i + 1, by omega, by omega, ⟨⟨rfl, rfl⟩, zF, zB, zN, zX⟩⟩)
      | (have q : isPut ((⟨(k : Int), (n : Int), (w : Int)⟩ : PlaceD)) r = false := hb
         rw [q, cond_false, List.append_nil] at e3
         rw [← e3]
         exact ⟨i + 1, by omega, by omega, ⟨⟨rfl, rfl⟩, zF, zB, zN, zX⟩⟩)
     have hb : isPut ((⟨(k : Int), (n : Int), (w : Int)⟩ : PlaceD)) r = false := hst.trans hc
     refine aw_skip ?_
     refine K32 _ ?_
     refine yR ?_
     refine aops_n rfl (n_add rfl rfl rfl (by omega)) ?_
     refine yM rfl rfl ?_
     refine yN ?_
     dsimp only [St.put]
     have e3 := putsW_step (p := ((⟨(k : Int), (n : Int), (w : Int)⟩ : PlaceD))) hr
     first
     | (have q : isPut ((⟨(k : Int), (n : Int), (w : Int)⟩ : PlaceD)) r = true := hb
        rw [q, cond_true] at e3
        rw [List.append_assoc, ← e3]
        exact ⟨i + 1, by omega, by omega, ⟨⟨rfl, rfl⟩, zF, zB, zN, zX⟩⟩)
     | (have q : isPut ((⟨(k : Int), (n : Int), (w : Int)⟩ : PlaceD)) r = false := hb
        rw [q, cond_false, List.append_nil] at e3
        rw [← e3]
        exact ⟨i + 1, by omega, by omega, ⟨⟨rfl, rfl⟩, zF, zB, zN, zX⟩⟩)
    replace hc := of_decide_eq_false hc
    obtain rfl : i = c.rs.length := by omega
    refine aw_exit ?_
    refine K28 _ ?_
    refine yS fun _ K35 => ?_
    refine yS fun _ K36 => ?_
    refine yR ?_
    refine yM rfl rfl ?_
    refine yM rfl rfl ?_
    refine aops_n rfl (n_len' rfl rfl (List.length_map _)) ?_
    refine aops_n rfl (n_eql rfl rfl rfl) ?_
    refine yN ?_
    dsimp only [St.put]
    rw [List.take_length]
    refine K36 _ ?_
    refine aw_cond rfl (fun hc => ?_) (fun hc => ?_)
    ·have hend : w = l.length := by
      have := of_decide_eq_true hc
      omega
     refine aw_exit ?_
     refine K26 _ ?_
     refine yR ?_
     refine aops_n rfl (n_add rfl rfl rfl (by omega)) ?_
     refine yM rfl rfl ?_
     refine yN ?_
     dsimp only [St.put]
     have e2 := lineR_succ c.rs (k : Int) (n : Int) l w
     rw [hP] at e2
     first
     | (have q : w = l.length := hend
        rw [show cellR c.rs (k : Int) (n : Int) l w = putsW c.rs ((⟨(k : Int), (n : Int), (w : Int)⟩ : PlaceD)) by rw [q]; exact stand_end hv hk hn] at e2
        rw [← e2]
        exact ⟨w + 1, by omega, by omega, ⟨⟨rfl, rfl⟩, zF, zB, zN, zX⟩⟩)
     | (have q : ¬ standR c.rs ((⟨(k : Int), (n : Int), (w : Int)⟩ : PlaceD)) own = ByteArray.empty := hS
        rw [stand_cell hv, hown, decide_eq_false q, cond_false, ← List.append_assoc] at e2
        rw [← e2]
        exact ⟨w + 1, by omega, by omega, ⟨⟨rfl, rfl⟩, zF, zB, zN, zX⟩⟩)
     | (have q : standR c.rs ((⟨(k : Int), (n : Int), (w : Int)⟩ : PlaceD)) own = ByteArray.empty := hS
        rw [stand_cell hv, hown, decide_eq_true q, cond_true, List.append_nil] at e2
        rw [← e2]
        exact ⟨w + 1, by omega, by omega, ⟨⟨rfl, rfl⟩, zF, zB, zN, zX⟩⟩)
    have hne := of_decide_eq_false hc
    obtain ⟨own, hxo⟩ : ∃ s, l[w]? = some s := some_of_lt (by omega)
    have hown := ownW_in hxo
    have hxm := allP_in hk hn hxo
    refine aw_skip ?_
    refine K35 _ ?_
    refine yS fun _ K37 => ?_
    refine aw_draw [(0, none), (1, none), (2, none), (3, none), (4, none), (5, none), (6, none), (7, none), (8, none), (9, none), (10, none), (11, none)] (fun i => [6].contains i) (fun i => [5, 6].contains i) (fun i => [2, 3, 4, 7, 8, 9, 10, 11].contains i) [] (by kernel_rfl) (by kernel_rfl) ?_
    try dsimp only [St.put]
    refine acan1_s rfl rfl rfl rfl (s_load_agg' rfl rfl rfl) ?_
    try dsimp only [St.put]
    refine acan1_s rfl rfl rfl rfl (s_load_agg' rfl rfl (Enc.len _)) ?_
    refine xM rfl rfl rfl rfl rfl ?_
    refine xM rfl rfl rfl rfl rfl ?_
    refine xM rfl rfl rfl rfl rfl ?_
    refine acan1_two ?_
    try dsimp only [St.put]
    refine acan2_e rfl rfl rfl (e_call_pure rfl rfl rfl (lawAt_pure _ _ _) ⟨zD, ?_⟩)
    try dsimp only [St.put]
    refine acan2_late rfl rfl rfl rfl (e_call_n rfl rfl rfl (lStands 0 t c ht hc2 hxm) zG (by dsimp only [St.put]; omega) ?_)
    refine acan2_n rfl rfl rfl rfl (n_mv rfl (by constructor)) ?_
    refine acan2_n rfl rfl rfl rfl (n_extract rfl rfl rfl) ?_
    refine acan2_n rfl rfl rfl rfl (n_extract rfl rfl rfl) ?_
    refine acan2_n rfl rfl rfl rfl (n_as rfl (by constructor)) ?_
    refine acan2_n rfl rfl rfl rfl (n_as rfl (by constructor)) ?_
    refine acan2_nil ?_
    dsimp only [St.put]
    refine K37 _ ?_
    refine yS fun _ K38 => ?_
    refine yS fun _ K39 => ?_
    refine yR ?_
    refine yM rfl rfl ?_
    refine aops_n rfl (n_bool (c := false) (n_neq rfl rfl rfl) (not_dec_f rfl)) ?_
    refine yN ?_
    dsimp only [St.put]
    refine K39 _ ?_
    refine aw_cond rfl (fun h => by cases h) (fun _ => ?_)
    refine aw_skip ?_
    refine K38 _ ?_
    refine yS fun _ K40 => ?_
    refine yR ?_
    refine yM rfl rfl ?_
    refine aops_n rfl (n_strne rfl rfl rfl) ?_
    refine yN ?_
    dsimp only [St.put]
    refine K40 _ ?_
    refine aw_cond rfl (fun hc => ?_) (fun hc => ?_)
    ·have hS : ¬ standR c.rs ((⟨(k : Int), (n : Int), (w : Int)⟩ : PlaceD)) own = ByteArray.empty := by
      have h9 : ¬ standR c.rs ((⟨(k : Int), (n : Int), (w : Int)⟩ : PlaceD)) own = (⟨#[]⟩ : ByteArray) := by simpa using hc
      exact h9
     refine yR ?_
     refine yM rfl rfl ?_
     refine yM rfl rfl ?_
     try dsimp only [St.put]
     refine aops_e rfl (e_buildSlice rfl rfl rfl (by decide) (by decide) zR (by decide) ?_)
     try dsimp only [St.put]
     refine aops_e rfl (e_append ([standR c.rs ((⟨(k : Int), (n : Int), (w : Int)⟩ : PlaceD)) own]) rfl rfl zG (by first | rfl | simp) rfl rfl zA ?_ zA)
     refine yA rfl rfl ?_
     refine yN ?_
     dsimp only [St.put]
     refine K26 _ ?_
     refine yR ?_
     refine aops_n rfl (n_add rfl rfl rfl (by omega)) ?_
     refine yM rfl rfl ?_
     refine yN ?_
     dsimp only [St.put]
     have e2 := lineR_succ c.rs (k : Int) (n : Int) l w
     rw [hP] at e2
     first
     | (have q : w = l.length := hend
        rw [show cellR c.rs (k : Int) (n : Int) l w = putsW c.rs ((⟨(k : Int), (n : Int), (w : Int)⟩ : PlaceD)) by rw [q]; exact stand_end hv hk hn] at e2
        rw [← e2]
        exact ⟨w + 1, by omega, by omega, ⟨⟨rfl, rfl⟩, zF, zB, zN, zX⟩⟩)
     | (have q : ¬ standR c.rs ((⟨(k : Int), (n : Int), (w : Int)⟩ : PlaceD)) own = ByteArray.empty := hS
        rw [stand_cell hv, hown, decide_eq_false q, cond_false, ← List.append_assoc] at e2
        rw [← e2]
        exact ⟨w + 1, by omega, by omega, ⟨⟨rfl, rfl⟩, zF, zB, zN, zX⟩⟩)
     | (have q : standR c.rs ((⟨(k : Int), (n : Int), (w : Int)⟩ : PlaceD)) own = ByteArray.empty := hS
        rw [stand_cell hv, hown, decide_eq_true q, cond_true, List.append_nil] at e2
        rw [← e2]
        exact ⟨w + 1, by omega, by omega, ⟨⟨rfl, rfl⟩, zF, zB, zN, zX⟩⟩)
    have hS : standR c.rs ((⟨(k : Int), (n : Int), (w : Int)⟩ : PlaceD)) own = ByteArray.empty := by
     have h9 : standR c.rs ((⟨(k : Int), (n : Int), (w : Int)⟩ : PlaceD)) own = (⟨#[]⟩ : ByteArray) := by simpa using hc
     exact h9
    refine aw_skip ?_
    refine K26 _ ?_
    refine yR ?_
    refine aops_n rfl (n_add rfl rfl rfl (by omega)) ?_
    refine yM rfl rfl ?_
    refine yN ?_
    dsimp only [St.put]
    have e2 := lineR_succ c.rs (k : Int) (n : Int) l w
    rw [hP] at e2
    first
    | (have q : w = l.length := hend
       rw [show cellR c.rs (k : Int) (n : Int) l w = putsW c.rs ((⟨(k : Int), (n : Int), (w : Int)⟩ : PlaceD)) by rw [q]; exact stand_end hv hk hn] at e2
       rw [← e2]
       exact ⟨w + 1, by omega, by omega, ⟨⟨rfl, rfl⟩, zF, zB, zN, zX⟩⟩)
    | (have q : ¬ standR c.rs ((⟨(k : Int), (n : Int), (w : Int)⟩ : PlaceD)) own = ByteArray.empty := hS
       rw [stand_cell hv, hown, decide_eq_false q, cond_false, ← List.append_assoc] at e2
       rw [← e2]
       exact ⟨w + 1, by omega, by omega, ⟨⟨rfl, rfl⟩, zF, zB, zN, zX⟩⟩)
    | (have q : standR c.rs ((⟨(k : Int), (n : Int), (w : Int)⟩ : PlaceD)) own = ByteArray.empty := hS
       rw [stand_cell hv, hown, decide_eq_true q, cond_true, List.append_nil] at e2
       rw [← e2]
       exact ⟨w + 1, by omega, by omega, ⟨⟨rfl, rfl⟩, zF, zB, zN, zX⟩⟩)
   replace hc := of_decide_eq_false hc
   obtain rfl : w = l.length + 1 := by omega
   refine aw_exit ?_
   refine K22 _ ?_
   refine yS fun _ K41 => ?_
   refine yR ?_
   refine yM rfl rfl ?_
   refine yF rfl rfl rfl rfl ?_
   refine yL rfl rfl rfl ?_
   refine yM rfl rfl ?_
   refine aops_n rfl (n_indexAddr rfl rfl rfl rfl (map_get (by assumption)) (Enc.len _)) ?_
   refine yF rfl rfl rfl rfl ?_
   refine yL rfl rfl rfl ?_
   refine yM rfl rfl ?_
   refine aops_n rfl (n_indexAddr rfl rfl rfl rfl (map_get (by assumption)) (Enc.len _)) ?_
   refine yL rfl rfl rfl ?_
   try dsimp only [St.put]
   refine aops_e rfl (e_wk 117 (lst (readL c.rs (k : Int) (n : Int) l)) rfl Wk.tok (e_call_pure rfl rfl rfl (lSameW _) ?_))
   refine aops_n rfl (n_not rfl rfl) ?_
   refine yN ?_
   dsimp only [St.put]
   refine K41 _ ?_
   refine aw_cond rfl (fun h => by cases h) (fun _ => ?_)
   refine aw_skip ?_
   refine K19 _ ?_
   refine yR ?_
   refine aops_n rfl (n_add rfl rfl rfl (by omega)) ?_
   refine yM rfl rfl ?_
   refine yN ?_
   dsimp only [St.put]
   exact ⟨n + 1, by omega, by omega, ⟨⟨rfl, rfl⟩, zF, zB, zN, zX⟩⟩
  try replace hc := of_decide_eq_false hc
  refine aw_exit ?_
  refine K14 _ ?_
  refine yR ?_
  refine aops_n rfl (n_add rfl rfl rfl (by omega)) ?_
  refine yM rfl rfl ?_
  refine yN ?_
  dsimp only [St.put]
  exact ⟨k + 1, by omega, by omega, ⟨⟨rfl, rfl⟩, zF, zB, zN, zX⟩⟩
 try replace hc := of_decide_eq_false hc
 refine aw_exit ?_
 refine K10 _ ?_
 refine yS fun _ K42 => ?_
 refine yR ?_
 refine yM rfl rfl ?_
 refine yA rfl rfl ?_
 refine yN ?_
 dsimp only [St.put]
 refine K42 _ ?_
 refine aw_ret ?_
 refine ends_1 rfl (by constructor) zN zS ?_
 rfl
end Go.Proofs.YtejhjijbgceklaaGreatDoor

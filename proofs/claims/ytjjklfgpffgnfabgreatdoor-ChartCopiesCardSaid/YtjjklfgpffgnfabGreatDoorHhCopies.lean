/-
 The law ChartCopies: a copy has the lines of its base; its walk.
-/
import Derived.Test.YtjjklfgpffgnfabGreatDoorGrpG
import Derived.Test.YtjjklfgpffgnfabGreatDoorHgRight
namespace Go.AB
open Go Go.RowKit
open Go.AB.Enc (cells)
open Go.PB (bh af PlaceD ar bp cj)
section
variable {t : af} {rs : List ar} {e : aw}
/-! ### The words of a copy -/
theorem ua7 {own s : ByteArray} : ∀ {l : List ar}, s ∈ fk own l → s = own ∨ ∃ r ∈ l, s = r.word
 | [], h => by simp [fk] at h; exact .inl h
 | r :: l, h => by
  rw [fk] at h
  by_cases h2 : r.kind = 2
  ·rw [decide_eq_true h2, cond_true] at h
   rcases List.mem_cons.1 h with rfl | h
   ·exact .inr ⟨r, List.mem_cons_self .., rfl⟩
   rcases ua7 h with h | ⟨x, hx, hs⟩
   ·exact .inl h
   exact .inr ⟨x, List.mem_cons_of_mem _ hx, hs⟩
  rw [decide_eq_false h2, cond_false] at h
  by_cases h1 : r.kind = 1
  ·rw [decide_eq_true h1] at h; cases h
  rw [decide_eq_false h1, cond_false, List.mem_singleton] at h
  exact .inr ⟨r, List.mem_cons_self .., h⟩
theorem ui2 (hv : rsB t rs = true) {ch ln : Int} {l : List ByteArray} {s : ByteArray} (h : s ∈ n4 rs ch ln l) : s ∈ l ∨ ∃ r ∈ rs, s = r.word ∧ ib s = true := by
 unfold n4 qq at h
 obtain ⟨w, _, h⟩ := List.mem_flatMap.1 h
 rw [ue5 hv] at h
 obtain ⟨h1, h2⟩ := List.mem_filter.1 h
 have hne : s ≠ ByteArray.empty := by simpa using h2
 rcases ua7 h1 with rfl | ⟨r, hr, rfl⟩
 ·left
  unfold eo at hne ⊢
  cases hw : l[w]? with
  | none => rw [hw] at hne; exact absurd rfl hne
  | some x => rw [Option.getD_some]; exact List.mem_of_getElem? hw
 right
 have hr2 := (List.mem_filter.1 hr).1
 refine ⟨r, hr2, rfl, ?_⟩
 obtain ⟨_, _, hk⟩ := tv ((rsB_true.1 hv).1 r hr2)
 rcases hk with ⟨_, _, _, h4⟩ | ⟨_, _, _, h4⟩ | ⟨_, _, _, h4, _⟩
 ·exact absurd h4 hne
 ·exact h4
 exact h4
theorem uis (ht : bw t = true) (hv : rsB t rs = true) (hl : se t rs = true) : bw (c7 t rs) = true := by
 unfold se at hl
 unfold bw at ht ⊢
 rw [Bool.and_eq_true, Bool.and_eq_true, decide_eq_true_eq, List.all_eq_true] at ht ⊢
 obtain ⟨⟨h1, h2⟩, h3⟩ := ht
 refine ⟨⟨by rw [tw]; exact h1, fun x hx => ?_⟩, ?_⟩
 ·obtain ⟨k, hk⟩ := List.getElem?_of_mem hx
  have hk2 := hk
  rw [qe] at hk2
  obtain ⟨c, hc, rfl⟩ := Option.map_eq_some_iff.1 hk2
  have h4 := h2 c (e8 hc)
  unfold jk at h4 ⊢
  rw [Bool.and_eq_true, Bool.and_eq_true, List.all_eq_true] at h4 ⊢
  refine ⟨⟨h4.1.1, by rw [xa]; exact h4.1.2⟩, fun l' hl' => ?_⟩
  have h5 := List.all_eq_true.1 (List.all_eq_true.1 hl _ hx) l' hl'
  unfold j9
  rw [h5, Bool.true_and, List.all_eq_true]
  intro s hs
  obtain ⟨m, hm⟩ := List.getElem?_of_mem hl'
  unfold g8 at hm
  dsimp only at hm
  rw [List.getElem?_mapIdx] at hm
  obtain ⟨l, hl2, rfl⟩ := Option.map_eq_some_iff.1 hm
  rcases ui2 hv hs with hs | ⟨_, _, _, hs⟩
  ·have h6 := h4.2 l (e8 hl2)
   unfold j9 at h6
   rw [Bool.and_eq_true, List.all_eq_true] at h6
   exact h6.2 s hs
  exact hs
 have : (c7 t rs).map (·.id) = t.map (·.id) := by
  apply List.ext_getElem?
  intro k
  rw [List.getElem?_map, List.getElem?_map, qe]
  cases t[k]? <;> rfl
 rw [this]; exact h3
/-! ### Its lines -/
theorem uiw (c : Int) : f7 (c7 t rs) c = f7 t c := by
 unfold f7
 rw [qe]
 cases h : t[c.toNat]? with
 | none => rfl
 | some x => exact xa _ _ _
theorem uit (s : StretchD) : fu (c7 t rs) s = fu t s := by
 unfold fu sB1 sB2
 rw [tw, uiw]
theorem uiz : iv (c7 t rs) e = iv t e := by
 unfold iv
 rw [show fu (c7 t rs) = fu t from funext uit]
theorem uix : dn (c7 t rs) = dn t := by
 unfold dn
 congr 1
 apply List.ext_getElem?
 intro k
 rw [List.getElem?_mapIdx, List.getElem?_mapIdx, qe]
 cases h : t[k]? with
 | none => rfl
 | some c =>
  simp only [Option.map_some]
  congr 1
  apply List.ext_getElem?
  intro n
  rw [List.getElem?_mapIdx, List.getElem?_mapIdx]
  unfold g8
  dsimp only
  rw [List.getElem?_mapIdx]
  cases c.lines[n]? <;> rfl
theorem ui1 (ht : bw t = true) (hu : bw (c7 t rs) = true) : ct (c7 t rs) e = ct t e := by
 unfold ct
 rw [ht, hu, uiz]
theorem uet (h : ct t e = 0) : bw t = true ∧ iv t e = true := by
 unfold ct at h
 cases h1 : bw t <;> cases h2 : iv t e <;> simp_all
theorem uiy (h : ct t e = 0) (hu : ct (c7 t rs) e = 0) : nv (c7 t rs) e = nv t e := by
 obtain ⟨h1, h2⟩ := uet h
 obtain ⟨_, hok⟩ := udz h1 h2
 unfold nv
 rw [h, hu]
 simp only [decide_true, cond_true]
 rw [← yg hok, ← yg hok, uix]
theorem ui0 (h : ct (c7 t rs) e = ct t e) : pt (c7 t rs) e = pt t e ∧ pr (c7 t rs) e = pr t e ∧ pq (c7 t rs) e = pq t e := by
 unfold pt pr pq
 rw [h]
 exact ⟨rfl, rfl, rfl⟩
theorem uiu (h : ct (c7 t rs) e = ct t e) {p : PlaceD} (hp : fe (c7 t rs) p = fe t p) : ec (c7 t rs) e p = ec t e p ∧ g7 (c7 t rs) e p = g7 t e p := by
 have hs : cb (c7 t rs) e = cb t e := by unfold cb; rw [h]
 have : ec (c7 t rs) e p = ec t e p := by unfold ec; rw [hs, hp]
 refine ⟨this, ?_⟩
 unfold g7
 rw [this]
theorem uiv (ht : bw t = true) (hu : bw (c7 t rs) = true) {a b : Int} (ha : 0 ≤ a) (hb : 0 ≤ b) : fe (c7 t rs) (o8 t a b 0) = fe t (o8 t a b 0) := by
 rw [ujn ht ha hb (Int.le_refl 0)]
 obtain ⟨k, n, x, l, h1, h2, _, _, _, _, _, _, _, _, _, _, he⟩ := xf ht ha hb (Int.le_refl 0)
 rw [he]
 have h3 := p8 (ua0 (rs := rs) h1) (ua1 (rs := rs) (k := k) h2)
 obtain ⟨_, _, _, _, h4, _⟩ := m6 hu h3
 exact placeB_true.2 ⟨_, h3, by simp, by simp; omega⟩
theorem uoi (ht : bw t = true) {c : bp} (h : ji t c ≠ 0) : ji t c = 11 := by
 unfold ji at h ⊢
 rw [ht] at h ⊢
 cases h1 : jj t c
 ·rfl
 rw [h1] at h; exact absurd rfl h
end
end Go.AB
namespace Go.Proofs.YtjjklfgpffgnfabGreatDoor
set_option maxRecDepth 10000
open Go.RowKit Go.AB
open Go.AB.Enc (cells)
open Go.PB (bh af PlaceD ar bp cj)
set_option maxHeartbeats 4000000 in
theorem uom (t : af) (e : aw) (c : bp) (a b : Int) (G : Nat → Option GObj) (nx : Nat) (hF : G 0 = some cr) (hK : G 1 = some si) :
  PC Tryz.prog 5 [b7 t, val e, val c, .v (.int .u8 a), .v (.int .u8 b)] G nx fun r' G' nx' => r' = .v (.bool true) ∧ G' = G ∧ nx' = nx := by
 refine j6 (G) (nx) Tryz.func5 rfl (.v) zN (fun hlt => zH) ?_
 simp only [Tryz.ntmps5, List.length_cons, List.length_nil, Nat.reduceAdd, Nat.reduceSub]
 refine bf fun hlt => ?_
 dsimp only at hlt
 have hnx := hlt 0 _ hF
 have hnx1 := hlt 1 _ hK
 refine jn 3 (fun hfa => ?_)
 refine jn 4 (fun hfb => ?_)
 replace hfa := uaa hfa
 replace hfb := uaa hfb
 refine yS fun _ K1 => ?_
 refine yR ?_
 try dsimp only [St.put]
 refine yB rfl rfl rfl ?_
 try dsimp only [St.put]
 refine yB rfl rfl rfl ?_
 try dsimp only [St.put]
 refine yB rfl rfl rfl ?_
 refine yA rfl rfl ?_
 refine yN ?_
 dsimp only [St.put]
 refine K1 _ ?_
 refine yS fun _ K2 => ?_
 refine yR ?_
 try dsimp only [St.put]
 refine ae rfl (dq rfl rfl rfl (uqr) zG ?_)
 refine yA rfl rfl ?_
 refine yN ?_
 dsimp only [St.put]
 refine K2 _ ?_
 refine yS fun _ K3 => ?_
 refine yS fun _ K4 => ?_
 refine yR ?_
 try dsimp only [St.put]
 refine ba rfl (bk rfl rfl rfl) ?_
 refine yE rfl rfl rfl ?_
 try dsimp only [St.put]
 refine ae rfl (cq rfl rfl rfl (by decide) (by decide) zR (by decide) ?_)
 try dsimp only [St.put]
 refine ae rfl (a7 rfl rfl rfl (umx t [e]) ?_)
 refine et (fun hs => ?_) (fun hs => ?_)
 ·skip
  refine yM rfl rfl ?_
  refine yK rfl ?_
  refine yK rfl ?_
  refine yK rfl ?_
  refine yK rfl ?_
  refine aa rfl (co rfl rfl (by constructor)) ?_
  refine yM rfl rfl ?_
  refine yK rfl ?_
  refine yK rfl ?_
  refine aa rfl (co rfl rfl (by constructor)) ?_
  refine yM rfl rfl ?_
  refine yK rfl ?_
  refine yK rfl ?_
  refine aa rfl (co rfl rfl (by constructor)) ?_
  refine yN ?_
  dsimp only [St.put]
  refine K4 _ ?_
  refine ak rfl (fun _ => ?_) (fun h => by cases h)
  refine yS fun _ K5 => ?_
  refine yR ?_
  refine yM rfl rfl ?_
  refine yA rfl rfl ?_
  refine yN ?_
  dsimp only [St.put]
  refine K5 _ ?_
  refine aj ?_
  refine ay rfl (by constructor) zN zS ?_
  rfl
 have hg : (([e] : List aw).any (fun e => decide (20 < e.ss.length)) || od t) = false := hs
 simp only [List.any_cons, List.any_nil, Bool.or_false, Bool.or_eq_false_iff, decide_eq_false_iff_not] at hg
 have hle : e.ss.length ≤ 20 := by omega
 refine yM rfl rfl ?_
 try dsimp only [St.put]
 refine ba rfl (bk rfl rfl rfl) ?_
 refine yE rfl rfl rfl ?_
 try dsimp only [St.put]
 refine ae rfl (a7 rfl rfl rfl (urj t e) ?_)
 refine aa rfl (cz rfl rfl rfl) ?_
 refine et (fun hs => ?_) (fun hs => ?_)
 ·skip
  refine aa rfl (dh rfl rfl (by constructor)) ?_
  refine yM rfl rfl ?_
  refine yK rfl ?_
  refine yK rfl ?_
  refine aa rfl (co rfl rfl (by constructor)) ?_
  refine yM rfl rfl ?_
  refine yK rfl ?_
  refine yK rfl ?_
  refine aa rfl (co rfl rfl (by constructor)) ?_
  refine yN ?_
  dsimp only [St.put]
  refine K4 _ ?_
  refine ak rfl (fun _ => ?_) (fun h => by cases h)
  refine yS fun _ K6 => ?_
  refine yR ?_
  refine yM rfl rfl ?_
  refine yA rfl rfl ?_
  refine yN ?_
  dsimp only [St.put]
  refine K6 _ ?_
  refine aj ?_
  refine ay rfl (by constructor) zN zS ?_
  rfl
 have h0 : ct t e = 0 := kw hs
 obtain ⟨ht, hed⟩ := uet h0
 refine aa rfl (dh rfl rfl (by constructor)) ?_
 refine yM rfl rfl ?_
 refine yE rfl rfl rfl ?_
 try dsimp only [St.put]
 refine ae rfl (a7 rfl rfl rfl (urd c) ?_)
 refine et (fun hs => ?_) (fun hs => ?_)
 ·skip
  refine aa rfl (dh rfl rfl (by constructor)) ?_
  refine yM rfl rfl ?_
  refine yK rfl ?_
  refine yK rfl ?_
  refine aa rfl (co rfl rfl (by constructor)) ?_
  refine yN ?_
  dsimp only [St.put]
  refine K4 _ ?_
  refine ak rfl (fun _ => ?_) (fun h => by cases h)
  refine yS fun _ K7 => ?_
  refine yR ?_
  refine yM rfl rfl ?_
  refine yA rfl rfl ?_
  refine yN ?_
  dsimp only [St.put]
  refine K7 _ ?_
  refine aj ?_
  refine ay rfl (by constructor) zN zS ?_
  rfl
 skip
 refine aa rfl (dh rfl rfl (by constructor)) ?_
 refine yM rfl rfl ?_
 refine yM rfl rfl ?_
 refine aa rfl (c9 rfl rfl) ?_
 refine aa rfl (dh rfl rfl (by constructor)) ?_
 refine yN ?_
 dsimp only [St.put]
 refine K4 _ ?_
 refine ak rfl (fun h => by cases h) (fun _ => ?_)
 refine aq ?_
 refine K3 _ ?_
 refine yS fun _ K8 => ?_
 refine yR ?_
 try dsimp only [St.put]
 refine ba rfl (bk rfl rfl rfl) ?_
 refine yE rfl rfl rfl ?_
 try dsimp only [St.put]
 refine ae rfl (sv rfl rfl rfl (uli 1 t c) zG (by dsimp only; omega) ?_)
 refine yM rfl rfl ?_
 refine yX rfl rfl rfl rfl ?_
 refine yX rfl rfl rfl rfl ?_
 try dsimp only [St.put]
 refine ae rfl (bj rfl ?_)
 try dsimp only [St.put]
 refine ae rfl (ax rfl rfl rfl zG rfl rfl (by rfl) ?_)
 refine yA rfl rfl ?_
 refine yN ?_
 dsimp only [St.put]
 refine K8 _ ?_
 refine cw (i := 12) rfl zG (by first | exact List.cons_ne_nil _ _ | (simp; done) | (simp [putAt]; done)) ?_
 dsimp only
 refine yS fun _ K9 => ?_
 refine yS fun _ K10 => ?_
 refine yR ?_
 refine yM rfl rfl ?_
 refine aa rfl (cz rfl rfl rfl) ?_
 refine yN ?_
 dsimp only [St.put]
 refine K10 _ ?_
 refine ak rfl (fun hc => ?_) (fun hc => ?_)
 ·have h2 := uoi ht (mx hc)
  rw [h2]
  refine yS fun _ K11 => ?_
  refine yR ?_
  refine yM rfl rfl ?_
  refine yM rfl rfl ?_
  refine yM rfl rfl ?_
  refine aa rfl (br (c := true) (gx rfl rfl rfl) (decide_eq_true rfl)) ?_
  refine aa rfl (co rfl rfl (by constructor)) ?_
  refine yA rfl rfl ?_
  refine yN ?_
  dsimp only [St.put]
  refine K11 _ ?_
  refine aj ?_
  refine ay rfl (by constructor) zN zS ?_
  rfl
 have h2 : ji t c = 0 := kw hc
 obtain ⟨_, h3⟩ := copyEr_zero.1 h2
 obtain ⟨_, _, h5, h6⟩ := copyB_true.1 h3
 have hrd : oz t c = c7 t c.rs := by simp [oz, h2]
 have hu := uis ht h5 h6
 have hce := ui1 (e := e) ht hu
 have hgp := uiy h0 (hce.trans h0)
 obtain ⟨hc1, hc2, hc3⟩ := ui0 hce
 obtain ⟨p, hpp⟩ : ∃ p, o8 t a b 0 = p := ⟨_, rfl⟩
 have hPk := uls t a b 0 ht hfa hfb ⟨Int.le_refl 0, by decide⟩
 rw [hpp] at hPk
 obtain ⟨hr1, hr2⟩ := uiu hce (uiv ht hu hfa.1 hfb.1)
 rw [hpp] at hr1 hr2
 rw [hrd]
 refine aq ?_
 refine K9 _ ?_
 refine yS fun _ K12 => ?_
 refine yS fun _ K13 => ?_
 refine yR ?_
 try dsimp only [St.put]
 refine ba rfl (bk rfl rfl rfl) ?_
 try dsimp only [St.put]
 refine ae rfl (a7 rfl rfl rfl (ufx (c7 t c.rs)) ?_)
 refine aa rfl (br (c := false) (cz rfl rfl rfl) (j8 (by simp [fq, hu]))) ?_
 refine yN ?_
 dsimp only [St.put]
 refine K13 _ ?_
 refine ak rfl (fun h => by cases h) (fun _ => ?_)
 refine aq ?_
 refine K12 _ ?_
 refine yS fun _ K14 => ?_
 refine yR ?_
 try dsimp only [St.put]
 refine ba rfl (bk rfl rfl rfl) ?_
 refine yE rfl rfl rfl ?_
 try dsimp only [St.put]
 refine ae rfl (dq rfl rfl rfl (y9 t e hle) zG ?_)
 refine yM rfl rfl ?_
 refine yX rfl rfl rfl rfl ?_
 refine yX rfl rfl rfl rfl ?_
 refine yA rfl rfl ?_
 refine yA rfl rfl ?_
 refine yN ?_
 dsimp only [St.put]
 refine K14 _ ?_
 refine yS fun _ K15 => ?_
 refine yR ?_
 try dsimp only [St.put]
 refine ba rfl (bk rfl rfl rfl) ?_
 refine yE rfl rfl rfl ?_
 try dsimp only [St.put]
 refine ae rfl (dq rfl rfl rfl (y9 (c7 t c.rs) e hle) zG ?_)
 refine yM rfl rfl ?_
 refine yX rfl rfl rfl rfl ?_
 refine yX rfl rfl rfl rfl ?_
 refine yA rfl rfl ?_
 refine yA rfl rfl ?_
 refine yN ?_
 dsimp only [St.put]
 rw [hgp, hce, h0]
 refine K15 _ ?_
 refine yS fun _ K16 => ?_
 refine yR ?_
 try dsimp only [St.put]
 refine ba rfl (bk rfl rfl rfl) ?_
 refine yE rfl rfl rfl ?_
 try dsimp only [St.put]
 refine ae rfl (dq rfl rfl rfl (ue3 t e hle) zG ?_)
 refine yM rfl rfl ?_
 refine yX rfl rfl rfl rfl ?_
 refine yX rfl rfl rfl rfl ?_
 refine yX rfl rfl rfl rfl ?_
 refine yA rfl rfl ?_
 refine yA rfl rfl ?_
 refine yA rfl rfl ?_
 refine yN ?_
 dsimp only [St.put]
 refine K16 _ ?_
 refine yS fun _ K17 => ?_
 refine yR ?_
 try dsimp only [St.put]
 refine ba rfl (bk rfl rfl rfl) ?_
 refine yE rfl rfl rfl ?_
 try dsimp only [St.put]
 refine ae rfl (dq rfl rfl rfl (ue3 (c7 t c.rs) e hle) zG ?_)
 refine yM rfl rfl ?_
 refine yX rfl rfl rfl rfl ?_
 refine yX rfl rfl rfl rfl ?_
 refine yX rfl rfl rfl rfl ?_
 refine yA rfl rfl ?_
 refine yA rfl rfl ?_
 refine yA rfl rfl ?_
 refine yN ?_
 dsimp only [St.put]
 rw [hc1, hc2, hc3]
 refine K17 _ ?_
 refine yS fun _ K18 => ?_
 refine yS fun _ K19 => ?_
 refine yR ?_
 refine yM rfl rfl ?_
 refine aa rfl (br (cz rfl rfl rfl) (j8 (by omega))) ?_
 refine yM rfl rfl ?_
 refine yM rfl rfl ?_
 refine aa rfl (br (cz rfl rfl rfl) (j8 (by omega))) ?_
 refine aa rfl (dh rfl rfl (by constructor)) ?_
 refine yM rfl rfl ?_
 refine yM rfl rfl ?_
 refine yM rfl rfl ?_
 try dsimp only [St.put]
 refine ae rfl (a7 rfl rfl rfl (uq2 _) ?_)
 refine aa rfl (c9 rfl rfl) ?_
 refine aa rfl (dh rfl rfl (by constructor)) ?_
 refine yM rfl rfl ?_
 refine yM rfl rfl ?_
 refine yM rfl rfl ?_
 refine aa rfl ((br (c := false) (cz rfl rfl rfl) (j8 rfl))) ?_
 refine aa rfl (dh rfl rfl (by constructor)) ?_
 refine yM rfl rfl ?_
 refine yM rfl rfl ?_
 refine yM rfl rfl ?_
 refine aa rfl ((br (c := false) (cz rfl rfl rfl) (j8 rfl))) ?_
 refine aa rfl (dh rfl rfl (by constructor)) ?_
 refine yM rfl rfl ?_
 refine yM rfl rfl ?_
 refine yM rfl rfl ?_
 refine aa rfl ((br (c := false) (cz rfl rfl rfl) (j8 rfl))) ?_
 refine aa rfl (dh rfl rfl (by constructor)) ?_
 refine yM rfl rfl ?_
 try dsimp only [St.put]
 refine ba rfl (bk rfl rfl rfl) ?_
 refine yE rfl rfl rfl ?_
 try dsimp only [St.put]
 refine ae rfl (dq rfl rfl rfl (ko (c7 t c.rs) e hle) zG ?_)
 refine aa rfl ((br (c := false) (cz rfl rfl rfl) (j8 (hce.trans h0)))) ?_
 refine aa rfl (dh rfl rfl (by constructor)) ?_
 refine yN ?_
 dsimp only [St.put]
 refine K19 _ ?_
 refine ak rfl (fun h => by cases h) (fun _ => ?_)
 refine aq ?_
 refine K18 _ ?_
 refine yS fun _ K20 => ?_
 refine yR ?_
 try dsimp only [St.put]
 refine ba rfl (bk rfl rfl rfl) ?_
 refine yM rfl rfl ?_
 refine yM rfl rfl ?_
 try dsimp only [St.put]
 refine ae rfl (a7 rfl rfl rfl (hPk) ?_)
 try dsimp only [St.put]
 refine ae rfl (bj rfl ?_)
 try dsimp only [St.put]
 refine ae rfl (ax rfl rfl rfl zG rfl rfl (by rfl) ?_)
 refine yN ?_
 dsimp only [St.put]
 refine K20 _ ?_
 refine cw (i := 24) rfl zG (by first | exact List.cons_ne_nil _ _ | (simp; done) | (simp [putAt]; done)) ?_
 dsimp only
 refine yS fun _ K21 => ?_
 refine yR ?_
 try dsimp only [St.put]
 refine ba rfl (bk rfl rfl rfl) ?_
 refine yE rfl rfl rfl ?_
 refine yE rfl rfl rfl ?_
 try dsimp only [St.put]
 refine ae rfl (dq rfl rfl rfl (sx t e p hle) zG ?_)
 refine yM rfl rfl ?_
 refine yX rfl rfl rfl rfl ?_
 refine yX rfl rfl rfl rfl ?_
 try dsimp only [St.put]
 refine ae rfl (bj rfl ?_)
 try dsimp only [St.put]
 refine ae rfl (ax rfl rfl rfl zG rfl rfl (by rfl) ?_)
 refine yA rfl rfl ?_
 refine yN ?_
 dsimp only [St.put]
 refine K21 _ ?_
 refine cw (i := 25) rfl zG (by first | exact List.cons_ne_nil _ _ | (simp; done) | (simp [putAt]; done)) ?_
 dsimp only
 refine yS fun _ K22 => ?_
 refine yR ?_
 try dsimp only [St.put]
 refine ba rfl (bk rfl rfl rfl) ?_
 refine yE rfl rfl rfl ?_
 refine yE rfl rfl rfl ?_
 try dsimp only [St.put]
 refine ae rfl (dq rfl rfl rfl (sx (c7 t c.rs) e p hle) zG ?_)
 refine yM rfl rfl ?_
 refine yX rfl rfl rfl rfl ?_
 refine yX rfl rfl rfl rfl ?_
 try dsimp only [St.put]
 refine ae rfl (bj rfl ?_)
 try dsimp only [St.put]
 refine ae rfl (ax rfl rfl rfl zG rfl rfl (by rfl) ?_)
 refine yA rfl rfl ?_
 refine yN ?_
 dsimp only [St.put]
 rw [hr1, hr2]
 refine K22 _ ?_
 refine cw (i := 27) rfl zG (by first | exact List.cons_ne_nil _ _ | (simp; done) | (simp [putAt]; done)) ?_
 dsimp only
 refine yS fun _ K23 => ?_
 refine yR ?_
 refine yM rfl rfl ?_
 refine yM rfl rfl ?_
 refine yE rfl rfl rfl ?_
 refine yE rfl rfl rfl ?_
 refine aa rfl (br (nj rfl rfl rfl) (decide_eq_true (by first | assumption | with_reducible rfl))) ?_
 refine aa rfl (co rfl rfl (by constructor)) ?_
 refine yM rfl rfl ?_
 refine yM rfl rfl ?_
 refine yM rfl rfl ?_
 refine aa rfl ((br (c := true) (gx rfl rfl rfl) (decide_eq_true rfl))) ?_
 refine aa rfl (co rfl rfl (by constructor)) ?_
 refine yA rfl rfl ?_
 refine yN ?_
 dsimp only [St.put]
 refine K23 _ ?_
 refine aj ?_
 refine ay rfl (by constructor) zN zS ?_
 rfl
end Go.Proofs.YtjjklfgpffgnfabGreatDoor

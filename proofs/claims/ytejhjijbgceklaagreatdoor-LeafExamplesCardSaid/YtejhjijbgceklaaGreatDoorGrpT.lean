/-
  What the walks through the program rest on: values, states, steps, calls (KeEach, KfVoc).
-/
import Derived.Test.YtejhjijbgceklaaGreatDoorGrpK
import Derived.Test.YtejhjijbgceklaaGreatDoorGrpN
import Derived.WalkKit
import Derived.Test.YtejhjijbgceklaaGreatDoorGrpP
import Derived.Test.YtejhjijbgceklaaGreatDoorLay
namespace Go.AB
open Go Go.RowKit
open Go.AB.Enc (cells)
open Go.PB (Chap TextD PlaceD ReadingD CopyD WayD)
def encS (s : ByteArray) : List Value := [.string s]
open Classical in
/-- what the entries hold, as it is -/
noncomputable def heldM (es : List MapEntry) : ByteArray → Option C := fun s => (es.find? fun e => decide (e.key = .string s)).map fun e => .v e.val
theorem heldM_exact (es : List MapEntry) : ExactM (heldM es) := fun s c h => by
 unfold heldM at h
 obtain ⟨e, _, rfl⟩ := Option.map_eq_some_iff.1 h
 exact ⟨_, rfl⟩
theorem heldM_some {es : List MapEntry} {s : ByteArray} {c : C} (h : heldM es s = some c) : ∃ e ∈ es, e.key = .string s ∧ c = .v e.val := by
 unfold heldM at h
 obtain ⟨e, h1, rfl⟩ := Option.map_eq_some_iff.1 h
 exact ⟨e, List.mem_of_find?_eq_some h1, by simpa using List.find?_some h1, rfl⟩
theorem heldM_at {es : List MapEntry} (hp : es.Pairwise fun a b => a.key ≠ b.key) {e : MapEntry} (he : e ∈ es) {s : ByteArray} (hk : e.key = .string s) : heldM es s = some (.v e.val) := by
 cases h : heldM es s with
 | none =>
  unfold heldM at h
  rw [Option.map_eq_none_iff, List.find?_eq_none] at h
  exact absurd hk (by simpa using h e he)
 | some c =>
  obtain ⟨e', h1, h2, rfl⟩ := heldM_some h
  by_cases hee : e' = e
  ·rw [hee]
  ·have hne : e'.key ≠ e.key := by
    obtain ⟨i, hi⟩ := List.getElem?_of_mem h1
    obtain ⟨j, hj⟩ := List.getElem?_of_mem he
    obtain ⟨i1, i2⟩ := List.getElem?_eq_some_iff.1 hi
    obtain ⟨j1, j2⟩ := List.getElem?_eq_some_iff.1 hj
    have hpw := List.pairwise_iff_getElem.1 hp
    rcases Nat.lt_trichotomy i j with h3 | h3 | h3
    ·have := hpw i j i1 j1 h3; rwa [i2, j2] at this
    ·subst h3; rw [i2] at j2; exact absurd j2 hee
    ·have := hpw j i j1 i1 h3; rw [i2, j2] at this; exact fun e => this e.symm
   exact absurd (h2.trans hk.symm) hne
theorem mapok_held {P : Program} {k : TypeId} {E : Env} {w : World} {m : ByteArray → Option C} {es : List MapEntry} {clock : Nat} (h : MapOk E w (okK P k ByteArray) (mapV m) es clock) (h1 : ∀ s c, m s = some c → c.one = true) :
  MapOk (itE fun _ => 0) w (okK P k ByteArray) (mapV (heldM es)) es clock ∧ (∀ s, m s = none → heldM es s = none) ∧ ∀ s c, m s = some c → ∃ v, heldM es s = some (.v v) ∧ R E w c v := by
 refine ⟨⟨h.ok, h.pw, h.pb, fun e he => ?_, fun x c hx => ?_⟩, fun s hs => ?_, fun s c hs => ?_⟩
 ·obtain ⟨x, l, hx, _⟩ := h.ok e he
  obtain ⟨c, h2, h3⟩ := h.val e he
  rw [hx, mapV_kv] at h2
  exact ⟨.v e.val, by rw [hx, mapV_kv]; exact heldM_at h.pw he hx, .v (h3.okV (h1 x c h2))⟩
 ·by_cases hex : ∃ y : ByteArray, x = KeyV.kv y
  ·obtain ⟨y, rfl⟩ := hex
   rw [mapV_kv] at hx
   obtain ⟨e, h2, h3, _⟩ := heldM_some hx
   exact ⟨e, h2, h3⟩
  ·rw [mapV_none _ hex] at hx; cases hx
 ·cases hh : heldM es s with
  | none => rfl
  | some c =>
   obtain ⟨e, h2, h3, _⟩ := heldM_some hh
   obtain ⟨c', h4, _⟩ := h.val e h2
   rw [h3, show (Value.string s) = KeyV.kv s from rfl, mapV_kv, hs] at h4
   cases h4
 ·obtain ⟨e, h2, h3⟩ := h.has (KeyV.kv s) c (by rw [mapV_kv]; exact hs)
  obtain ⟨c', h4, h5⟩ := h.val e h2
  rw [h3, mapV_kv, hs] at h4
  cases h4
  exact ⟨e.val, heldM_at h.pw h2 h3, h5⟩
/-- .. less the words that have come -/
def lessM (m : ByteArray → Option C) (pre : List PW) : ByteArray → Option C := fun s => if s ∈ keysW pre then none else m s
theorem lessM_nil (m : ByteArray → Option C) : lessM m [] = m := by funext s; simp [lessM, keysW]
theorem lessM_old {m : ByteArray → Option C} {pre : List PW} {x : PW} (h : x.2 ∈ keysW pre) : lessM m (pre ++ [x]) = lessM m pre := by unfold lessM; rw [keysW_old h]
theorem lessM_new {m : ByteArray → Option C} {pre : List PW} {x : PW} (h : x.2 ∉ keysW pre) : mdel (lessM m pre) x.2 = lessM m (pre ++ [x]) := by
 funext s
 unfold lessM mdel
 rw [keysW_new h]
 by_cases e : s = x.2
 ·simp [e]
 ·by_cases h2 : s ∈ keysW pre <;> simp [e, h2]
theorem lessM_exact {m : ByteArray → Option C} (h : ExactM m) (pre : List PW) : ExactM (lessM m pre) := fun s c hs => by
 unfold lessM at hs
 split at hs
 ·cases hs
 ·exact h s c hs
theorem keysW_prefix (a b : List PW) : keysW a <+: keysW (a ++ b) := by
 refine snoc_ind (p := fun b => keysW a <+: keysW (a ++ b)) (by simp) (fun b x ih => ?_) b
 rw [← List.append_assoc]
 by_cases h : x.2 ∈ keysW (a ++ b)
 ·rw [keysW_old h]; exact ih
 ·rw [keysW_new h]; exact ih.trans (List.prefix_append _ _)
theorem keysW_more {zs pre : List PW} {x : PW} (hp : ∀ y ∈ pre, y ∈ zs) (hx : x ∈ zs) (h : x.2 ∉ keysW pre) : (keysW pre).length < (keysW zs).length := by
 have h1 := keysW_nodup (pre ++ [x])
 rw [keysW_new h] at h1
 have := nodup_len h1 (m := keysW zs) fun s hs => by
  rw [keysW_mem]
  rcases List.mem_append.1 hs with hs | hs
  ·obtain ⟨y, hy, rfl⟩ := List.mem_map.1 (keysW_mem.1 hs)
   exact List.mem_map.2 ⟨y, hp y hy, rfl⟩
  ·obtain rfl := List.mem_singleton.1 hs
   exact List.mem_map.2 ⟨x, hx, rfl⟩
 simp at this
 omega
end Go.AB
namespace Go.Proofs.YtejhjijbgceklaaGreatDoor
set_option maxRecDepth 10000
open Go.RowKit Go.AB
open Go.AB.Enc (cells)
open Go.PB (Chap TextD PlaceD ReadingD CopyD WayD)
theorem all_calls (W : World) (a : Option Addr) : Calls Tryz.prog 50 #[.pointer a] W fun e w' => e = .returned (.func (.func 79) #[] #[.pointer (some ⟨W.heap.size, 0, none⟩)]) ∧ w' = W.alloc (.cells #[.pointer a] 76) := by
 go_enter Tryz.func50, Tryz.ntmps50
 go_wp2
 go_ret
 exact ⟨rfl, rfl⟩
set_option maxHeartbeats 2000000 in
theorem each_iter (t : TextD) (ht : textB t = true) (M wv : Nat) : IterM Tryz.prog 61 [.elem [.elem [lst t]], .elem [.map M]] M (gmap Tryz.prog 9 wv (ixF (allP t))) (keysW (allP t)) encS := by
 intro E w lb G nx hrs hsim hM
 obtain ⟨b1, b2, rfl⟩ : ∃ b1 b2, lb = [b1, b2] := by
  match lb, hrs with
  | [b1, b2], _ => exact ⟨b1, b2, rfl⟩
  | [], h => exact absurd h.1 (by simp)
  | [_], h => exact absurd h.1 (by simp)
  | _ :: _ :: _ :: _, h => exact absurd h.1 (by simp)
 obtain ⟨r, es0, clock0, hT, hh, hok, hborn⟩ := hsim.obj M _ hM
 refine ⟨r, ⟨_, hT, rfl⟩, ⟨_, hh, rfl⟩, ?_⟩
 have hone : ∀ s c, ixF (allP t) s = some c → c.one = true := fun s c h => by
  unfold ixF at h
  split at h
  ·cases h; rfl
  ·cases h
 obtain ⟨hm0, hm1, hm2⟩ := mapok_held hok hone
 obtain ⟨m0, hm0e⟩ : ∃ m, heldM es0.toList = m := ⟨_, rfl⟩
 have hexact : ExactM m0 := hm0e ▸ heldM_exact _
 rw [hm0e] at hm0 hm1 hm2
 have hlen : ∀ s, s ∈ keysW (allP t) → ∃ a n cap, m0 s = some (.v (.slice a n cap)) ∧ n ≠ 0 ∧ n ≤ 9223372036854775807 := fun s hs => by
  obtain ⟨v, h1, h2⟩ := hm2 s _ (show ixF (allP t) s = some (lst (placesL (allP t) s)) from if_pos hs)
  have hfit := h2.fit
  rw [fit_lst] at hfit
  cases h2 with
  | @list rows tok a cap sz us q1 q2 q3 =>
   refine ⟨_, _, _, h1, ?_, ?_⟩
   ·have := placesL_ne hs
    simpa using this
   ·simpa using hfit.1
 -- what lies where
 have hr1 := hrs.2 0 _ b1 rfl rfl
 have hr2 := hrs.2 1 _ b2 rfl rfl
 obtain ⟨b1b, o1, u1, rfl, p1, p2, p3, _⟩ := hr1.elem_inv
 obtain ⟨b2b, o2, u2, rfl, q1, q2, q3, _⟩ := hr2.elem_inv
 have hc1 := p2 0 (by simp)
 have hc2 := q2 0 (by simp)
 have hu1 := p3 0 _ rfl
 have hu2 := map_at (q3 0 _ rfl) hT
 rw [hu2] at hc2
 obtain ⟨b3b, o3, u3, e3, _⟩ := hu1.elem_inv
 have hk1 : Known E.L w (u1 0) (.elem [lst t]) := Known.of (E := E.drop 0) rfl (hu1.drop (.elem (low_cons (lst_low _ _) low_nil)))
 rw [e3] at hc1 hk1
 intro l J Jx W hbel aJ aJx hY h0
 refine callsIn_of_wp_marks Tryz.func61 rfl trivial (wpIn_mono (cwp_n (m := 2) (?_ : cwp none _ _ (fun e a' W' => (e = .normal ∨ e = .ret) ∧ ∃ D, a'.defers = [{ target := .collected D, args := #[] }] ∧ W.heap.size ≤ D ∧ W'.heap[D]? = some (.deferred (some [])) ∧
  ((∃ zs X, zs.map Subtype.val = keysW (allP t) ∧ J zs X W') ∨ (∃ pre X, pre.map Subtype.val <+: keysW (allP t) ∧ Jx pre X W'))) _ _)) ?_)
 rotate_left
 ·rintro e a' W' ⟨he, D, hdef, hD, hK, hJ⟩
  have fin : bodyPostM (fen none) 2 Tryz.prog Tryz.f61 (fun e W' => (∃ v, e = .returned v) ∧ ((∃ zs X, zs.map Subtype.val = keysW (allP t) ∧ J zs X W') ∨ (∃ pre X, pre.map Subtype.val <+: keysW (allP t) ∧ Jx pre X W'))) .ret a' W' := by
   show LeavesInM (fen none) 2 _ _ a'.tmps _ a'.defers .returning W'
   rw [hdef]
   refine ⟨by simp, .inl ⟨_, _, rfl, run_takeDeferred hK, ?_⟩⟩
   refine ⟨_, results_none rfl _ _ _, ⟨_, rfl⟩, ?_⟩
   rcases hJ with ⟨zs, X, h1, h2⟩ | ⟨zs, X, h1, h2⟩
   ·exact .inl ⟨zs, _, h1, aJ _ _ _ _ _ h2 (grownBy_putObj' _ _ _) fun r' e' => by cases e'; exact ⟨⟨_, hK, rfl⟩, .inl hD⟩⟩
   ·exact .inr ⟨zs, _, h1, aJx _ _ _ _ _ h2 (grownBy_putObj' _ _ _) fun r' e' => by cases e'; exact ⟨⟨_, hK, rfl⟩, .inl hD⟩⟩
  rcases he with rfl | rfl
  ·exact fin
  ·exact fin
 refine wpIn_seq (wpIn_region_lit (wpl_value rfl (fun c h => by cases h) (w' := W.alloc (.cells #[.func (.yield l) #[] #[]] 96)) (v := .pointer (some ⟨W.heap.size, 0, none⟩)) ?_ (wpListIn_nil ?_)))
 ·simp [execOp, Instr.box, newVar, newRow, newObj, Sem.run, Act.eval]
  rfl
 obtain ⟨W1, hW1⟩ : ∃ W1, W.alloc (.cells #[.func (.yield l) #[] #[]] 96) = W1 := ⟨_, rfl⟩
 rw [hW1]
 have hsz1 : W1.heap.size = W.heap.size + 1 := by rw [← hW1]; simp
 have old1 : ∀ b, b < W.heap.size → W1.heap[b]? = W.heap[b]? := fun b hb => by rw [← hW1]; exact Below.heap_alloc _ _ _ hb
 have hbx1 : W1.heap[W.heap.size]? = some (.cells #[.func (.yield l) #[] #[]] 96 (0, 0)) := by rw [← hW1]; exact heap_new W _
 have hwW : ∀ b, b < w.heap.size → W.heap[b]? = w.heap[b]? := fun b hb => hbel.block b hb
 have hszW := hbel.size
 have lay : ∀ {b o : Nat}, o < E.L b → b < w.heap.size := fun {b o} h => Nat.lt_of_not_le fun hle => by rw [hsim.fresh b hle] at h; omega
 have hb1lt : b1b < w.heap.size := lay (o := o1) (by simp at p1; omega)
 have hb2lt : b2b < w.heap.size := lay (o := o2) (by simp at q1; omega)
 have hc1W : W1.cell? ⟨b1b, o1, none⟩ = some (.pointer (some ⟨b3b, o3, none⟩)) := (World.cell?_of_block (w := w) ((old1 b1b (by omega)).trans (hwW b1b hb1lt))).trans hc1
 refine wpIn_seq (wpIn_region_lit (wpl_value rfl (fun c h => by cases h) (w' := W1) (v := .pointer (some ⟨b3b, o3, none⟩)) ?_ (wpl_call rfl (fun c h => by cases h) (w' := W1.alloc (.cells #[.pointer (some ⟨b3b, o3, none⟩)] 76)) (v := .func (.func 79) #[] #[.pointer (some ⟨W1.heap.size, 0, none⟩)]) ?_ (all_calls W1 _) (wpListIn_nil ?_))))
 ·have h1 := run_load_cell (P := Tryz.prog) (t := 76) hc1W
  simp [execOp, Act.eval, Act.put, h1]
 ·simp [execOp, Act.eval, Act.put, resolve, Deferred.ofValue, invoke, run_callFunc]
 obtain ⟨W2, hW2⟩ : ∃ W2, W1.alloc (.cells #[.pointer (some ⟨b3b, o3, none⟩)] 76) = W2 := ⟨_, rfl⟩
 rw [hW2]
 simp only [Tryz.ntmps61, List.append_toArray, List.size_toArray, List.length_cons, List.length_nil, List.length_append, Nat.reduceAdd, Nat.reduceSub, Array.replicate_succ, Array.replicate_zero, List.push_toArray, List.nil_append, List.cons_append, Act.put, List.setIfInBounds_toArray, List.set_cons_zero, List.set_cons_succ]
 refine wpIn_block ?_
 have hsz2 : W2.heap.size = W.heap.size + 2 := by rw [← hW2]; simp [hsz1]
 have old2 : ∀ b, b < W1.heap.size → W2.heap[b]? = W1.heap[b]? := fun b hb => by rw [← hW2]; exact Below.heap_alloc _ _ _ hb
 have hby2 : W2.heap[W1.heap.size]? = some (.cells #[.pointer (some ⟨b3b, o3, none⟩)] 76 (0, 0)) := by rw [← hW2]; exact heap_new W1 _
 have hbx2 : W2.heap[W.heap.size]? = some (.cells #[.func (.yield l) #[] #[]] 96 (0, 0)) := (old2 _ (by omega)).trans hbx1
 have hw2 : ∀ b, b < w.heap.size → W2.heap[b]? = w.heap[b]? := fun b hb => (old2 b (by omega)).trans ((old1 b (by omega)).trans (hwW b hb))
 obtain ⟨L0, hL0⟩ : ∃ L0 : Nat → Nat, (fun b => if b = W1.heap.size then 1 else E.L b) = L0 := ⟨_, rfl⟩
 have hL0y : L0 W1.heap.size = 1 := by rw [← hL0]; simp
 have hL0o : ∀ b, b ≠ W1.heap.size → L0 b = E.L b := fun b hb => by rw [← hL0]; simp [hb]
 have hLle : ∀ b, E.L b ≤ L0 b := fun b => by
  by_cases e : b = W1.heap.size
  ·subst e; rw [hsim.fresh _ (by omega)]; exact Nat.zero_le _
  ·rw [hL0o b e]; exact Nat.le_refl _
 have hfr0 : ∀ b, W2.heap.size ≤ b → L0 b = 0 := fun b hb => by rw [hL0o b (by omega)]; exact hsim.fresh b (by omega)
 have hcw2 : ∀ b i, i < E.L b → W2.cell? ⟨b, i, none⟩ = w.cell? ⟨b, i, none⟩ := fun b i hi => World.cell?_of_block (w := w) (hw2 b (lay hi))
 have hcaps : Rs (itE L0) W2 [.elem [.elem [lst t]]] [.pointer (some ⟨W1.heap.size, 0, none⟩)] := by
  refine Rs.cons (.elem (us := fun _ => .pointer (some ⟨b3b, o3, none⟩)) (by simp) (by simp [C.one]) (.inr ⟨W1.heap.size, 0, rfl, ?_, fun j hj => ?_⟩) fun j c hc => ?_) Rs.nil
  ·show 0 + 1 ≤ L0 _
   rw [hL0y]
   exact Nat.le_refl _
  ·obtain rfl : j = 0 := by simp at hj; omega
   exact cell_of_heap hby2 rfl
  ·cases j with
   | zero =>
    simp only [List.getElem?_cons_zero, Option.some.injEq] at hc
    subst hc
    exact hk1 _ _ hLle hcw2
   | succ j => simp at hc
 have hit := all_iter t (itE L0) W2 _ hcaps hfr0
 -- what is known between two rounds
 have hrlt : r < w.heap.size := (Array.getElem?_eq_some_iff.1 hh).1
 obtain ⟨I, hI⟩ : ∃ I : List { x // x ∈ allP t } → World → Prop, (fun pre W' => ∃ (zs : List { s // s ∈ keysW (allP t) }) (X : Nat → Prop), zs.map Subtype.val = keysW (pre.map Subtype.val) ∧ J zs X W' ∧ X W.heap.size ∧ X W1.heap.size ∧ W'.heap[W.heap.size]? = some (.cells #[.func (.yield l) #[] #[]] 96 (0, 0)) ∧
  KeepL (itE L0) W2 W' ∧ MapIs Tryz.prog 9 r (lessM m0 (pre.map Subtype.val)) W') = I := ⟨_, rfl⟩
 have gr1 : W.grownBy W1 none := ⟨by rw [← hW1]; rfl, by rw [← hW1]; rfl, by rw [← hW1]; rfl, by omega, fun k hk _ => old1 k hk⟩
 have gr2 : W1.grownBy W2 none := ⟨by rw [← hW2]; rfl, by rw [← hW2]; rfl, by rw [← hW2]; rfl, by omega, fun k hk _ => old2 k hk⟩
 have hJ1 := aJ _ _ _ _ none h0 gr1 (fun r e => by cases e)
 have hJ2 := aJ _ _ _ _ none hJ1 gr2 (fun r e => by cases e)
 have hexact0 : ∀ {V V' : World} {m : ByteArray → Option C} {es : List MapEntry} {cl : Nat}, MapOk (itE fun _ => 0) V (okK Tryz.prog 9 ByteArray) (mapV m) es cl → MapOk (itE fun _ => 0) V' (okK Tryz.prog 9 ByteArray) (mapV m) es cl := fun h => h.imp fun x c v _ hr => hr.bare rfl (fun _ => Nat.le_refl _) (fun _ _ h => absurd h (Nat.not_lt_zero _))
 refine cwp_n (n := 3) (wpIn_rangeFunc_ownG (n := 3) (F := fen none) rfl (by omega) (gf := 79) (lb := #[.pointer (some ⟨W1.heap.size, 0, none⟩)]) rfl trivial (fun args w => run_callFunc args w) hit ?hKt ?hKb (Below.refl _ _) (fun x => rfl)
  I (fun c pre W' => c = .ret ∧ ∃ (zs : List { s // s ∈ keysW (allP t) }) (X : Nat → Prop), zs.map Subtype.val = keysW (pre.map Subtype.val) ∧ Jx zs X W') ?hI ?hIx ?h0 
  (fun x => { tmps := #[.func (.yield l) #[] #[], .pointer (some ⟨b1b, o1, none⟩), .pointer (some ⟨b2b, o2, none⟩), .pointer (some ⟨W.heap.size, 0, none⟩), undef, .string x.1.2, .pointer (some ⟨b3b, o3, none⟩), .func (.func 79) #[] #[.pointer (some ⟨W1.heap.size, 0, none⟩)], .agg #[.int .i64 x.1.1.ch, .int .i64 x.1.1.ln, .int .i64 x.1.1.wd], .string x.1.2, undef, undef, undef, undef, undef, undef, undef, undef, undef, undef, undef], defers := [] }) ?assign ?body ?done ?stop)
 case hKt => exact fun h k => KeepL.trans h k
 case hKb =>
  intro V l' o o' hl ho hf
  intro _
  refine ⟨by simp [World.putObj_size], fun b i hi => ?_⟩
  have : b ≠ l' := fun e => by subst e; rw [show (itE L0).L b = L0 b from rfl, hfr0 b hl] at hi; omega
  exact World.cell?_of_block (w := V) (World.putObj_heap_other this)
 case hI =>
  rw [← hI]
  rintro pre A A' row ⟨zs, X, e1, e2, e3, e4, e5, e6, e7⟩ hg hr
  have hA : W2.heap.size ≤ A.heap.size := e6.1
  refine ⟨zs, _, e1, aJ _ _ _ _ _ e2 hg (fun r' e => ⟨(hr r' e).2, .inl (by have := (hr r' e).1; omega)⟩), .inl e3, .inl e4, ?_, KeepL.trans e6 ⟨hg.size, fun b i hi => ?_⟩, ?_⟩
  ·exact (hg.block _ (by omega) fun e => by have := (hr _ e.symm).1; omega).trans e5
  ·have hb : b < W2.heap.size := Nat.lt_of_not_le fun hle => by rw [show (itE L0).L b = L0 b from rfl, hfr0 b hle] at hi; omega
   exact World.cell?_of_block (w := A) (hg.block b (by omega) fun e => by have := (hr _ e.symm).1; omega)
  ·obtain ⟨es, cl, f1, f2, f3⟩ := e7
   exact ⟨es, cl, (hg.block r (by omega) fun e => by have := (hr _ e.symm).1; omega).trans f1, f2, hexact0 f3⟩
 case hIx =>
  rintro c pre A A' row ⟨rfl, zs, X, e1, e2⟩ hg hr
  exact ⟨rfl, zs, _, e1, aJx _ _ _ _ _ e2 hg fun r' e => ⟨(hr r' e).2, .inl (by have := (hr r' e).1; omega)⟩⟩
 case h0 =>
  rw [← hI]
  exact ⟨[], _, by simp [keysW], hJ2, .inl (.inr (by omega)), .inr (by omega), hbx2, ⟨Nat.le_refl _, fun _ _ _ => rfl⟩, es0, clock0, (hw2 r hrlt).trans hh, hborn, by rw [List.map_nil, lessM_nil]; exact hexact0 hm0⟩
 case assign =>
  intro l2 x V K hK
  show (Code.region 2 _ false).wpIn (fen (some l2)) 1 _ _ _ _
  refine wpIn_region_lit (wpl_value rfl (fun c h => by cases h) (w' := V) (v := .string x.1.2) ?_ (wpListIn_nil ?_))
  ·simp [execOp, Act.eval, encP]
  ·simp only [Exit.then]
   simpa [encP, Act.put] using hK
 case body =>
  intro l2 pre x V hIv hlt
  rw [← hI] at hIv
  obtain ⟨zs, X, e1, e2, e3, e4, e5, e6, es, cl, f1, f2, f3⟩ := hIv
  show (Code.block 1 _).wpIn (fen (some l2)) 1 _ _ _ _
  obtain ⟨PR, hPR⟩ : ∃ PR, pre.map Subtype.val = PR := ⟨_, rfl⟩
  have hPRx : (pre ++ [x]).map Subtype.val = PR ++ [x.1] := by rw [List.map_append, hPR]; rfl
  have hPRm : ∀ y ∈ PR, y ∈ allP t := fun y hy => by
   rw [← hPR] at hy
   obtain ⟨z, _, rfl⟩ := List.mem_map.1 hy
   exact z.2
  rw [hPR] at e1 f3
  have hVs : W2.heap.size ≤ V.heap.size := e6.1
  have hfrV : ∀ b, V.heap.size ≤ b → L0 b = 0 := fun b hb => hfr0 b (by omega)
  obtain ⟨a0, ha0⟩ : ∃ a0 : Act, ({ tmps := #[.func (.yield l) #[] #[], .pointer (some ⟨b1b, o1, none⟩), .pointer (some ⟨b2b, o2, none⟩), .pointer (some ⟨W.heap.size, 0, none⟩), undef, .string x.1.2, .pointer (some ⟨b3b, o3, none⟩), .func (.func 79) #[] #[.pointer (some ⟨W1.heap.size, 0, none⟩)], .agg #[.int .i64 x.1.1.ch, .int .i64 x.1.1.ln, .int .i64 x.1.1.wd], .string x.1.2, undef, undef, undef, undef, undef, undef, undef, undef, undef, undef, undef], defers := [] } : Act) = a0 := ⟨_, rfl⟩
  rw [ha0]
  have hxs := allP_word ht x.2
  -- the slots that matter
  have sim0 : ∀ {V' : World} {a' : Act}, (∀ b, V'.heap.size ≤ b → L0 b = 0) → a'.defers = [] → a'.tmps.size = 21 → (∀ v, a'.tmps[2]? = some v → v = .pointer (some ⟨b2b, o2, none⟩)) → (∀ v, a'.tmps[3]? = some v → v = .pointer (some ⟨W.heap.size, 0, none⟩)) → (∀ v, a'.tmps[5]? = some v → v = .string x.1.2) →
    Sim (itE L0) V' { n := 21, l := [.any, .any, .v (.pointer (some ⟨b2b, o2, none⟩)), .v (.pointer (some ⟨W.heap.size, 0, none⟩)), .any, .v (.string x.1.2)], r := [], G := noG, nx := 0 } a' := fun {V' a'} hfr hd hs h2 h3 h5 => by
   refine ⟨⟨by rw [hd]; exact Nat.zero_le _, by rw [hd]; rfl⟩, hs, fun i v hv => ?_, ⟨rfl, fun n o ho => (by cases ho), fun n t ht => (by cases ht), fun n ver wv val b ht => (by cases ht), fun n m t t' b ht => (by cases ht), hfr, Nat.zero_le _⟩⟩
   match i, hv with
   | 0, _ => exact .any
   | 1, _ => exact .any
   | 2, hv => rw [h2 v hv]; exact .v rfl
   | 3, hv => rw [h3 v hv]; exact .v rfl
   | 4, _ => exact .any
   | 5, hv => rw [h5 v hv]; exact .v (okV_str.2 (by omega))
   | n + 6, _ => exact .any
  have hs0 := sim0 (V' := V) (a' := a0) hfrV (by rw [← ha0]) (by rw [← ha0]; rfl) (fun v hv => by rw [← ha0] at hv; cases hv; rfl) (fun v hv => by rw [← ha0] at hv; cases hv; rfl) (fun v hv => by rw [← ha0] at hv; cases hv; rfl)
  have hfact : ∀ {V' : World}, KeepL (itE L0) W2 V' → ∀ p ∈ [((.pointer (some ⟨b2b, o2, none⟩) : Value), C.elem [.map 0])], R (mapE L0 r 1) V' p.2 p.1 := fun {V'} hk p hp => by
   obtain rfl := List.mem_singleton.1 hp
   have h1 : o2 + 1 ≤ E.L b2b := by simpa using q1
   refine mapE_elem (Nat.le_trans h1 (hLle b2b)) ?_
   refine (hk.2 b2b o2 (Nat.lt_of_lt_of_le (by omega) (hLle b2b))).trans ((hcw2 b2b o2 (by omega)).trans ?_)
   simpa using hc2
  have hseg := map_seg (P := Tryz.prog) (k := 9) (r := r) (m := lessM m0 PR) (facts := [((.pointer (some ⟨b2b, o2, none⟩) : Value), C.elem [.map 0])]) hfrV hs0 rfl ⟨es, cl, f1, f2, f3⟩ (hfact e6)
  by_cases hin : x.1.2 ∈ keysW PR
  ·-- the word has come
   refine wpIn_block (wpIn_seq (wpIn_mono ((?_ : AW (some l2) Tryz.prog _ (fun e st' => e = .exit 1 ∧ st'.df = 0 ∧ st'.G 0 = some (gmap Tryz.prog 9 0 (lessM m0 PR))) _) _ _ _ hseg) ?_))
   ·refine aw_seq_k fun K hK => ?_
    refine aw_region ?_
    refine aops_s rfl (sstep_know 2 1 rfl rfl (s_load rfl rfl)) ?_
    refine aops_n rfl (n_mv rfl (by constructor)) ?_
    refine aops_s rfl (s_lookupC (α := ByteArray) (c := .list [] .nil) x.1.2 rfl rfl rfl trivial rfl (by simp [lessM, hin]; rfl)) ?_
    refine aops_n rfl (n_len' (k := 0) rfl rfl rfl) ?_
    refine aops_n rfl (n_eql rfl rfl rfl) ?_
    refine aops_nil ?_
    refine hK _ ?_
    refine aw_cond rfl (fun _ => ?_) (fun h => by simp at h)
    refine aw_exit ?_
    exact ⟨rfl, rfl, rfl⟩
   ·rintro e a' V' ⟨st', E', h1, h2, rfl, h3, h4⟩
    obtain ⟨k1, k2, k3, k4⟩ := map_seg_end hfrV ⟨_, f1, rfl⟩ h1 h2 h3 h4 (lessM_exact hexact PR)
    show KeepsFrom W2.heap.size V V' ∧ KeepL (itE L0) V V' ∧ I (pre ++ [x]) V'
    refine ⟨KeepsFrom.of_grownBy k3 (fun j e => by cases e; omega), k2, ?_⟩
    rw [← hI]
    obtain ⟨es', cl', g1, g2, g3⟩ := k4
    refine ⟨zs, _, by rw [hPRx, keysW_old hin]; exact e1, aJ _ _ _ _ _ e2 k3 (fun r' e => by cases e; exact ⟨⟨_, f1, rfl⟩, .inr ⟨rfl, _, g1, rfl⟩⟩), .inl e3, .inl e4, (k3.block _ (by omega) (by simp; omega)).trans e5, KeepL.trans e6 k2, es', cl', g1, g2, ?_⟩
    rw [hPRx, lessM_old hin]
    exact g3
  ·-- it is new
   have hxk : x.1.2 ∈ keysW (allP t) := keysW_mem.2 (List.mem_map.2 ⟨x.1, x.2, rfl⟩)
   obtain ⟨sa, sn, sc, hsl, hsn, hsm⟩ := hlen x.1.2 hxk
   refine wpIn_block (wpIn_seq (wpIn_mono ((?_ : AW (some l2) Tryz.prog _ (fun e st' => e = .normal ∧ st'.n = 21 ∧ st'.df = 0 ∧ getA st'.l st'.r 2 = .v (.pointer (some ⟨b2b, o2, none⟩)) ∧ getA st'.l st'.r 3 = .v (.pointer (some ⟨W.heap.size, 0, none⟩)) ∧ getA st'.l st'.r 5 = .v (.string x.1.2) ∧ st'.G 0 = some (gmap Tryz.prog 9 0 (lessM m0 PR))) _) _ _ _ hseg) ?_))
   ·refine aw_seq_k fun K hK => ?_
    refine aw_region ?_
    refine aops_s rfl (sstep_know 2 1 rfl rfl (s_load rfl rfl)) ?_
    refine aops_n rfl (n_mv rfl (by constructor)) ?_
    refine aops_s rfl (s_lookupC (α := ByteArray) (c := .v (.slice sa sn sc)) x.1.2 rfl rfl rfl trivial rfl (by simp [lessM, hin, hsl])) ?_
    refine aops_n rfl (n_len_v rfl rfl hsm) ?_
    refine aops_n rfl (n_eql rfl rfl rfl) ?_
    refine aops_nil ?_
    refine hK _ ?_
    refine aw_cond rfl (fun h => absurd (of_decide_eq_true h) (by omega)) (fun _ => ?_)
    refine aw_skip ?_
    exact ⟨rfl, rfl, rfl, rfl, rfl, rfl, rfl⟩
   ·rintro e a1 V1 ⟨st', E', h1, h2, rfl, hn, h3, s2, s3, s5, h4⟩
    obtain ⟨k1, k2, k3, es1, cl1, g1, g2, g3⟩ := map_seg_end hfrV ⟨_, f1, rfl⟩ h1 h2 h3 h4 (lessM_exact hexact PR)
    have hV1 : V.heap.size ≤ V1.heap.size := k3.size
    have slot : ∀ {V' : World} {st'' : St} {a' : Act} {i : Nat} {u : Value}, Sim (itE L0) V' (exSt st'') a' → getA st''.l st''.r i = .v u → ∀ v, a'.tmps[i]? = some v → v = u := fun {V' st'' a' i u} hs hg v hv => by
     have := hs.t i v hv
     simp only [exSt] at this
     rw [getA_ex, hg] at this
     exact this.v_inv
    have hfrV1 : ∀ b, V1.heap.size ≤ b → L0 b = 0 := fun b hb => hfr0 b (by omega)
    have hs1 := sim0 (V' := V1) (a' := a1) hfrV1 (List.eq_nil_of_length_eq_zero (k1.d.2.trans h3)) (k1.sz.trans hn) (slot k1 s2) (slot k1 s3) (slot k1 s5)
    have hseg1 := map_seg (P := Tryz.prog) (k := 9) (r := r) (m := lessM m0 PR) (facts := [((.pointer (some ⟨b2b, o2, none⟩) : Value), C.elem [.map 0])]) hfrV1 hs1 rfl ⟨es1, cl1, g1, g2, g3⟩ (hfact (KeepL.trans e6 k2))
    refine wpIn_seq (wpIn_mono ((?_ : AW (some l2) Tryz.prog _ (fun e st' => e = .normal ∧ st'.n = 21 ∧ st'.df = 0 ∧ getA st'.l st'.r 2 = .v (.pointer (some ⟨b2b, o2, none⟩)) ∧ getA st'.l st'.r 3 = .v (.pointer (some ⟨W.heap.size, 0, none⟩)) ∧ getA st'.l st'.r 5 = .v (.string x.1.2) ∧ st'.G 0 = some (gmap Tryz.prog 9 1 (lessM m0 (PR ++ [x.1])))) _) _ _ _ hseg1) ?_)
    ·refine aw_region ?_
     refine aops_s rfl (sstep_know 2 1 rfl rfl (s_load rfl rfl)) ?_
     refine aops_n rfl (n_mv rfl (by constructor)) ?_
     refine aops_e rfl (e_delete (α := ByteArray) x.1.2 rfl rfl rfl rfl (lessM_new hin) ?_)
     refine aops_nil ?_
     exact ⟨rfl, rfl, rfl, rfl, rfl, rfl, rfl⟩
    rintro e a2 V2 ⟨st2, E2, p1', p2', rfl, hn2, hd2, t2, t3, t5, p4'⟩
    obtain ⟨y1, y2, y3, es2, cl2, z1, z2, z3⟩ := map_seg_end hfrV1 ⟨_, g1, rfl⟩ p1' p2' hd2 p4' (lessM_exact hexact _)
    have hV2 : V1.heap.size ≤ V2.heap.size := y3.size
    have hbxV : V2.heap[W.heap.size]? = some (.cells #[.func (.yield l) #[] #[]] 96 (0, 0)) := (y3.block _ (by omega) (by simp; omega)).trans ((k3.block _ (by omega) (by simp; omega)).trans e5)
    have hJa := aJ _ _ _ _ _ e2 k3 (fun r' e => by cases e; exact ⟨⟨_, f1, rfl⟩, .inr ⟨rfl, _, g1, rfl⟩⟩)
    have hJb := aJ _ _ _ _ _ hJa y3 (fun r' e => by cases e; exact ⟨⟨_, g1, rfl⟩, .inr ⟨rfl, _, z1, rfl⟩⟩)
    have hzl : zs.length = (keysW PR).length := by rw [← e1, List.length_map]
    obtain ⟨fn, tmps, asg, bdy, hy, hR⟩ := hY _ _ (⟨x.1.2, hxk⟩ : { s // s ∈ keysW (allP t) }) V2 hJb (by rw [hzl]; exact keysW_more hPRm x.2 hin)
    have at_ : ∀ {i : Nat} {u : Value}, getA st2.l st2.r i = .v u → i < 21 → a2.tmps.getD i undef = u := fun {i u} hg hi => by
     have hsz : a2.tmps.size = 21 := y1.sz.trans hn2
     have h5 : a2.tmps[i]? = some a2.tmps[i] := Array.getElem?_eq_getElem (by omega)
     have := slot y1 hg _ h5
     rw [Array.getD_eq_getD_getElem?, h5]
     exact this
    have hs3 := at_ t3 (by omega)
    have hs5 := at_ t5 (by omega)
    have kV : KeepsFrom W2.heap.size V V2 := (KeepsFrom.of_grownBy k3 (fun j e => by cases e; omega)).trans (KeepsFrom.of_grownBy y3 (fun j e => by cases e; omega))
    have hld := run_load_cell (P := Tryz.prog) (t := 96) (cell_of_heap hbxV (j := 0) rfl)
    refine wpIn_seq (wpIn_region_lit (wpl_value rfl (fun c h => by cases h) (w' := V2) (v := .func (.yield l) #[] #[]) ?_ (wpl_value rfl (fun c h => by cases h) (w' := V2) (v := .string x.1.2) ?_ (wpl_round rfl (fun c h => by cases h) (R := _) ?_ hR ?_))))
    ·simp only [execOp, Act.eval, hs3]
     simp [hld]
    ·have h6 : (a2.put (some 17) (.func (.yield l) #[] #[])).tmps.getD 5 undef = .string x.1.2 := by
      rw [← hs5]
      simp [Act.put, Array.getD_eq_getD_getElem?]
     simp only [execOp, Act.eval, h6]
     rfl
    ·have hsz : a2.tmps.size = 21 := y1.sz.trans hn2
     have h6 : ((a2.put (some 17) (.func (.yield l) #[] #[])).put (some 18) (.string x.1.2)).tmps.getD 17 undef = .func (.yield l) #[] #[] := by
      simp [Act.put, Array.getD_eq_getD_getElem?, hsz]
     have h7 : ((a2.put (some 17) (.func (.yield l) #[] #[])).put (some 18) (.string x.1.2)).eval (.tmp 18) = .string x.1.2 := by
      simp [Act.eval, Act.put, Array.getD_eq_getD_getElem?, hsz]
     simp only [execOp, Act.eval, resolve, h6]
     simp [Deferred.ofValue, invoke, h7]
     simpa [encS] using hy
    ·have hsz : a2.tmps.size = 21 := y1.sz.trans hn2
     have hXa : ∀ b, X b → (X b ∨ (V.heap.size ≤ b ∧ b < V1.heap.size)) ∨ (V1.heap.size ≤ b ∧ b < V2.heap.size) := fun b hb => .inl (.inl hb)
     have h19 : ∀ q : Bool, (((a2.put (some 17) (.func (.yield l) #[] #[])).put (some 18) (.string x.1.2)).put (some 19) (.bool q)).eval (.tmp 19) = .bool q := fun q => by
      simp [Act.eval, Act.put, Array.getD_eq_getD_getElem?, hsz]
     have h20 : ∀ q : Bool, ((((a2.put (some 17) (.func (.yield l) #[] #[])).put (some 18) (.string x.1.2)).put (some 19) (.bool q)).put (some 20) (.bool !q)).eval (.tmp 20) = .bool !q := fun q => by
      simp [Act.eval, Act.put, Array.getD_eq_getD_getElem?, hsz]
     have hmapz : (zs ++ [(⟨x.1.2, hxk⟩ : { s // s ∈ keysW (allP t) })]).map Subtype.val = keysW ((pre ++ [x]).map Subtype.val) := by rw [hPRx, keysW_new hin, List.map_append, e1]; rfl
     rintro e V3 (⟨rfl, j1, j2⟩ | ⟨rfl, j1, j2⟩)
     ·refine ⟨_, rfl, wpl_value rfl (fun c h => by cases h) (w' := V3) (v := .bool false) ?_ (wpListIn_nil ?_)⟩
      ·simp only [execOp, h19]
       rfl
      ·obtain ⟨m1, m2, m3, m4⟩ := j2
       refine wpIn_cond (t := false) (h20 true) (wpIn_skip ?_)
       show KeepsFrom W2.heap.size V V3 ∧ KeepL (itE L0) V V3 ∧ I (pre ++ [x]) V3
       have kL : KeepL (itE L0) V2 V3 := ⟨m1.1, fun b i hi => by
        by_cases e : b = W1.heap.size
        ·subst e; exact World.cell?_of_block (w := V2) (m3 _ (hXa _ e4))
        ·exact m1.2 b i (by rw [show (itE L0).L b = L0 b from rfl, hL0o b e] at hi; exact hi)⟩
       refine ⟨kV.trans ⟨m1.1, fun b o hb ho hf => m4 b o (by omega) ho hf⟩, KeepL.trans (KeepL.trans k2 y2) kL, ?_⟩
       rw [← hI]
       exact ⟨_, _, hmapz, j1, hXa _ e3, hXa _ e4, (m3 _ (hXa _ e3)).trans hbxV, KeepL.trans e6 (KeepL.trans (KeepL.trans k2 y2) kL), es2, cl2, (m2 r rfl).trans z1, z2, by rw [hPRx]; exact hexact0 z3⟩
     ·refine ⟨_, rfl, wpl_value rfl (fun c h => by cases h) (w' := V3) (v := .bool true) ?_ (wpListIn_nil ?_)⟩
      ·simp only [execOp, h19]
       rfl
      ·refine wpIn_cond (t := true) (h20 false) (wpIn_ret ?_)
       show KeepsFrom W2.heap.size V V3 ∧ (Code.ret = .ret ∧ _)
       exact ⟨kV.trans ⟨j2.size, fun b o hb ho hf => j2.same b o (by omega) ho hf⟩, rfl, _, _, hmapz, j1⟩
 case done =>
  intro D xs' V hD hS hIv hK
  rw [← hI] at hIv
  obtain ⟨zs, X, e1, e2, _⟩ := hIv
  exact ⟨.inl rfl, D, rfl, by omega, hK, .inl ⟨zs, X, by rw [e1, hS], e2⟩⟩
 case stop =>
  rintro D c pre V hD ⟨q, hq⟩ ⟨rfl, zs, X, e1, e2⟩ hK
  refine wpIn_ret ⟨.inr rfl, D, rfl, by omega, hK, .inr ⟨zs, X, ?_, e2⟩⟩
  have h1 := keysW_prefix (pre.map Subtype.val) q
  rw [hq] at h1
  rw [e1]
  exact h1
end Go.Proofs.YtejhjijbgceklaaGreatDoor
namespace Go.AB
open Go Go.RowKit
open Go.AB.Enc (cells)
open Go.PB (Chap TextD PlaceD ReadingD CopyD WayD)
def cmpS (a b : ByteArray) : Int := if sLess a b = true then -1 else if sLess b a = true then 1 else 0
theorem cmpS_lt {a b : ByteArray} : cmpS a b < 0 ↔ ltS a b := by
 unfold cmpS ltS
 split
 ·simp [*]
 ·split <;> simp [*]
theorem cmpS_ord : Ord3 (fun _ => True) cmpS where
 irrefl x _ h := ltS_irr (cmpS_lt.1 h)
 trans x y z _ _ _ h k := cmpS_lt.2 (ltS_trans (cmpS_lt.1 h) (cmpS_lt.1 k))
 ntrans x y z _ _ _ h k e := by
  rw [cmpS_lt] at h k e
  by_cases h2 : ltS y x
  ·by_cases h3 : ltS z y
   ·exact ltS_irr (ltS_trans (ltS_trans h3 h2) e)
   ·have := ltS_total k h3
    subst this
    exact h e
  ·have := ltS_total h h2
   subst this
   exact k e
theorem bl_gt (x y : List UInt8) : (!(Op.bytesLess x y || x == y)) = Op.bytesLess y x := by
 cases h : Op.bytesLess x y
 ·cases k : Op.bytesLess y x
  ·rw [bl_total h k]; simp
  ·have : x ≠ y := fun e => by subst e; rw [h] at k; cases k
   simp [this]
 ·cases k : Op.bytesLess y x
  ·rfl
  ·have := bl_trans h k
   rw [bl_irrefl] at this; cases this
theorem delG_sm {G : Nat → Option GObj} {n k : Nat} {o : GObj} (h : delG G n k = some o) : k ≠ n ∧ G k = some o := by
 unfold delG at h
 split at h
 ·cases h
 ·rename_i e; exact ⟨e, h⟩
theorem n_strgt {P : Program} {o : Oper} {st : St} {xt yt : TypeId} {x y : Operand} {m n : ByteArray} (ho : o.op = .binOp .gtr xt x y yt) (hx : evC st x = .v (.string m)) (hy : evC st y = .v (.string n)) : NStep P o st (.v (.bool (sLess n m))) :=
 n_str ho hx hy rfl fun w => by simp only [Op.stringOp]; rw [bl_gt]; rfl
/-- a row of texts of the frame's own -/
def vocG (kt : TypeId) (G : Nat → Option GObj) (nx : Nat) (L : List ByteArray) : Nat → Option GObj := setG (setG G nx (.box L.length [.own (nx + 1) L.length L.length])) (nx + 1) (.arr L.length 0 kt 1 L.length (flatC L))
theorem vocG_arr {kt : TypeId} {G : Nat → Option GObj} {nx : Nat} {L : List ByteArray} : vocG kt G nx L (nx + 1) = some (.arr L.length 0 kt 1 L.length (flatC L)) := setG_same _ _ _
theorem vocG_box {kt : TypeId} {G : Nat → Option GObj} {nx : Nat} {L : List ByteArray} : vocG kt G nx L nx = some (.box L.length [.own (nx + 1) L.length L.length]) := (setG_other (by omega)).trans (setG_same _ _ _)
theorem vocG_old {kt : TypeId} {G : Nat → Option GObj} {nx n : Nat} {L : List ByteArray} (h : n < nx) : vocG kt G nx L n = G n := (setG_other (by omega)).trans (setG_other (by omega))
theorem vocG_cases {kt : TypeId} {G : Nat → Option GObj} {nx n : Nat} {L : List ByteArray} {o : GObj} (h : vocG kt G nx L n = some o) : (n = nx + 1 ∧ o = .arr L.length 0 kt 1 L.length (flatC L)) ∨ (n = nx ∧ o = .box L.length [.own (nx + 1) L.length L.length]) ∨ (n ≠ nx + 1 ∧ n ≠ nx ∧ G n = some o) := by
 unfold vocG at h
 by_cases h1 : n = nx + 1
 ·rw [h1, setG_same] at h; cases h; exact .inl ⟨h1, rfl⟩
 ·rw [setG_other h1] at h
  by_cases h2 : n = nx
  ·rw [h2, setG_same] at h; cases h; exact .inr (.inl ⟨h2, rfl⟩)
  ·rw [setG_other h2] at h; exact .inr (.inr ⟨h1, h2, h⟩)
theorem vocG_sub {kt : TypeId} {G G' : Nat → Option GObj} {nx n : Nat} {L : List ByteArray} {o : GObj} (hG : ∀ n o, G n = some o → G' n = some o) (h : vocG kt G nx L n = some o) : vocG kt G' nx L n = some o := by
 rcases vocG_cases h with ⟨h1, rfl⟩ | ⟨h1, rfl⟩ | ⟨h1, h2, h3⟩
 ·subst h1; exact vocG_arr
 ·subst h1; exact vocG_box
 ·exact (setG_other h1).trans ((setG_other h2).trans (hG _ _ h3))
theorem vocG_new {kt : TypeId} {G : Nat → Option GObj} {nx M : Nat} {L L0 : List ByteArray} {st : St} (hst : st.G = vocG kt G nx L0) : NewOk st (vocG kt (delG G M) nx L) (nx + 1 + 1) := fun n o h => by
 rcases vocG_cases h with ⟨h1, rfl⟩ | ⟨h1, rfl⟩ | ⟨h1, h2, h3⟩
 ·exact .inr ⟨by omega, flatC_low _, fun _ => rfl⟩
 ·exact .inr ⟨by omega, low_cons (.own (by omega)) low_nil, fun _ => rfl⟩
 ·rw [hst]
  exact .inl ((setG_other h1).trans ((setG_other h2).trans (delG_sm h3).2))
end Go.AB
namespace Go.Proofs.YtejhjijbgceklaaGreatDoor
set_option maxRecDepth 10000
open Go.RowKit Go.AB
open Go.AB.Enc (cells)
open Go.PB (Chap TextD PlaceD ReadingD CopyD WayD)
instance : Ty Tryz.prog (srt_string_ren.t 24) false 1 := inferInstanceAs (Ty Tryz.prog 9 false 1)
theorem isNaNS_pure (x : ByteArray) : Pure Tryz.prog 85 [.v (.string x)] (.v (.bool false)) := by
 refine pure_of_body Tryz.func85 rfl (fun m => .v) fun G nx => ?_
 simp only [Tryz.ntmps85, List.length_cons, List.length_nil, Nat.reduceAdd, Nat.reduceSub]
 refine aw_lt fun hlt => ?_
 dsimp only at hlt
 refine aw_seq_k fun K1 hK1 => ?_
 refine aw_region ?_
 refine aops_n rfl (n_as rfl (by constructor)) ?_
 refine aops_nil ?_
 dsimp only [St.put]
 refine hK1 _ ?_
 refine aw_seq_k fun K2 hK2 => ?_
 refine aw_region ?_
 refine aops_n rfl (n_mv rfl (by constructor)) ?_
 refine aops_n rfl (n_mv rfl (by constructor)) ?_
 refine aops_n rfl (n_strne rfl rfl rfl) ?_
 refine aops_n rfl (n_as rfl (by constructor)) ?_
 refine aops_nil ?_
 dsimp only [St.put]
 refine hK2 _ ?_
 refine aw_ret ?_
 refine ends_1 rfl (by constructor) zN zS ?_
 exact vb (by simp)
theorem cmpCompareS_pure (x y : ByteArray) : Pure Tryz.prog 63 [.v (.string x), .v (.string y)] (.v (.int .i64 (cmpS x y))) := by
 refine pure_of_body Tryz.func63 rfl (fun m => .v) fun G nx => ?_
 simp only [Tryz.ntmps63, List.length_cons, List.length_nil, Nat.reduceAdd, Nat.reduceSub]
 refine aw_lt fun hlt => ?_
 dsimp only at hlt
 refine aw_seq_k fun K1 hK1 => ?_
 refine aw_region ?_
 refine aops_n rfl (n_as rfl (by constructor)) ?_
 refine aops_nil ?_
 dsimp only [St.put]
 refine hK1 _ ?_
 refine aw_seq_k fun K2 hK2 => ?_
 refine aw_region ?_
 refine aops_n rfl (n_mv rfl (by constructor)) ?_
 try dsimp only [St.put]
 refine aops_e rfl (e_call_pure rfl rfl rfl (isNaNS_pure _) ?_)
 refine aops_n rfl (n_as rfl (by constructor)) ?_
 refine aops_nil ?_
 dsimp only [St.put]
 refine hK2 _ ?_
 refine aw_seq_k fun K3 hK3 => ?_
 refine aw_region ?_
 refine aops_n rfl (n_mv rfl (by constructor)) ?_
 try dsimp only [St.put]
 refine aops_e rfl (e_call_pure rfl rfl rfl (isNaNS_pure _) ?_)
 refine aops_n rfl (n_as rfl (by constructor)) ?_
 refine aops_nil ?_
 dsimp only [St.put]
 refine hK3 _ ?_
 refine aw_seq_k fun K4 hK4 => ?_
 refine aw_seq_k fun K5 hK5 => ?_
 refine aw_region ?_
 refine aops_n rfl (n_bool (c := false) (n_mv rfl (by constructor)) (by rfl)) ?_
 refine aops_nil ?_
 dsimp only [St.put]
 refine hK5 _ ?_
 refine aw_cond rfl (fun h => by cases h) (fun _ => ?_)
 refine aw_skip ?_
 refine hK4 _ ?_
 refine aw_seq_k fun K6 hK6 => ?_
 refine aw_seq_k fun K7 hK7 => ?_
 refine aw_region ?_
 refine aops_n rfl (n_bool (c := false) (n_mv rfl (by constructor)) (by rfl)) ?_
 refine aops_nil ?_
 dsimp only [St.put]
 refine hK7 _ ?_
 refine aw_cond rfl (fun h => by cases h) (fun _ => ?_)
 refine aw_skip ?_
 refine hK6 _ ?_
 refine aw_seq_k fun K8 hK8 => ?_
 refine aw_seq_k fun K9 hK9 => ?_
 refine aw_region ?_
 refine aops_n rfl (n_mv rfl (by constructor)) ?_
 refine aops_n rfl (n_mv rfl (by constructor)) ?_
 refine aops_n rfl (n_strlt rfl rfl rfl) ?_
 refine aops_nil ?_
 dsimp only [St.put]
 refine hK9 _ ?_
 refine aw_cond rfl (fun hc => ?_) (fun hc => ?_)
 ·have h1 := hc
  refine aw_seq_k fun K10 hK10 => ?_
  refine aw_region ?_
  refine aops_n rfl (n_as rfl (by constructor)) ?_
  refine aops_nil ?_
  dsimp only [St.put]
  refine hK10 _ ?_
  refine aw_ret ?_
  refine ends_1 rfl (by constructor) zN zS ?_
  exact vi (by simp [cmpS, h1])
 ·have h1 := hc
  refine aw_skip ?_
  refine hK8 _ ?_
  refine aw_seq_k fun K11 hK11 => ?_
  refine aw_seq_k fun K12 hK12 => ?_
  refine aw_region ?_
  refine aops_n rfl (n_mv rfl (by constructor)) ?_
  refine aops_n rfl (n_mv rfl (by constructor)) ?_
  refine aops_n rfl (n_strgt rfl rfl rfl) ?_
  refine aops_nil ?_
  dsimp only [St.put]
  refine hK12 _ ?_
  refine aw_cond rfl (fun hc => ?_) (fun hc => ?_)
  ·try replace hc := of_decide_eq_true hc
   refine aw_seq_k fun K13 hK13 => ?_
   refine aw_region ?_
   refine aops_n rfl (n_as rfl (by constructor)) ?_
   refine aops_nil ?_
   dsimp only [St.put]
   refine hK13 _ ?_
   refine aw_ret ?_
   refine ends_1 rfl (by constructor) zN zS ?_
   exact vi (by simp [cmpS, hc, h1])
  ·try replace hc := of_decide_eq_false hc
   refine aw_skip ?_
   refine hK11 _ ?_
   refine aw_seq_k fun K14 hK14 => ?_
   refine aw_region ?_
   refine aops_n rfl (n_as rfl (by constructor)) ?_
   refine aops_nil ?_
   dsimp only [St.put]
   refine hK14 _ ?_
   refine aw_ret ?_
   refine ends_1 rfl (by constructor) zN zS ?_
   exact vi (by simp [cmpS, hc, h1])
theorem appendSeq_pc (t : TextD) (ht : textB t = true) (M wv : Nat) (G : Nat → Option GObj) (nx : Nat) (hG : G M = some (gmap Tryz.prog 9 wv (ixF (allP t)))) : PC Tryz.prog 101 [.list [] .nil, (.fn (.func 61) [.elem [.elem [lst t]], .elem [.map M]])] G nx fun r' G' nx' => r' = .own (nx + 1) (keysW (allP t)).length (keysW (allP t)).length ∧ G' = (setG (delG G M) (nx + 1) (.arr (keysW (allP t)).length 0 9 1 (keysW (allP t)).length (flatC (keysW (allP t))))) ∧ nx' = nx + 1 + 1 := by
 refine pc_named_of_body ((setG (delG G M) (nx + 1) (.arr (keysW (allP t)).length 0 9 1 (keysW (allP t)).length (flatC (keysW (allP t)))))) (nx + 1 + 1) Tryz.func101 rfl (.own (show nx + 1 < nx + 1 + 1 by omega)) zN (fun hlt => (by (repeat' (refine lowG_set ?_ (by (try dsimp only); omega) ?_)); all_goals (first | exact lowG_base zS | (repeat' (first | exact trivial | refine ⟨?_, ?_⟩ | exact .v | exact .any | refine .elem ?_ | exact lst_low _ _ | exact cells_low _ _ | exact val_low _ _ | exact data_low _ (by (try dsimp only); omega) | exact .box (by (try dsimp only); omega) | exact nil_low | exact low_nil | exact flatC_low _ | exact lowG_base fun k o h => (delG_sm h).2 | refine set_low ?_ ?_ | exact .arr (by (try dsimp only); omega) | exact .own (by (try dsimp only); omega) | exact .map (by (try dsimp only); omega) | exact flatC_low _ | refine low_cons ?_ ?_ | exact lst_low _ _))))) ?_
 simp only [Tryz.ntmps101, List.length_cons, List.length_nil, Nat.reduceAdd, Nat.reduceSub]
 refine aw_lt fun hlt => ?_
 dsimp only at hlt
 have hM : M < nx := hlt M _ hG
 have hkl := keysW_len (allP t)
 have hpl := allP_len ht
 refine aw_seq_k fun K1 hK1 => ?_
 refine aw_region ?_
 try dsimp only [St.put]
 refine aops_e rfl (e_box_named rfl rfl ?_)
 refine aops_n rfl (n_as rfl (by constructor)) ?_
 refine aops_nil ?_
 dsimp only [St.put]
 refine hK1 _ ?_
 refine aw_adopt_own_box nx 0 _ _ 9 1 zG rfl (by decide) ?_
 dsimp only [List.set_cons_zero, List.set_cons_succ]
 refine aw_seq_k fun K2 hK2 => ?_
 refine aw_seq_k fun K3 hK3 => ?_
 refine aw_region ?_
 refine aops_n rfl (n_mv rfl (by constructor)) ?_
 refine aops_nil ?_
 dsimp only [St.put]
 refine hK3 _ ?_
 refine aw_block ?_
 refine aw_wipe 7 ?_
 simp only [firsts, getA, Nat.reduceAdd, List.getD_cons_zero, List.getD_cons_succ, List.getD_nil, natBeq, Nat.reduceBEq, cond_true, cond_false]
 refine aw_forget (vocG 9 G nx []) zX ?_
 dsimp only
 refine aw_rangeFuncM (M) (fun s => [.v (.string s)]) [7] (fun zs => vocG 9 (delG G M) nx zs) (fun zs => nx + 1 + 1) (fun _ _ (_ : Unit) => False) (fun _ => fun _ => none) (fun _ => 0) (fun x => [(7, .v (.string x))]) (each_iter t ht M wv) ((vocG_old hM).trans hG) ((vocG_old hM).trans (by simp [delG])) rfl rfl (fun _ => rfl) (fun x hx E W => by
 obtain ⟨p, hp, rfl⟩ := List.mem_map.1 (keysW_mem.1 hx)
 exact Rs.cons (.v (okV_str.2 (by have := allP_word ht hp; omega))) Rs.nil) ?_ ?_ (rfl) ?_ (fun _ _ _ h => h.elim) ?_ (fun _ _ _ h => h.elim) (fun lr pre x hx hlen hpre => ?_) (fun _ _ _ _ h => h.elim) ?_
 ·intro pre x
  rfl
 ·exact fun n o h => vocG_sub (fun n o h => (delG_sm h).2) h
 ·exact fun zs => Nat.le_refl _
 ·exact fun zs => vocG_new rfl
 ·unfold vocG
  replace hlt : ∀ n o, delG G M n = some o → n < nx := fun n o h => hlt n o (delG_sm h).2
  refine aw_region ?_
  refine aops_n rfl (n_as rfl (by constructor)) ?_
  refine aops_nil ?_
  dsimp only [St.put]
  show AW _ _ _ _ _
  refine aw_block ?_
  refine aw_region ?_
  try dsimp only [St.put]
  refine aops_s rfl (s_load_box rfl rfl zG trivial (by first | rfl | assumption)) ?_
  refine aops_n rfl (n_mv rfl (by constructor)) ?_
  try dsimp only [St.put]
  refine aops_e rfl (e_buildSlice rfl rfl rfl (by decide) (by decide) zR (by decide) ?_)
  try dsimp only [St.put]
  refine aops_e rfl (e_append_own x rfl rfl zG rfl rfl rfl rfl zA ?_ zA)
  try dsimp only [St.put]
  refine aops_e rfl (e_store_all rfl rfl rfl zG rfl rfl (by rfl) ?_)
  refine aops_nil ?_
  dsimp only [St.put]
  unfold ABlock RPostN
  dsimp only
  simp only [List.length_append, List.length_singleton]
  exact ⟨zX, Nat.le_refl _⟩
 ·dsimp only
  unfold vocG
  refine hK2 _ ?_
  refine aw_seq_k fun K4 hK4 => ?_
  refine aw_region ?_
  try dsimp only [St.put]
  refine aops_s rfl (s_load_box rfl rfl zG trivial (by first | rfl | assumption)) ?_
  refine aops_n rfl (n_as rfl (by constructor)) ?_
  refine aops_nil ?_
  dsimp only [St.put]
  refine hK4 _ ?_
  refine aw_ret ?_
  refine ends_1 rfl (by constructor) zN (fun n o h => by
 by_cases e : n = nx + 1
 ·subst e
  exact (setG_same _ _ _).trans ((setG_same _ _ _).symm.trans h)
 ·rw [setG_other e] at h
  exact (setG_other e).trans ((setG_other (by have := hlt n o (delG_sm h).2; omega)).trans h)) ?_
  rfl
theorem collect_pc (t : TextD) (ht : textB t = true) (M wv : Nat) (G : Nat → Option GObj) (nx : Nat) (hG : G M = some (gmap Tryz.prog 9 wv (ixF (allP t)))) : PC Tryz.prog 94 [(.fn (.func 61) [.elem [.elem [lst t]], .elem [.map M]])] G nx fun r' G' nx' => r' = .own (nx + 1) (keysW (allP t)).length (keysW (allP t)).length ∧ G' = (setG (delG G M) (nx + 1) (.arr (keysW (allP t)).length 0 9 1 (keysW (allP t)).length (flatC (keysW (allP t))))) ∧ nx' = nx + 1 + 1 := by
 refine pc_named_of_body ((setG (delG G M) (nx + 1) (.arr (keysW (allP t)).length 0 9 1 (keysW (allP t)).length (flatC (keysW (allP t)))))) (nx + 1 + 1) Tryz.func94 rfl (.own (show nx + 1 < nx + 1 + 1 by omega)) zN (fun hlt => (by (repeat' (refine lowG_set ?_ (by (try dsimp only); omega) ?_)); all_goals (first | exact lowG_base zS | (repeat' (first | exact trivial | refine ⟨?_, ?_⟩ | exact .v | exact .any | refine .elem ?_ | exact lst_low _ _ | exact cells_low _ _ | exact val_low _ _ | exact data_low _ (by (try dsimp only); omega) | exact .box (by (try dsimp only); omega) | exact nil_low | exact low_nil | exact flatC_low _ | exact lowG_base fun k o h => (delG_sm h).2 | refine set_low ?_ ?_ | exact .arr (by (try dsimp only); omega) | exact .own (by (try dsimp only); omega) | exact .map (by (try dsimp only); omega) | exact flatC_low _ | refine low_cons ?_ ?_ | exact lst_low _ _))))) ?_
 simp only [Tryz.ntmps94, List.length_cons, List.length_nil, Nat.reduceAdd, Nat.reduceSub]
 refine aw_lt fun hlt => ?_
 dsimp only at hlt
 have hM : M < nx := hlt M _ hG
 refine aw_seq_k fun K1 hK1 => ?_
 refine aw_region ?_
 refine aops_n rfl (n_as rfl (by constructor)) ?_
 refine aops_nil ?_
 dsimp only [St.put]
 refine hK1 _ ?_
 refine aw_seq_k fun K2 hK2 => ?_
 refine aw_region ?_
 refine aops_n rfl (n_mv rfl (by constructor)) ?_
 try dsimp only [St.put]
 refine aops_e rfl (e_call_named rfl rfl rfl (appendSeq_pc t ht M wv _ _ hG) ?_)
 refine aops_n rfl (n_as rfl (by constructor)) ?_
 refine aops_nil ?_
 dsimp only [St.put]
 refine hK2 _ ?_
 refine aw_ret ?_
 refine ends_1 rfl (by constructor) zN (fun n o h => h) ?_
 rfl
theorem sorted_keys {zs : List PW} {ys : List ByteArray} (h1 : ys.Perm (keysW zs)) (h2 : ys.Pairwise fun a b => ¬ cmpS b a < 0) : ys = vocL (zs.map (·.2)) := by
 have h3 : ys.Nodup := h1.nodup_iff.2 (keysW_nodup zs)
 refine voc_unique ?_ (vocL_sorted _) fun x => ?_
 ·refine (h2.and h3).imp fun {a b} h => ?_
  have h4 : ¬ ltS b a := fun e => h.1 (cmpS_lt.2 e)
  by_cases h5 : ltS a b
  ·exact h5
  ·exact absurd (ltS_total h5 h4) h.2
 ·rw [vocL_mem, h1.mem_iff, keysW_mem]
theorem sortedFunc_pc (t : TextD) (ht : textB t = true) (M wv : Nat) (G : Nat → Option GObj) (nx : Nat) (hG : G M = some (gmap Tryz.prog 9 wv (ixF (allP t)))) : PC Tryz.prog 84 [(.fn (.func 61) [.elem [.elem [lst t]], .elem [.map M]]), .fn (.func 63) []] G nx fun r' G' nx' => r' = lst (vocL ((allP t).map (·.2))) ∧ G' = delG G M ∧ nx' = nx + 1 + 1 := by
 refine pc_named_of_body (delG G M) (nx + 1 + 1) Tryz.func84 rfl (lst_low _ _) zN (fun hlt => (by (repeat' (refine lowG_set ?_ (by (try dsimp only); omega) ?_)); all_goals (first | exact lowG_base zS | (repeat' (first | exact trivial | refine ⟨?_, ?_⟩ | exact .v | exact .any | refine .elem ?_ | exact lst_low _ _ | exact cells_low _ _ | exact val_low _ _ | exact data_low _ (by (try dsimp only); omega) | exact .box (by (try dsimp only); omega) | exact nil_low | exact low_nil | exact lowG_base fun k o h => (delG_sm h).2 | refine set_low ?_ ?_ | exact .arr (by (try dsimp only); omega) | exact .own (by (try dsimp only); omega) | exact .map (by (try dsimp only); omega) | exact flatC_low _ | refine low_cons ?_ ?_ | exact lst_low _ _))))) ?_
 simp only [Tryz.ntmps84, List.length_cons, List.length_nil, Nat.reduceAdd, Nat.reduceSub]
 refine aw_lt fun hlt => ?_
 dsimp only at hlt
 have hM : M < nx := hlt M _ hG
 have hkl := keysW_len (allP t)
 have hpl := allP_len ht
 refine aw_seq_k fun K1 hK1 => ?_
 refine aw_region ?_
 refine aops_n rfl (n_as rfl (by constructor)) ?_
 refine aops_nil ?_
 dsimp only [St.put]
 refine hK1 _ ?_
 refine aw_seq_k fun K2 hK2 => ?_
 refine aw_region ?_
 refine aops_n rfl (n_mv rfl (by constructor)) ?_
 try dsimp only [St.put]
 refine aops_e rfl (e_call_named rfl rfl rfl (collect_pc t ht M wv _ _ hG) ?_)
 refine aops_n rfl (n_as rfl (by constructor)) ?_
 refine aops_nil ?_
 dsimp only [St.put]
 refine hK2 _ ?_
 refine aw_seq_k fun K3 hK3 => ?_
 refine aw_region ?_
 refine aops_n rfl (n_mv rfl (by constructor)) ?_
 refine aops_n rfl (n_mv rfl (by constructor)) ?_
 try dsimp only [St.put]
 refine aops_e rfl (e_sortS srt_string cmpS rfl rfl rfl rfl (setG_same _ _ _) rfl rfl rfl (by omega) cmpCompareS_pure cmpS_ord (fun ys hperm hsort => ?_))
 obtain rfl := sorted_keys hperm hsort
 refine aops_nil ?_
 dsimp only [St.put]
 refine hK3 _ ?_
 refine aw_commit_own 5 (vocL ((allP t).map (·.2))) rfl (setG_same _ _ _) rfl rfl (by have := hperm.length_eq; omega) ?_
 refine aw_seq_k fun K4 hK4 => ?_
 refine aw_region ?_
 refine aops_n rfl (n_mv rfl (by constructor)) ?_
 refine aops_n rfl (n_as rfl (by constructor)) ?_
 refine aops_nil ?_
 dsimp only [St.put]
 refine hK4 _ ?_
 refine aw_ret ?_
 refine ends_1 rfl (by constructor) zN (fun n o h => by
 have h1 := hlt n o (delG_sm h).2
 show delG _ _ _ = _
 unfold delG
 rw [if_neg (by omega)]
 exact (setG_other (by omega)).trans ((setG_other (by omega)).trans h)) ?_
 rfl
theorem sorted_pc (t : TextD) (ht : textB t = true) (M wv : Nat) (G : Nat → Option GObj) (nx : Nat) (hG : G M = some (gmap Tryz.prog 9 wv (ixF (allP t)))) : PC Tryz.prog 62 [(.fn (.func 61) [.elem [.elem [lst t]], .elem [.map M]]), .fn (.func 63) []] G nx fun r' G' nx' => r' = lst (vocL ((allP t).map (·.2))) ∧ G' = delG G M ∧ nx' = nx + 1 + 1 := by
 refine pc_named_of_body (delG G M) (nx + 1 + 1) Tryz.func62 rfl (lst_low _ _) zN (fun hlt => (by (repeat' (refine lowG_set ?_ (by (try dsimp only); omega) ?_)); all_goals (first | exact lowG_base zS | (repeat' (first | exact trivial | refine ⟨?_, ?_⟩ | exact .v | exact .any | refine .elem ?_ | exact lst_low _ _ | exact cells_low _ _ | exact val_low _ _ | exact data_low _ (by (try dsimp only); omega) | exact .box (by (try dsimp only); omega) | exact nil_low | exact low_nil | exact lowG_base fun k o h => (delG_sm h).2 | refine set_low ?_ ?_ | exact .arr (by (try dsimp only); omega) | exact .own (by (try dsimp only); omega) | exact .map (by (try dsimp only); omega) | exact flatC_low _ | refine low_cons ?_ ?_ | exact lst_low _ _))))) ?_
 simp only [Tryz.ntmps62, List.length_cons, List.length_nil, Nat.reduceAdd, Nat.reduceSub]
 refine aw_lt fun hlt => ?_
 dsimp only at hlt
 have hM : M < nx := hlt M _ hG
 refine aw_seq_k fun K1 hK1 => ?_
 refine aw_region ?_
 refine aops_n rfl (n_as rfl (by constructor)) ?_
 refine aops_nil ?_
 dsimp only [St.put]
 refine hK1 _ ?_
 refine aw_seq_k fun K2 hK2 => ?_
 refine aw_region ?_
 refine aops_n rfl (n_mv rfl (by constructor)) ?_
 refine aops_n rfl (n_mv rfl (by constructor)) ?_
 try dsimp only [St.put]
 refine aops_e rfl (e_call_named rfl rfl rfl (sortedFunc_pc t ht M wv _ _ hG) ?_)
 refine aops_n rfl (n_as rfl (by constructor)) ?_
 refine aops_nil ?_
 dsimp only [St.put]
 refine hK2 _ ?_
 refine aw_ret ?_
 refine ends_1 rfl (by constructor) zN (fun n o h => h) ?_
 rfl
theorem leafVoc_no (t : TextD) (htx : textB t = false) : Pure Tryz.prog 33 [textC t] (.tup [lst (vocV t), .v (.int .i64 (textEr t))]) := by
 refine pure_of_body Tryz.func33 rfl (fun m => .tup (low_cons (lst_low _ _) (low_cons .v low_nil))) fun G nx => ?_
 simp only [Tryz.ntmps33, List.length_cons, List.length_nil, Nat.reduceAdd, Nat.reduceSub]
 refine aw_lt fun hlt => ?_
 dsimp only at hlt
 refine aw_seq_k fun K1 hK1 => ?_
 refine aw_region ?_
 try dsimp only [St.put]
 refine aops_e rfl (e_box rfl rfl (by simp) ?_)
 refine aops_n rfl (n_as rfl (by constructor)) ?_
 refine aops_n rfl (n_as rfl (by constructor)) ?_
 refine aops_nil ?_
 dsimp only [St.put]
 refine hK1 _ ?_
 refine aw_seq_k fun K2 hK2 => ?_
 refine aw_region ?_
 try dsimp only [St.put]
 refine aops_s rfl (s_load_agg' rfl rfl rfl) ?_
 try dsimp only [St.put]
 refine aops_e rfl (e_call_pure rfl rfl rfl (leafOpen_no t htx) ?_)
 refine aops_n rfl (n_mv rfl (by constructor)) ?_
 refine aops_n rfl (n_extract rfl rfl rfl) ?_
 refine aops_n rfl (n_extract rfl rfl rfl) ?_
 try dsimp only [St.put]
 refine aops_e rfl (e_allocC rfl ?_)
 try dsimp only [St.put]
 refine aops_e rfl (e_store_all rfl rfl rfl zG rfl rfl (by rfl) ?_)
 refine aops_n rfl (n_as rfl (by constructor)) ?_
 refine aops_nil ?_
 dsimp only [St.put]
 refine hK2 _ ?_
 refine aw_seq_k fun K3 hK3 => ?_
 refine aw_seq_k fun K4 hK4 => ?_
 refine aw_region ?_
 refine aops_n rfl (n_mv rfl (by constructor)) ?_
 refine aops_n rfl (n_bool (c := true) (n_neq rfl rfl rfl) (not_dec_t (by decide))) ?_
 refine aops_nil ?_
 dsimp only [St.put]
 refine hK4 _ ?_
 refine aw_cond rfl (fun _ => ?_) (fun h => by cases h)
 refine aw_seq_k fun K5 hK5 => ?_
 refine aw_region ?_
 refine aops_n rfl (n_mv rfl (by constructor)) ?_
 refine aops_n rfl (n_as rfl (by constructor)) ?_
 refine aops_n rfl (n_as rfl (by constructor)) ?_
 refine aops_nil ?_
 dsimp only [St.put]
 refine hK5 _ ?_
 refine aw_ret ?_
 refine ends_v2 rfl (rv_tmp (by constructor)) (rv_tmp (by constructor)) zN zS ?_ ?_
 ·rw [show vocV t = [] by simp [vocV, htx]]
  exact zW
 ·exact Wk.of_eq (vi (by simp [textEr, htx]))
theorem leafVoc_yes (t : TextD) (htx : textB t = true) : Pure Tryz.prog 33 [textC t] (.tup [lst (vocV t), .v (.int .i64 (textEr t))]) := by
 refine pure_of_body Tryz.func33 rfl (fun m => .tup (low_cons (lst_low _ _) (low_cons .v low_nil))) fun G nx => ?_
 simp only [Tryz.ntmps33, List.length_cons, List.length_nil, Nat.reduceAdd, Nat.reduceSub]
 refine aw_lt fun hlt => ?_
 dsimp only at hlt
 refine aw_seq_k fun K1 hK1 => ?_
 refine aw_region ?_
 try dsimp only [St.put]
 refine aops_e rfl (e_box rfl rfl (by simp) ?_)
 refine aops_n rfl (n_as rfl (by constructor)) ?_
 refine aops_n rfl (n_as rfl (by constructor)) ?_
 refine aops_nil ?_
 dsimp only [St.put]
 refine hK1 _ ?_
 refine aw_seq_k fun K2 hK2 => ?_
 refine aw_region ?_
 try dsimp only [St.put]
 refine aops_s rfl (s_load_agg' rfl rfl rfl) ?_
 try dsimp only [St.put]
 refine aops_e rfl (e_call_pure rfl rfl rfl (leafOpen_yes t htx) ?_)
 refine aops_n rfl (n_mv rfl (by constructor)) ?_
 refine aops_n rfl (n_extract rfl rfl rfl) ?_
 refine aops_n rfl (n_extract rfl rfl rfl) ?_
 try dsimp only [St.put]
 refine aops_e rfl (e_allocC rfl ?_)
 try dsimp only [St.put]
 refine aops_e rfl (e_store_all rfl rfl rfl zG rfl rfl (by rfl) ?_)
 refine aops_n rfl (n_as rfl (by constructor)) ?_
 refine aops_nil ?_
 dsimp only [St.put]
 refine hK2 _ ?_
 refine aw_commitD (i := 4) rfl zG (by first | exact List.cons_ne_nil _ _ | (simp; done) | (simp [putAt]; done)) ?_
 dsimp only
 refine aw_seq_k fun K3 hK3 => ?_
 refine aw_seq_k fun K4 hK4 => ?_
 refine aw_region ?_
 refine aops_n rfl (n_mv rfl (by constructor)) ?_
 refine aops_n rfl (n_bool (c := false) (n_neq rfl rfl rfl) (not_dec_f rfl)) ?_
 refine aops_nil ?_
 dsimp only [St.put]
 refine hK4 _ ?_
 refine aw_cond rfl (fun h => by cases h) (fun _ => ?_)
 refine aw_skip ?_
 refine hK3 _ ?_
 refine aw_seq_k fun K5 hK5 => ?_
 refine aw_region ?_
 try dsimp only [St.put]
 refine aops_s rfl (s_load rfl rfl) ?_
 try dsimp only [St.put]
 refine aops_e rfl (e_call_named rfl rfl rfl (leafIndex_pc t htx _ _) ?_)
 try dsimp only [St.put]
 refine aops_e rfl (e_allocC rfl ?_)
 try dsimp only [St.put]
 refine aops_e rfl (e_store_all rfl rfl rfl zG rfl rfl (by rfl) ?_)
 refine aops_nil ?_
 dsimp only [St.put]
 refine hK5 _ ?_
 refine aw_commitD (i := 6) rfl zG (by first | exact List.cons_ne_nil _ _ | (simp; done) | (simp [putAt]; done)) ?_
 dsimp only
 refine aw_seq_k fun K6 hK6 => ?_
 refine aw_region ?_
 refine aops_n rfl (n_makeFunc rfl rfl) ?_
 refine aops_n rfl (n_as rfl (by constructor)) ?_
 refine aops_nil ?_
 dsimp only [St.put]
 refine hK6 _ ?_
 refine aw_seq_k fun K7 hK7 => ?_
 refine aw_region ?_
 refine aops_n rfl (n_mv rfl (by constructor)) ?_
 try dsimp only [St.put]
 refine aops_e rfl (e_call_named rfl rfl rfl (sorted_pc t htx _ _ _ _ zG) ?_)
 refine aops_n rfl (n_as rfl (by constructor)) ?_
 refine aops_n rfl (n_as rfl (by constructor)) ?_
 refine aops_nil ?_
 dsimp only [St.put]
 refine hK7 _ ?_
 refine aw_ret ?_
 refine ends_v2 rfl (rv_tmp (by constructor)) (rv_tmp (by constructor)) zN zS ?_ ?_
 ·rw [show vocV t = vocL ((allP t).map (·.2)) by simp [vocV, htx, wordsT]]
  exact zW
 ·exact Wk.of_eq (vi (by simp [textEr, htx]))
theorem leafVocabulary_pure (t : TextD) : Pure Tryz.prog 33 [textC t] (.tup [lst (vocV t), .v (.int .i64 (textEr t))]) := by
 cases h : textB t
 ·exact leafVoc_no t h
 ·exact leafVoc_yes t h
end Go.Proofs.YtejhjijbgceklaaGreatDoor

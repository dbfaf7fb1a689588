/-
  What the walks through the program rest on: values, states, steps, calls (HdKeys, HeMap).
-/
import Derived.Test.YtejhjijbgceklaaGreatDoorGrpO
import Derived.Test.YtejhjijbgceklaaGreatDoorCkKeys
import Derived.Test.YtejhjijbgceklaaGreatDoorHaCopy
namespace Go.AB
open Go Go.RowKit
open Go.PB (Chap TextD PlaceD ReadingD CopyD WayD)
def fs3Chk (P : Program) (k u : TypeId) : Bool := match P.underlying k with
 | some (.struct fs) => (match fs.toList with
  | [a, b, c] => a.type == u && b.type == u && c.type == u && a.offset == 0 && b.offset == 1 && c.offset == 2 && fs.all (·.name != "_")
  | _ => false)
 | _ => false
theorem key3 {P : Program} {k u : TypeId} (h : fs3Chk P k u = true) (hu : P.underlying u = some (.int .i64)) (h3 : P.cellsOf k = 3) (h1 : P.cellsOf u = 1) (hk : P.keyType k = true) (hm : ∃ m, P.types.size = m + 3) {x y z : Int} (hx : (Lit.int .i64 x).wf = true) (hy : (Lit.int .i64 y).wf = true) (hz : (Lit.int .i64 z).wf = true) : ∃ l, keyOf P k (.agg #[.int .i64 x, .int .i64 y, .int .i64 z]) = some l := by
 obtain ⟨m, hm⟩ := hm
 unfold fs3Chk at h
 split at h
 ·rename_i fs hfs
  split at h
  ·rename_i a b c habc
   simp only [Bool.and_eq_true, beq_iff_eq] at h
   obtain ⟨⟨⟨⟨⟨⟨e1, e2⟩, e3⟩, e4⟩, e5⟩, e6⟩, e7⟩ := h
   have hf : (Value.agg #[.int .i64 x, .int .i64 y, .int .i64 z]).formed P k = true := by simp [Value.formed, hfs, h3]
   refine ⟨.string (keyBytes [.int .i64 x, .int .i64 y, .int .i64 z]), ?_⟩
   unfold keyOf
   rw [hfs]
   simp only [hk, hf, Bool.and_self, if_true]
   have hl : P.keyLits (P.types.size + 1) k (Value.agg #[.int .i64 x, .int .i64 y, .int .i64 z]).cells.toList = some [.int .i64 x, .int .i64 y, .int .i64 z] := by
    rw [hm]
    unfold Program.keyLits
    simp only [hfs, h3, h1, e1, e2, e3, e4, e5, e6, e7, habc, Value.cells]
    unfold Program.keyLits
    simp [hu, h1, e1, e2, e3, e4, e5, e6, hx, hy, hz]
   rw [hl]
   rfl
  ·cases h
 ·cases h
end Go.AB
namespace Go.Proofs.YtejhjijbgceklaaGreatDoor
set_option maxRecDepth 10000
open Go Go.RowKit Go.AB
open Go.PB (Chap TextD PlaceD ReadingD CopyD WayD)
theorem placeLaw : Go.Maps.Keyed Tryz.prog 45 := Go.Maps.Keyed.of_law (deep_law_laid laidOutK (m := 2) (by omega) (of_decide_eq_true (by kernel_rfl)) (by kernel_rfl) (by kernel_rfl))
instance : KeyT Tryz.prog 45 PlaceD where
 keyed := placeLaw
 has {E w x v} h := by
  obtain ⟨vs, rfl, h1, _⟩ := R.agg_inv h
  match vs, h1 with
  | [a, b, c], h1 => exact key3 (u := 3) (by kernel_rfl) uIntK (by kernel_rfl) (by kernel_rfl) (by kernel_rfl) manyTypesK (lit_i64 (key_i64 (h1.2 0 _ _ rfl rfl))) (lit_i64 (key_i64 (h1.2 1 _ _ rfl rfl))) (lit_i64 (key_i64 (h1.2 2 _ _ rfl rfl)))
  | [], h => exact absurd h.1 (by simp)
  | [_], h => exact absurd h.1 (by simp)
  | [_, _], h => exact absurd h.1 (by simp)
  | _ :: _ :: _ :: _ :: _, h => exact absurd h.1 (by simp)
end Go.Proofs.YtejhjijbgceklaaGreatDoor
namespace Go.AB
open Go Go.RowKit
open Go.AB.Enc (cells)
open Go.PB (Chap TextD PlaceD ReadingD CopyD WayD)
/-- the places of the first readings, as they come up -/
def keysN (rs : List ReadingD) : Nat → List PlaceD
 | 0 => []
 | k + 1 => match rs[k]? with
  | some r => if r.pl ∈ keysN rs k then keysN rs k else keysN rs k ++ [r.pl]
  | none => keysN rs k
theorem keysN_old {rs : List ReadingD} {k : Nat} {r : ReadingD} (hk : rs[k]? = some r) (h : r.pl ∈ keysN rs k) : keysN rs (k + 1) = keysN rs k := by
 simp [keysN, hk, h]
theorem keysN_new {rs : List ReadingD} {k : Nat} {r : ReadingD} (hk : rs[k]? = some r) (h : r.pl ∉ keysN rs k) : keysN rs (k + 1) = keysN rs k ++ [r.pl] := by
 simp [keysN, hk, h]
theorem readsAt_step {rs : List ReadingD} {k : Nat} {r : ReadingD} (hk : rs[k]? = some r) (p : PlaceD) : readsAt (rs.take (k + 1)) p = if r.pl = p then readsAt (rs.take k) p ++ [r] else readsAt (rs.take k) p := by
 rw [← take_snoc hk, readsAt, List.filter_append, List.filter_cons]
 split <;> rename_i h <;> simp at h <;> simp [readsAt, h]
theorem keysN_mem {rs : List ReadingD} : ∀ {k : Nat}, k ≤ rs.length → ∀ p, p ∈ keysN rs k ↔ readsAt (rs.take k) p ≠ []
 | 0, _, p => by simp [keysN, readsAt]
 | k + 1, h, p => by
  obtain ⟨r, hk⟩ : ∃ r, rs[k]? = some r := some_of_lt (l := rs) (k := k) (by omega)
  have ih := keysN_mem (rs := rs) (k := k) (by omega) p
  rw [readsAt_step hk]
  by_cases hin : r.pl ∈ keysN rs k
  ·rw [keysN_old hk hin, ih]
   split
   ·rename_i e
    rw [e] at hin
    have := ih.1 hin
    simp [this]
   ·rfl
  ·rw [keysN_new hk hin, List.mem_append, List.mem_singleton, ih]
   split
   ·rename_i e; simp [e]
   ·rename_i e
    constructor
    ·rintro (h | rfl)
     ·exact h
     ·exact absurd rfl e
    ·exact .inl
theorem keysN_len (rs : List ReadingD) : ∀ k, (keysN rs k).length ≤ k
 | 0 => by simp [keysN]
 | k + 1 => by
  have := keysN_len rs k
  simp only [keysN]
  split
  ·split
   ·omega
   ·simp; omega
  ·omega
theorem keysN_nodup (rs : List ReadingD) : ∀ k, (keysN rs k).Nodup
 | 0 => by simp [keysN]
 | k + 1 => by
  have ih := keysN_nodup rs k
  simp only [keysN]
  split
  ·split
   ·exact ih
   ·rename_i h; exact nodup_snoc ih h
  ·exact ih
theorem nodup_idxOf {α : Type} [DecidableEq α] {l : List α} (h : l.Nodup) {j : Nat} {x : α} (hj : l[j]? = some x) : l.idxOf x = j := by
 obtain ⟨h1, h2⟩ := List.getElem?_eq_some_iff.1 hj
 have h3 : x ∈ l := List.mem_of_getElem? hj
 have h4 := List.idxOf_lt_length_of_mem h3
 have h5 : l[l.idxOf x] = x := List.getElem_idxOf h4
 have h6 := List.pairwise_iff_getElem.1 h
 rcases Nat.lt_trichotomy (l.idxOf x) j with h7 | h7 | h7
 ·exact absurd (h5.trans h2.symm) (h6 _ _ h4 h1 h7)
 ·exact h7
 ·exact absurd (h2.trans h5.symm) (h6 _ _ h1 h4 h7)
def tipN (base : Nat) (rs : List ReadingD) (k : Nat) (p : PlaceD) : Nat := base + 2 * (keysN rs k).idxOf p + 1
def namesN (base : Nat) (rs : List ReadingD) (k : Nat) : Nat := base + 2 * (keysN rs k).length
/-- what the map holds -/
def atN (base : Nat) (rs : List ReadingD) (k : Nat) : PlaceD → Option C := fun p => if p ∈ keysN rs k then some (.list ((readsAt (rs.take k) p).map cells) (.tip (tipN base rs k p))) else none
/-- .. in the end -/
def atF (rs : List ReadingD) : PlaceD → Option C := fun p => if p ∈ keysN rs rs.length then some (lst (readsAt rs p)) else none
noncomputable def rdG (P : Program) (kt rt : TypeId) (G0 : Nat → Option GObj) (M base : Nat) (rs : List ReadingD) (k : Nat) : Nat → Option GObj := fun n =>
 if n < base then (if n = M then some (gmapN P kt (2 * k) k (atN base rs k)) else G0 n)
 else if (n - base) % 2 = 1 then ((keysN rs k)[(n - base) / 2]?).map fun p => .tip (readsAt (rs.take k) p).length rt 5 else none
theorem namesN_le (base : Nat) (rs : List ReadingD) (k : Nat) : base ≤ namesN base rs k := by unfold namesN; omega
theorem tipN_lt {base : Nat} {rs : List ReadingD} {k : Nat} {p : PlaceD} (h : p ∈ keysN rs k) : tipN base rs k p < namesN base rs k := by
 have := List.idxOf_lt_length_of_mem h
 unfold tipN namesN; omega
theorem tipN_ge (base : Nat) (rs : List ReadingD) (k : Nat) (p : PlaceD) : base < tipN base rs k p := by unfold tipN; omega
section
variable {P : Program} {kt rt : TypeId} {G0 : Nat → Option GObj} {M base : Nat} {rs : List ReadingD} {k : Nat} {r : ReadingD}
theorem rdG_map (hM : M < base) : rdG P kt rt G0 M base rs k M = some (gmapN P kt (2 * k) k (atN base rs k)) := by
 unfold rdG
 rw [if_pos hM, if_pos rfl]
theorem rdG_base {n : Nat} (hM : n < base) (hne : n ≠ M) : rdG P kt rt G0 M base rs k n = G0 n := by
 unfold rdG
 rw [if_pos hM, if_neg hne]
theorem rdG_tip {p : PlaceD} (h : p ∈ keysN rs k) : rdG P kt rt G0 M base rs k (tipN base rs k p) = some (.tip (readsAt (rs.take k) p).length rt 5) := by
 unfold rdG tipN
 rw [if_neg (by omega), if_pos (by omega)]
 have : (base + 2 * (keysN rs k).idxOf p + 1 - base) / 2 = (keysN rs k).idxOf p := by omega
 rw [this, List.getElem?_eq_getElem (List.idxOf_lt_length_of_mem h), List.getElem_idxOf]
 rfl
theorem rdG_lt (hG0 : ∀ n o, G0 n = some o → n < base) {n : Nat} {o : GObj} (h : rdG P kt rt G0 M base rs k n = some o) : n < namesN base rs k := by
 have := namesN_le base rs k
 unfold rdG at h
 split at h
 ·omega
 ·split at h
  ·obtain ⟨p, hp, _⟩ := Option.map_eq_some_iff.1 h
   have := (List.getElem?_eq_some_iff.1 hp).1
   unfold namesN
   omega
  ·cases h
theorem atN_low {m : Nat} (hm : namesN base rs k ≤ m) (p : PlaceD) (c : C) (h : atN base rs k p = some c) : c.low m := by
 unfold atN at h
 split at h
 ·rename_i hp
  cases h
  refine .list (fun row hrow c hc => ?_) (fun n hn => ?_)
  ·obtain ⟨x, _, rfl⟩ := List.mem_map.1 hrow
   exact Enc.low m x c hc
  ·cases hn
   have := tipN_lt (base := base) hp
   omega
 ·cases h
theorem mapV_low {α : Type} [KeyV α] {m : α → Option C} {k : Nat} (h : ∀ x c, m x = some c → c.low k) : ∀ v c, mapV m v = some c → c.low k := fun v c hv => by
 by_cases hex : ∃ y : α, v = KeyV.kv y
 ·obtain ⟨y, rfl⟩ := hex
  rw [mapV_kv] at hv
  exact h y c hv
 ·rw [mapV_none _ hex] at hv; cases hv
theorem rdG_low {H : Nat → Option GObj} (hG0 : ∀ n o, G0 n = some o → n ≠ M → H n = some o) {n : Nat} {o : GObj} (h : rdG P kt rt G0 M base rs k n = some o) (hM : M < base) : H n = some o ∨ (n < namesN base rs k ∧ o.low (namesN base rs k)) := by
 have h1 := namesN_le base rs k
 unfold rdG at h
 split at h
 ·split at h
  ·rename_i hn
   cases h
   exact .inr ⟨by omega, mapV_low fun x c hc => atN_low (Nat.le_refl _) x c hc⟩
  ·rename_i hn
   exact .inl (hG0 n o h hn)
 ·split at h
  ·obtain ⟨p, hp, rfl⟩ := Option.map_eq_some_iff.1 h
   have := (List.getElem?_eq_some_iff.1 hp).1
   refine .inr ⟨by unfold namesN; omega, trivial⟩
  ·cases h
theorem atN_start (base : Nat) (rs : List ReadingD) : atN base rs 0 = fun _ => none := by
 funext p
 simp [atN, keysN]
theorem rdG_start (hM : M < base) {n : Nat} {o : GObj} (h : rdG P kt rt G0 M base rs 0 n = some o) : setG G0 M (gmapN P kt 0 0 (α := PlaceD) fun _ => none) n = some o := by
 unfold rdG at h
 split at h
 ·split at h
  ·rename_i hn
   rw [hn, setG_same, ← atN_start base rs]; exact h
  ·rename_i hn
   rw [setG_other hn]; exact h
 ·split at h
  ·simp [keysN] at h
  ·cases h
theorem atN_getD {z : Value} (h : r.pl ∈ keysN rs k) : (atN base rs k r.pl).getD (constC z) = .list ((readsAt (rs.take k) r.pl).map cells) (.tip (tipN base rs k r.pl)) := by
 simp [atN, h]
theorem atN_getD_new (h : r.pl ∉ keysN rs k) : (atN base rs k r.pl).getD (constC (.slice none 0 0)) = .list [] .nil := by
 simp [atN, h]; rfl
theorem atN_same {c : C} (h : r.pl ∈ keysN rs k) (hc : c = .list ((readsAt (rs.take k) r.pl).map cells) (.tip (tipN base rs k r.pl))) : mset (atN base rs k) r.pl c = atN base rs k := by
 funext p
 unfold mset
 split
 ·rename_i e; rw [e, hc]; simp [atN, h]
 ·rfl
theorem tipN_old {p : PlaceD} (hk : rs[k]? = some r) (h : p ∈ keysN rs k) : tipN base rs (k + 1) p = tipN base rs k p := by
 unfold tipN
 by_cases hin : r.pl ∈ keysN rs k
 ·rw [keysN_old hk hin]
 ·rw [keysN_new hk hin, List.idxOf_append, if_pos h]
theorem tipN_new (hk : rs[k]? = some r) (h : r.pl ∉ keysN rs k) : tipN base rs (k + 1) r.pl = namesN base rs k + 1 := by
 unfold tipN namesN
 rw [keysN_new hk h, List.idxOf_append, if_neg h]
 simp
theorem atN_step_old (hk : rs[k]? = some r) (h : r.pl ∈ keysN rs k) {c : C} (hc : c = .list ((readsAt (rs.take k) r.pl ++ [r]).map cells) (.tip (tipN base rs k r.pl))) : mset (atN base rs k) r.pl c = atN base rs (k + 1) := by
 funext p
 unfold mset atN
 rw [keysN_old hk h, readsAt_step hk]
 split
 ·rename_i e
  subst e
  rw [if_pos h, if_pos rfl, hc, tipN_old hk h]
 ·rename_i e
  split
  ·rename_i hp
   rw [if_neg (fun e2 => e e2.symm), tipN_old hk hp]
  ·rfl
theorem readsAt_nil (hk : k ≤ rs.length) {p : PlaceD} (h : p ∉ keysN rs k) : readsAt (rs.take k) p = [] := by
 rw [keysN_mem hk] at h
 simpa using h
theorem atN_step_new (hk : rs[k]? = some r) (h : r.pl ∉ keysN rs k) {c d : C} (hc : c = .list ((([] : List ReadingD) ++ [r]).map cells) (.tip (namesN base rs k + 1))) : mset (mset (atN base rs k) r.pl d) r.pl c = atN base rs (k + 1) := by
 have hk' : k ≤ rs.length := Nat.le_of_lt (List.getElem?_eq_some_iff.1 hk).1
 funext p
 unfold mset atN
 rw [keysN_new hk h, readsAt_step hk]
 by_cases e : p = r.pl
 ·subst e
  rw [if_pos rfl, if_pos (by simp), if_pos rfl, hc, tipN_new hk h, readsAt_nil hk' h]
 ·have e' : ¬ r.pl = p := fun h => e h.symm
  by_cases hp : p ∈ keysN rs k
  ·simp [e, e', hp, tipN_old hk hp]
  ·simp [e, e', hp]
theorem rdG_keep (hG0 : ∀ n o, G0 n = some o → n < base) {B B' : GObj} {n : Nat} {o : GObj} (h : rdG P kt rt G0 M base rs k n = some o) : delG (setG (setG (rdG P kt rt G0 M base rs k) (namesN base rs k) B) (namesN base rs k) B') (namesN base rs k) n = some o := by
 have := rdG_lt hG0 h
 rw [delG_other (by omega), setG_other (by omega), setG_other (by omega)]
 exact h
theorem rdG_old (hM : M < base) (hk : rs[k]? = some r) (hin : r.pl ∈ keysN rs k) {A : GObj} {len : Nat} (hl : len = (readsAt (rs.take k) r.pl ++ [r]).length) {n : Nat} {o : GObj} (h : rdG P kt rt G0 M base rs (k + 1) n = some o) :
  setG (setG (setG (rdG P kt rt G0 M base rs k) M A) (tipN base rs k r.pl) (.tip len rt 5)) M (gmapN P kt (2 * k + 1 + 1) (k + 1) (atN base rs (k + 1))) n = some o := by
 by_cases hn : n = M
 ·subst hn
  rw [setG_same]
  rw [rdG_map hM] at h
  exact h
 ·rw [setG_other hn]
  unfold rdG at h
  split at h
  ·rename_i hlt
   have := tipN_ge base rs k r.pl
   rw [setG_other (by omega), setG_other hn, rdG_base hlt hn]
   exact h
  ·rename_i hlt
   split at h
   ·rename_i hodd
    obtain ⟨p, hp, rfl⟩ := Option.map_eq_some_iff.1 h
    rw [keysN_old hk hin] at hp
    by_cases ht : n = tipN base rs k r.pl
    ·rw [ht, setG_same]
     unfold tipN at ht
     have e1 : (n - base) / 2 = (keysN rs k).idxOf r.pl := by omega
     rw [e1, List.getElem?_eq_getElem (List.idxOf_lt_length_of_mem hin), List.getElem_idxOf] at hp
     cases hp
     rw [readsAt_step hk, if_pos rfl, hl]
    ·rw [setG_other ht, setG_other hn]
     unfold rdG
     rw [if_neg hlt, if_pos hodd, hp, Option.map_some, readsAt_step hk, if_neg (fun e => ht ?_)]
     subst e
     have hnd : (keysN rs k).idxOf r.pl = (n - base) / 2 := ?_
     ·unfold tipN; omega
     ·exact nodup_idxOf (keysN_nodup rs k) hp
   ·cases h
theorem rdG_new (hG0 : ∀ n o, G0 n = some o → n < base) (hM : M < base) (hk : rs[k]? = some r) (hin : r.pl ∉ keysN rs k) {A B : GObj} {len : Nat} (hl : len = 1) {n : Nat} {o : GObj} (h : rdG P kt rt G0 M base rs (k + 1) n = some o) :
  setG (setG (setG (setG (rdG P kt rt G0 M base rs k) M A) (namesN base rs k + 1) B) (namesN base rs k + 1) (.tip len rt 5)) M (gmapN P kt (2 * k + 1 + 1) (k + 1) (atN base rs (k + 1))) n = some o := by
 have hk' : k ≤ rs.length := Nat.le_of_lt (List.getElem?_eq_some_iff.1 hk).1
 have hnle := namesN_le base rs k
 by_cases hn : n = M
 ·subst hn
  rw [setG_same]
  rw [rdG_map hM] at h
  exact h
 ·rw [setG_other hn]
  unfold rdG at h
  split at h
  ·rename_i hlt
   rw [setG_other (by omega), setG_other (by omega), setG_other hn, rdG_base hlt hn]
   exact h
  ·rename_i hlt
   split at h
   ·rename_i hodd
    obtain ⟨p, hp, rfl⟩ := Option.map_eq_some_iff.1 h
    rw [keysN_new hk hin] at hp
    by_cases ht : n = namesN base rs k + 1
    ·rw [ht, setG_same]
     have e1 : (n - base) / 2 = (keysN rs k).length := by unfold namesN at ht; omega
     rw [e1, List.getElem?_append_right (Nat.le_refl _), Nat.sub_self] at hp
     cases hp
     rw [readsAt_step hk, if_pos rfl, hl, readsAt_nil hk' hin]
     rfl
    ·have hlt2 := (List.getElem?_eq_some_iff.1 hp).1
     rw [List.length_append, List.length_singleton] at hlt2
     have hlt3 : (n - base) / 2 < (keysN rs k).length := by unfold namesN at ht; omega
     rw [List.getElem?_append_left hlt3] at hp
     rw [setG_other ht, setG_other ht, setG_other hn]
     unfold rdG
     rw [if_neg hlt, if_pos hodd, hp, Option.map_some, readsAt_step hk, if_neg (fun e => hin ?_)]
     rw [e]
     exact List.mem_of_getElem? hp
   ·cases h
theorem namesN_old (hk : rs[k]? = some r) (h : r.pl ∈ keysN rs k) : namesN base rs (k + 1) ≤ namesN base rs k + 1 := by
 unfold namesN
 rw [keysN_old hk h]
 omega
theorem namesN_new (hk : rs[k]? = some r) (h : r.pl ∉ keysN rs k) : namesN base rs (k + 1) ≤ namesN base rs k + 1 + 1 := by
 unfold namesN
 rw [keysN_new hk h, List.length_append, List.length_singleton]
 omega
theorem atF_weak {base : Nat} (x : PlaceD) (c : C) (h : atN base rs rs.length x = some c) : ∃ c', atF rs x = some c' ∧ ∀ (E : Env) (w : World) (v : Value), R E w c v → R E w c' v := by
 unfold atN at h
 split at h
 ·rename_i hp
  cases h
  refine ⟨lst (readsAt rs x), by simp [atF, hp], fun E w v hr => ?_⟩
  rw [List.take_of_length_le (Nat.le_refl _)] at hr
  exact Wk.tok.2 E w v hr
 ·cases h
theorem atF_back {base : Nat} (x : PlaceD) (c : C) (h : atF rs x = some c) : ∃ c', atN base rs rs.length x = some c' := by
 unfold atF at h
 split at h
 ·rename_i hp
  exact ⟨_, if_pos hp⟩
 ·cases h
theorem atF_get (rs : List ReadingD) (p : PlaceD) : ∃ tok, (atF rs p).getD (constC (.slice none 0 0)) = .list ((readsAt rs p).map cells) tok := by
 unfold atF
 by_cases h : p ∈ keysN rs rs.length
 ·rw [if_pos h]; exact ⟨.none, rfl⟩
 ·rw [if_neg h]
  have := readsAt_nil (Nat.le_refl _) h
  rw [List.take_of_length_le (Nat.le_refl _)] at this
  rw [this]
  exact ⟨.nil, rfl⟩
theorem rdG_out (hG0 : ∀ n o, G0 n = some o → n < base) {X : GObj} {n : Nat} {o : GObj} (h : setG G0 M X n = some o) : setG (rdG P kt rt G0 M base rs k) M X n = some o := by
 by_cases hn : n = M
 ·rw [hn, setG_same] at h ⊢; exact h
 ·rw [setG_other hn] at h ⊢
  rw [rdG_base (hG0 n o h) hn]; exact h
theorem atF_low {m : Nat} (p : PlaceD) (c : C) (h : atF rs p = some c) : c.low m := by
 unfold atF at h
 split at h
 ·cases h; exact lst_low _ _
 ·cases h
theorem atF_glow {m wv : Nat} : (gmap P kt wv (atF rs)).low m := mapV_low fun x c h => atF_low x c h
end
end Go.AB

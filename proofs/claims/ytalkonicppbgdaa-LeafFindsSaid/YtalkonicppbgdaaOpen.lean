/-
  From a claim's arguments to abstract cells: what is read along a type is a plain datum; a call begins with all that stands laid.
-/
import Derived.Test.YtalkonicppbgdaaBridge
import Derived.Deep.Slices
import Derived.Lib.SmallJoins
import Derived.Carry
import Derived.ProofKit
namespace Go.AB
open Go Go.RowKit Go.ChangeShapes Go.WideShapes
open Go.AB.Enc (cells)
open Go.PB.Rep (rd)
open Go.PB (Chap TextD PlaceD ReadingD CopyD WayD Rep Rd At)

def Anywhere : Nat → Prop := fun _ => True
/-- What is read along a type is a datum. -/
class Opens (P : Program) (t : TypeId) (α : Type) [Rep α] : Prop where
  n : P.cellsOf t = Rep.n α
  op : ∀ {H : Type} {enc : TypeId × Value → H} {w : World} {base : Nat} {spare : Nat → Bool} {held : Bool} {fuel : Nat} {cs : List Value} {x : DataW H × List MemPlace}, DataW.trod enc P w base spare held fuel t cs = some x → ∃ a : α, rd w Anywhere cs a

def intChk (P : Program) (t : TypeId) (k : IntKind) : Bool := match P.underlying t with | some (.int k') => k' == k && P.cellsOf t == 1 | _ => false
def strChk (P : Program) (t : TypeId) : Bool := match P.underlying t with | some .string => P.cellsOf t == 1 | _ => false
def boolChk (P : Program) (t : TypeId) : Bool := match P.underlying t with | some .bool => P.cellsOf t == 1 | _ => false
def slcChk (P : Program) (t e : TypeId) : Bool := match P.underlying t with | some (.slice e') => e' == e && P.cellsOf t == 1 | _ => false
def stcChk (P : Program) (t : TypeId) (l : List (Nat × TypeId × Nat)) (n : Nat) : Bool := match P.underlying t with
  | some (.struct fs) => (fs.toList.map fun f => (f.offset, f.type, P.cellsOf f.type)) == l && P.cellsOf t == n
  | _ => false
section
variable {P : Program} {t e : TypeId}
theorem intChk_spec {k : IntKind} (h : intChk P t k = true) : P.underlying t = some (.int k) ∧ P.cellsOf t = 1 := by
  unfold intChk at h
  split at h
  · rename_i k' he
    simp only [Bool.and_eq_true, beq_iff_eq] at h
    rw [he, h.1]; exact ⟨rfl, h.2⟩
  · cases h
theorem strChk_spec (h : strChk P t = true) : P.underlying t = some .string ∧ P.cellsOf t = 1 := by
  unfold strChk at h
  split at h
  · rename_i he; exact ⟨he, by simpa using h⟩
  · cases h
theorem boolChk_spec (h : boolChk P t = true) : P.underlying t = some .bool ∧ P.cellsOf t = 1 := by
  unfold boolChk at h
  split at h
  · rename_i he; exact ⟨he, by simpa using h⟩
  · cases h
theorem slcChk_spec (h : slcChk P t e = true) : P.underlying t = some (.slice e) ∧ P.cellsOf t = 1 := by
  unfold slcChk at h
  split at h
  · rename_i k' he
    simp only [Bool.and_eq_true, beq_iff_eq] at h
    rw [he, h.1]; exact ⟨rfl, h.2⟩
  · cases h
theorem Opens.int (h : intChk P t .i64 = true) : Opens P t Int where
  n := (intChk_spec h).2
  op hx := by
    obtain ⟨n, rfl, _, h2⟩ := DataW.trod_int (intChk_spec h).1 hx
    exact ⟨n, rfl, h2⟩
theorem Opens.str (h : strChk P t = true) : Opens P t ByteArray where
  n := (strChk_spec h).2
  op hx := by
    obtain ⟨s, rfl, _, h2⟩ := DataW.trod_string (strChk_spec h).1 hx
    exact ⟨s, rfl, h2⟩
theorem spot_none {w : World} {a : Addr} {v : Value} (h : w.cell? a = some v) : a.spot = none := by
  unfold World.cell? at h
  split at h
  · split at h
    · cases h
    · rename_i hs
      cases hsp : a.spot with
      | none => rfl
      | some s => simp [hsp] at hs
  · cases h
theorem list_of {α : Type} {p : Nat → α → Prop} : ∀ (n : Nat), (∀ i, i < n → ∃ x, p i x) → ∃ xs : List α, xs.length = n ∧ ∀ i x, xs[i]? = some x → p i x
  | 0, _ => ⟨[], rfl, fun i x h => by simp at h⟩
  | n + 1, h => by
    obtain ⟨xs, h1, h2⟩ := list_of n fun i hi => h i (by omega)
    obtain ⟨y, hy⟩ := h n (by omega)
    refine ⟨xs ++ [y], by simp [h1], fun i x hx => ?_⟩
    by_cases hi : i < xs.length
    · rw [List.getElem?_append_left hi] at hx; exact h2 i x hx
    · rw [List.getElem?_append_right (by omega)] at hx
      have hz : i - xs.length = 0 := by
        have := (List.getElem?_eq_some_iff.1 hx).1
        simp at this; omega
      rw [hz] at hx
      simp at hx
      subst hx
      rw [show i = n by omega]; exact hy
theorem Opens.slice {α : Type} [Rep α] [o : Opens P e α] (h : slcChk P t e = true) (hpos : 1 ≤ Rep.n α) : Opens P t (List α) where
  n := (slcChk_spec h).2
  op {H enc w base spare held fuel cs x} hx := by
    rcases Deep.open_slice (slcChk_spec h).1 hx with ⟨rfl, _⟩ | ⟨a, len, cap, m, n, D, Pl, rfl, hb, hl, hm, hmm, _, hel⟩
    · exact ⟨[], none, 0, rfl, Nat.le_refl _, Nat.zero_le _, .inl rfl⟩
    · have hlm : len ≤ m := by rw [hmm]; split <;> omega
      have hs : 0 < len → a.spot = none := fun h0 => by
        obtain ⟨cs', hc, ht⟩ := hel 0 (by omega)
        obtain ⟨_, hlen, hcell⟩ := World.cells?_some hc
        rw [o.n] at hlen hcell
        have := hcell 0 (by omega)
        rw [List.getElem?_eq_getElem (by omega)] at this
        have := spot_none this
        simpa [Addr.add] using this
      obtain ⟨xs, h1, h2⟩ := list_of (p := fun i (y : α) => At w Anywhere a.block (a.off + i * Rep.n α) y) len fun i hi => by
        obtain ⟨cs', hc, ht⟩ := hel i (by omega)
        obtain ⟨y, hy⟩ := o.op ht
        obtain ⟨_, hlen, hcell⟩ := World.cells?_some hc
        rw [o.n] at hlen hcell hc
        have hs' := hs (by omega)
        refine ⟨y, cs', hy, fun j u hj => ?_⟩
        have hj' : j < Rep.n α := by rw [← hlen]; exact (List.getElem?_eq_some_iff.1 hj).1
        have := hcell j hj'
        rw [hj] at this
        rw [← this]
        obtain ⟨ab, ao, asp⟩ := a
        dsimp only at hs'
        subst hs'
        rw [addr_add, addr_add]
      subst h1
      refine ⟨xs, some a, cap, rfl, hl, hm, ?_⟩
      cases xs with
      | nil => exact .inl rfl
      | cons y ys =>
        right
        have hs' := hs (by simp)
        obtain ⟨ab, ao, asp⟩ := a
        dsimp only at hs'
        subst hs'
        exact ⟨ab, ao, rfl, trivial, fun i z hz => h2 i z hz⟩
theorem stcChk_spec {l : List (Nat × TypeId × Nat)} {n : Nat} (h : stcChk P t l n = true) {H : Type} {enc : TypeId × Value → H} {w : World} {base : Nat} {spare : Nat → Bool} {held : Bool} {fuel : Nat} {cs : List Value} {x : DataW H × List MemPlace}
    (hx : DataW.trod enc P w base spare held fuel t cs = some x) : cs.length = n ∧ ∀ p ∈ l, ∃ m y, DataW.trod enc P w base spare held m p.2.1 ((cs.drop p.1).take p.2.2) = some y := by
  unfold stcChk at h
  split at h
  · rename_i fs he
    simp only [Bool.and_eq_true, beq_iff_eq] at h
    obtain ⟨xs, m, _, _, hl, hlen, hf⟩ := DataW.trod_struct he hx
    refine ⟨by rw [hl, h.2], fun p hp => ?_⟩
    rw [← h.1] at hp
    obtain ⟨f, hfm, rfl⟩ := List.mem_map.1 hp
    obtain ⟨i, hi⟩ := List.getElem?_of_mem hfm
    have hi' : fs[i]? = some f := by simpa using hi
    have hlt : i < xs.length := by rw [hlen]; exact (Array.getElem?_eq_some_iff.1 hi').1
    exact ⟨m, xs[i], by rw [← List.getElem?_eq_getElem hlt]; exact hf i f hi'⟩
  · cases h
theorem stcChk_cells {l : List (Nat × TypeId × Nat)} {n : Nat} (h : stcChk P t l n = true) : P.cellsOf t = n ∧ ∃ fs, P.underlying t = some (.struct fs) := by
  unfold stcChk at h
  split at h
  · rename_i fs he
    simp only [Bool.and_eq_true, beq_iff_eq] at h
    exact ⟨h.2, fs, he⟩
  · cases h
/-- A struct of one field. -/
theorem Opens.one {α : Type} [Rep α] [o : Opens P e α] (h : stcChk P t [(0, e, Rep.n α)] (Rep.n α) = true) : Opens P t α where
  n := (stcChk_cells h).1
  op {H enc w base spare held fuel cs x} hx := by
    obtain ⟨hl, hp⟩ := stcChk_spec h hx
    obtain ⟨m, y, hy⟩ := hp _ (List.mem_cons_self ..)
    obtain ⟨a, ha⟩ := o.op hy
    dsimp only at ha
    rw [List.drop_zero, List.take_of_length_le (by omega)] at ha
    exact ⟨a, ha⟩
theorem Opens.chap {tI tL : TypeId} [oI : Opens P tI Int] [oL : Opens P tL (List (List ByteArray))] (h : stcChk P t [(0, tI, 1), (1, tL, 1)] 2 = true) : Opens P t Chap where
  n := (stcChk_cells h).1
  op {H enc w base spare held fuel cs x} hx := by
    obtain ⟨hl, hp⟩ := stcChk_spec h hx
    obtain ⟨m0, y0, h0⟩ := hp (0, tI, 1) (by simp)
    obtain ⟨m1, y1, h1⟩ := hp (1, tL, 1) (by simp)
    match cs, hl with
    | [u, v], _ =>
      obtain ⟨a, ha⟩ := oI.op h0
      obtain ⟨b, hb⟩ := oL.op h1
      obtain ⟨e1, e2⟩ : [u] = [Value.int .i64 a] ∧ (Lit.int .i64 a).wf = true := ha
      simp only [List.cons.injEq, and_true] at e1
      subst e1
      exact ⟨⟨a, b⟩, v, rfl, e2, hb⟩

/-- An argument that is a struct. -/
theorem Opens.arg {α : Type} [Rep α] [o : Opens P t α] {l : List (Nat × TypeId × Nat)} {n : Nat} (h : stcChk P t l n = true) {H : Type} {enc : TypeId × Value → H} {w : World} {base : Nat} {spare : Nat → Bool} {held : Bool} {r : Reach} {b0 : Nat} {v : Value} {d : DataW H} {ps : List MemPlace}
    (hv : Value.okWide P w r b0 t v) (hd : DataW.Trod enc P w base spare held t v d ps) : ∃ (a : α) (cs : List Value), v = .agg cs.toArray ∧ rd w Anywhere cs a := by
  obtain ⟨fs, hs⟩ := (stcChk_cells h).2
  obtain ⟨cs, rfl, _⟩ := okWide_struct hs hv
  obtain ⟨fuel, hf⟩ := hd
  obtain ⟨a, ha⟩ := o.op hf
  exact ⟨a, cs.toList, by simp, ha⟩
theorem Opens.argInt (h : intChk P t .i64 = true) {H : Type} {enc : TypeId × Value → H} {w : World} {base : Nat} {spare : Nat → Bool} {held : Bool} {r : Reach} {b0 : Nat} {v : Value} {d : DataW H} {ps : List MemPlace}
    (hv : Value.okWide P w r b0 t v) (hd : DataW.Trod enc P w base spare held t v d ps) : ∃ a : Int, v = .int .i64 a ∧ okV (.int .i64 a) = true := by
  obtain ⟨i, rfl, _, _, wi⟩ := open_int (intChk_spec h).1 hv hd
  exact ⟨i, rfl, wf_i64.1 wi⟩
end

/-- All that stands is laid. -/
def env0 (w : World) : Env := ⟨w.heap.size, cellCount w, fun _ => none, 0⟩
theorem simG0 (w : World) : SimG (env0 w) w (fun _ => none) 0 where
  nx := rfl
  obj := fun n o h => by cases h
  lt := fun n t h => by cases h
  tb := fun n ver wv val b h => by cases h
  ap := fun n m t t' b h => by cases h
  fresh := fun b hb => by
    show cellCount w b = 0
    unfold cellCount
    rw [Array.getElem?_eq_none (by omega)]
  base := Nat.le_refl _
theorem arg0 {α : Type} [Rep α] [Enc α] [Both α] {w : World} {cs : List Value} {a : α} (h : rd w Anywhere cs a) : Rs (env0 w) w (cells a) cs := Both.of (fun _ _ => Nat.le_refl _) h
theorem argAgg0 {α : Type} [Rep α] [Enc α] [Both α] {w : World} {cs : List Value} {a : α} (h : rd w Anywhere cs a) : R (env0 w) w (.agg (cells a)) (.agg cs.toArray) := Rs.agg (arg0 h) (Enc.one a)
/-- What a law's walk gives for its claim. -/
theorem law_calls {P : Program} {f : FuncId} {cs : List C} {v : Value} (hp : Pure P f cs (.v v)) {w : World} {args : List Value} (hr : Rs (env0 w) w cs args) :
    Calls P f args.toArray w fun e w' => e = .returned v ∧ Below w.heap.size w w' := by
  refine (hp (fun _ => none) 0 (env0 w) w args hr (simG0 w)).mono ?_
  rintro e w' ⟨r, x, E', G', nx', rfl, hev, hx, _, rfl, _⟩
  exact ⟨by rw [hx.v_inv], hev.below⟩
end Go.AB

/-
  Strings as bytes; numbers as keys.
-/
import Derived.Test.YtolcenpmgmpmkaaDoorAbNamed
import Derived.Laws.IdiomStrings
namespace Go.AB
open Go Go.RowKit
open Go.AB.Enc (cells)
variable {ρ : Option Nat}
def u8s (s : ByteArray) : List U8 := s.data.toList.map fun b => ⟨(b.toNat : Int)⟩
theorem u8s_len (s : ByteArray) : (u8s s).length = s.size := by simp [u8s]
section
variable {P : Program} {o : Oper} {st : St} {K : St → Prop}
theorem e_convBytes {src dst e : TypeId} [StrT P src] [Elt P dst e] {x : Operand} {s : ByteArray} (he : P.underlying e = some (.int .u8)) (ho : o.op = .convert src dst x) (hx : evC st x = .v (.string s)) (h : K (st.put o.dst (lst (u8s s)))) : EStep P o st K := estep_run fun E w a hs => by
  have hr := hx ▸ hs.ev x
  have e1 := hr.v_inv
  rw [e1] at hr
  have hsz : s.size ≤ 9223372036854775807 := by
    cases hr with | v h => exact okV_str.1 h
  have hrun := run_bytes_of_string (P := P) w src dst e s StrT.spec Elt.spec he
  have hcap : s.size ≤ grownCap w s.size 0 e := grownCap_ge w _ _ _
  have hcm : grownCap w s.size 0 e ≤ maxLen := grownCap_le_maxLen w _ _ _ (by simpa [maxLen] using hsz)
  generalize hc : grownCap w s.size 0 e = cap at hrun hcap hcm
  obtain ⟨ob, hob⟩ : ∃ ob, ob = Obj.cells (bytesRow s cap) e ((bytesRow s cap).size, (bytesRow s cap).size + 1) := ⟨_, rfl⟩
  rw [← hob] at hrun
  have hcell : ∀ j, (w.drew.alloc ob).cell? ⟨w.heap.size, j, none⟩ = (bytesRow s cap)[j]? := fun j => by
    rw [hob]
    exact World.cell?_alloc_mark w.drew (bytesRow s cap) e _ j
  have hrow : ∀ (j : Nat) (x : U8), (u8s s)[j]? = some x → (bytesRow s cap)[j]? = some (.int .u8 x.v) ∧ okV (.int .u8 x.v) = true := fun j x hj => by
    have hl := (List.getElem?_eq_some_iff.1 hj).1
    rw [u8s_len] at hl
    unfold u8s at hj
    rw [List.getElem?_map, Array.getElem?_toList, Array.getElem?_eq_getElem hl] at hj
    simp only [Option.map_some, Option.some.injEq] at hj
    subst hj
    refine ⟨?_, okV_u8 ⟨by simp, by have := (s.data[j] : UInt8).toNat_lt; simp only; omega⟩⟩
    unfold bytesRow
    rw [Array.getElem?_append_left (by simpa using hl), Array.getElem?_map, Array.getElem?_eq_getElem hl]
    rfl
  have hx0 : s.size = 0 ∨ ∃ v, (w.drew.alloc ob).cell? ⟨w.heap.size, 0, none⟩ = some v := by
    rcases Nat.eq_zero_or_pos s.size with h | h
    · exact .inl h
    · obtain ⟨x, hx⟩ : ∃ x, (u8s s)[0]? = some x := ⟨_, List.getElem?_eq_getElem (by rw [u8s_len]; exact h)⟩
      exact .inr ⟨_, (hcell 0).trans (hrow 0 x hx).1⟩
  have hev := Ev.laid hs.g (o := ob) s.size (.inr rfl) hx0
  refine ⟨.slice (some ⟨w.heap.size, 0, none⟩) s.size cap, w.drew.alloc ob, _, st.G, st.nx, lst (u8s s), ?_, hev, ?_, SimG.laid hs.g _ (.inr rfl) hx0, h⟩
  · simp [execOp, ho, e1, hrun]
  · have := R.mk_list (E := E.lay w.heap.size s.size) (w := w.drew.alloc ob) (rows := (u8s s).map cells) (a := some ⟨w.heap.size, 0, none⟩) (cap := cap) (sz := 1) (us := (u8s s).map fun x => .int .u8 x.v) (tok := .none) (by rw [List.length_map, u8s_len]; exact hcap) hcm (Nat.le_refl _) (fun r hr => by
      obtain ⟨x, _, rfl⟩ := List.mem_map.1 hr; rfl) (fun r hr c hc => by
      obtain ⟨x, _, rfl⟩ := List.mem_map.1 hr
      exact Enc.one x c hc) ⟨by
        have : ∀ l : List U8, ((l.map cells).flatten).length = l.length := fun l => by rw [flat_len (map_len l)]; simp [Enc.n]
        rw [this]; simp, fun j c v hc hv => by
        rw [List.getElem?_map] at hv
        cases hj : (u8s s)[j]? with
        | none => rw [hj] at hv; cases hv
        | some x =>
          rw [hj] at hv
          simp only [Option.map_some, Option.some.injEq] at hv
          subst hv
          have h1 := flat_get (rows := (u8s s).map cells) (s := 1) (k := j) (j := 0) (c := .v (.int .u8 x.v)) (map_len (u8s s)) (map_get hj) rfl
          rw [Nat.mul_one, Nat.add_zero] at h1
          rw [h1] at hc
          cases hc
          exact .v (hrow j x hj).2⟩ (.inr ⟨w.heap.size, 0, rfl, by
        simp only [Env.lay, if_true, List.length_map, u8s_len]; omega, fun j u hu => by
        rw [List.getElem?_map] at hu
        cases hj : (u8s s)[j]? with
        | none => rw [hj] at hu; cases hu
        | some x =>
          rw [hj] at hu
          simp only [Option.map_some, Option.some.injEq] at hu
          subst hu
          rw [Nat.zero_add, hcell j]
          exact (hrow j x hj).1⟩) (by simp) (by simp) (by simp)
    rw [List.length_map, u8s_len] at this
    exact this
end
instance : KeyV Int where
  kv x := .int .i64 x
  kc x := .v (.int .i64 x)
  inv h := h.v_inv
  inj h := by simpa using h
  any h _ _ := by cases h with | v h => exact .v h
theorem key_i64 {E : Env} {w : World} {x : Int} {v : Value} (h : R E w (.v (.int .i64 x)) v) : -9223372036854775808 ≤ x ∧ x ≤ 9223372036854775807 := by
  cases h with | v h => exact of_okV_i64 h
theorem lit_i64 {x : Int} (h : -9223372036854775808 ≤ x ∧ x ≤ 9223372036854775807) : (Lit.int .i64 x).wf = true := by
  simp [Lit.wf, IntKind.min, IntKind.max, IntKind.signed, IntKind.bits]; omega
/-- What a map has for a key, or nothing. -/
theorem s_lookup' {P : Program} {o : Oper} {st : St} {α : Type} [KeyV α] {D : Nat → Prop} {t k e : TypeId} [MapT P t k e] [KeyT P k α] {x i : Operand} {n wv : Nat} {m : α → Option C} {c : C} {z : Value} [Zero P e z] (key : α) (ho : o.op = .lookup t x i false) (hx : evC st x = .map n) (hG : st.G n = some (gmap P k wv m)) (hD : D n) (hi : evC st i = KeyV.kc key) (hm : (m key).getD (constC z) = c) : SStep P D o st c := by
  subst hm
  exact s_lookup key ho hx hG hD hi rfl
theorem gmap_low {P : Program} {α : Type} [KeyV α] {k : TypeId} {wv n : Nat} {m : α → Option C} (h : ∀ x c, m x = some c → C.low n c) : (gmap P k wv m).low n := by
  intro x c hx
  by_cases hex : ∃ y : α, x = KeyV.kv y
  · obtain ⟨y, rfl⟩ := hex
    rw [mapV_kv] at hx
    exact h y c hx
  · rw [mapV_none _ hex] at hx; cases hx
theorem gmapB_low {P : Program} {α : Type} [KeyV α] {k : TypeId} {wv n cl : Nat} {β : Value → Nat} {m : α → Option C} (h : ∀ x c, m x = some c → C.low n c) : (gmapB P k wv m β cl).low n := by
  intro x c hx
  by_cases hex : ∃ y : α, x = KeyV.kv y
  · obtain ⟨y, rfl⟩ := hex
    rw [mapV_kv] at hx
    exact h y c hx
  · rw [mapV_none _ hex] at hx; cases hx
theorem s_lookupOk' {P : Program} {o : Oper} {st : St} {α : Type} [KeyV α] {D : Nat → Prop} {t k e : TypeId} [MapT P t k e] [KeyT P k α] {x i : Operand} {n wv : Nat} {m : α → Option C} {c : C} {b : Bool} {z : Value} [Zero P e z] (key : α) (ho : o.op = .lookup t x i true) (hx : evC st x = .map n) (hG : st.G n = some (gmap P k wv m)) (hD : D n) (hi : evC st i = KeyV.kc key) (hm : (m key).getD (constC z) = c) (hb : (m key).isSome = b) : SStep P D o st (.tup [c, .v (.bool b)]) := by
  subst hm; subst hb
  exact s_lookupOk key ho hx hG hD hi rfl
/-- A contract whose result has new named objects, told up to something of the run. -/
theorem pc_namedX_of_body {Y : Type} {P : Program} {f : FuncId} {fn : Func} {c : Code} {args : List C} {r : C} {G : Nat → Option GObj} {nx : Nat} (g : Y → Nat → Option GObj) (m : Nat) (hf : P.funcs[f]? = some fn) (hb : fn.body = some c) (hl : r.low m) (hm : nx ≤ m) (hg : (∀ n o, G n = some o → n < nx) → ∀ y n o, g y n = some o → G n = some o ∨ (n < m ∧ o.low m))
    (h : AW none P c (fun e st => ∃ y, Ends P fn r (g y) m e st) { n := args.length + (fn.ntmps - args.length), l := args, r := [], G := G, nx := nx }) : PC P f args G nx fun r' G' nx' => ∃ y, r' = r ∧ G' = g y ∧ nx' = m := by
  intro E w vs hr hg0
  have key := pc_of_body (K := fun r' G' nx' => ∃ y, r' = r ∧ m ≤ nx' ∧ ∀ n o, g y n = some o → G' n = some o) hf hb (AW.mono h fun e st hq => by
    obtain ⟨y, hq⟩ := hq
    cases e with
    | normal => exact ⟨r, hq.1, y, rfl, hq.2.1, hq.2.2⟩
    | ret => exact ⟨r, hq.1, y, rfl, hq.2.1, hq.2.2⟩
    | _ => exact hq)
  refine (key E w vs hr hg0).mono ?_
  rintro e w' ⟨r', v, E', G', nx', e1, e2, e3, e4, y, rfl, e5, e6⟩
  have hnx := hg0.nx
  refine ⟨r', v, E'.drop m, g y, m, e1, e2.drop (by omega), e3.drop hl, ?_, y, rfl, rfl, rfl⟩
  refine (e4.weak e6).drop fun n o ho => ?_
  rcases hg (fun n o ho => (hg0.lowG ho).1) y n o ho with h1 | h1
  · have := hg0.lowG h1
    exact ⟨by omega, GObj.low_mono this.2 hm⟩
  · exact h1
theorem e_call_namedX {Y : Type} {P : Program} {o : Oper} {st : St} {K : St → Prop} {f : FuncId} [Fun P f] {fv : Operand} {args : List Operand} {ats : Array TypeId} {caps as : List C} {r : C} {g : Y → Nat → Option GObj} {m : Nat} (ho : o.op = .call { callee := .value fv, args := args.toArray, argTypes := ats }) (hf : evC st fv = .fn (.func f) caps) (has : args.map (evC st) ++ caps = as)
    (hp : PC P f as st.G st.nx fun r' G' nx' => ∃ y, r' = r ∧ G' = g y ∧ nx' = m) (h : ∀ y, K (St.put { st with G := g y, nx := m } o.dst r)) : EStep P o st K :=
  e_call ho hf has (hp.mono fun r' G' nx' ⟨y, e1, e2, e3⟩ => by subst e1; subst e2; subst e3; exact h y)
/-- An array, out of its elements. -/
theorem n_buildA {P : Program} {o : Oper} {st : St} {t e : TypeId} {m sz : Nat} {ag : Bool} {zs cs : List C} [ZeroC P t zs] [ArrT P t m e] [Ty P e ag sz] {parts : List (Nat × Operand)} (ho : o.op = .build t parts.toArray) (hf : fillC ((List.range m).map fun i => (i * sz, sz)) zs (parts.map fun p => (p.1, evC st p.2)) = some cs) : NStep P o st (.agg cs) := fun E w a hs => by
  obtain ⟨z, hz, q1, q2⟩ := ZeroC.run (P := P) (t := t) E w
  have ht := ArrT.spec (P := P) (t := t) (n := m) (e := e)
  obtain ⟨us', r1, r2, r3⟩ := fillC_spec (E := E) (w := w) (pl := (List.range m).map fun i => (i * sz, sz)) (place := fun i => some (i * sz, sz)) (fun i p hp => by
    rw [List.getElem?_map] at hp
    cases hi : (List.range m)[i]? with
    | none => rw [hi] at hp; cases hp
    | some j =>
      rw [hi] at hp
      have hlt : i < m := by simpa using (List.getElem?_eq_some_iff.1 hi).1
      rw [List.getElem?_range hlt] at hi
      cases hi
      exact hp) (parts.map fun p => (p.1, evC st p.2)) (parts.map fun p => (p.1, a.eval p.2)) zs cs z.cells (by simp) (fun j i c hj => by
      rw [List.getElem?_map] at hj ⊢
      cases hp : parts[j]? with
      | none => rw [hp] at hj; cases hj
      | some p =>
        rw [hp] at hj
        simp only [Option.map_some, Option.some.injEq, Prod.mk.injEq] at hj
        obtain ⟨rfl, rfl⟩ := hj
        exact ⟨a.eval p.2, rfl, hs.ev p.2⟩) q1 q2 hf
  refine ⟨.agg us', by have := r2.agg r3; simpa using this, fun w' => ?_⟩
  have hsz := Ty.size (P := P) (w := w') (t := e) (ag := ag) (n := sz)
  simp only [execOp, ho, Instr.build, Sem.run_bind, hz w', run_underlying ht, Result.andThen_ok, hsz, List.map_toArray]
  simp [r1]
end Go.AB

/-
  What walks use: rules for moves by form, cuts, data as cells.
-/
import Derived.Test.YtolcenpmgmpmkaaDoorAbSix
namespace Go.AB
open Go Go.RowKit
variable {ρ : Option Nat}

section
variable {P : Program} {Q : Exit → St → Prop} {st : St} {o : Oper} {x : Operand}

theorem m_v {y : Value} (ho : o.op = .move x ∨ o.op = .assign x) (hx : evC st x = .v y) : NStep P o st (.v y) := hx ▸ n_move ho
theorem m_list {rows : List (List C)} {tok : Tok} (ho : o.op = .move x ∨ o.op = .assign x) (hx : evC st x = .list rows tok) : NStep P o st (.list rows tok) := hx ▸ n_move ho
theorem m_elem {cs : List C} (ho : o.op = .move x ∨ o.op = .assign x) (hx : evC st x = .elem cs) : NStep P o st (.elem cs) := hx ▸ n_move ho
theorem m_box {n ver off : Nat} (ho : o.op = .move x ∨ o.op = .assign x) (hx : evC st x = .box n ver off) : NStep P o st (.box n ver off) := hx ▸ n_move ho
theorem m_arr {n ver : Nat} (ho : o.op = .move x ∨ o.op = .assign x) (hx : evC st x = .arr n ver) : NStep P o st (.arr n ver) := hx ▸ n_move ho
theorem m_agg {cs : List C} (ho : o.op = .move x ∨ o.op = .assign x) (hx : evC st x = .agg cs) : NStep P o st (.agg cs) := hx ▸ n_move ho
theorem m_tup {cs : List C} (ho : o.op = .move x ∨ o.op = .assign x) (hx : evC st x = .tup cs) : NStep P o st (.tup cs) := hx ▸ n_move ho
theorem m_fn {f : Fn} {cs : List C} (ho : o.op = .move x ∨ o.op = .assign x) (hx : evC st x = .fn f cs) : NStep P o st (.fn f cs) := hx ▸ n_move ho
theorem m_map {n : Nat} (ho : o.op = .move x ∨ o.op = .assign x) (hx : evC st x = .map n) : NStep P o st (.map n) := hx ▸ n_move ho

/-- A form that is in the open. -/
inductive Is : C → C → Prop
  | v {x : Value} : Is (.v x) (.v x)
  | elem {cs : List C} : Is (.elem cs) (.elem cs)
  | list {rows : List (List C)} {tok : Tok} : Is (.list rows tok) (.list rows tok)
  | box {n ver off : Nat} : Is (.box n ver off) (.box n ver off)
  | agg {cs : List C} : Is (.agg cs) (.agg cs)
  | tup {cs : List C} : Is (.tup cs) (.tup cs)
  | arr {n ver : Nat} : Is (.arr n ver) (.arr n ver)
  | own {n ver len : Nat} : Is (.own n ver len) (.own n ver len)
  | fn {f : Fn} {cs : List C} : Is (.fn f cs) (.fn f cs)
  | map {n : Nat} : Is (.map n) (.map n)
  | any : Is .any .any
  | other {c : C} : Is c c
theorem Is.eq {c d : C} (h : Is c d) : c = d := by cases h <;> rfl
theorem n_mv {c : C} (ho : o.op = .move x) (hx : Is (evC st x) c) : NStep P o st c := hx.eq ▸ n_move (.inl ho)
theorem n_as {c : C} (ho : o.op = .assign x) (hx : Is (evC st x) c) : NStep P o st c := hx.eq ▸ n_move (.inr ho)
theorem n_pt {c a b : Operand} {y : C} (ho : o.op = .pick c a b) (hc : evC st c = .v (.bool true)) (ha : Is (evC st a) y) : NStep P o st y := by
  have := n_pick (P := P) ho hc; simpa [ha.eq] using this
theorem n_pf {c a b : Operand} {y : C} (ho : o.op = .pick c a b) (hc : evC st c = .v (.bool false)) (hb : Is (evC st b) y) : NStep P o st y := by
  have := n_pick (P := P) ho hc; simpa [hb.eq] using this

theorem p_t {c a b : Operand} {y : C} (ho : o.op = .pick c a b) (hc : evC st c = .v (.bool true)) (ha : evC st a = y) : NStep P o st y := by
  have := n_pick (P := P) ho hc; simpa [ha] using this
theorem p_f {c a b : Operand} {y : C} (ho : o.op = .pick c a b) (hc : evC st c = .v (.bool false)) (hb : evC st b = y) : NStep P o st y := by
  have := n_pick (P := P) ho hc; simpa [hb] using this
theorem p_tv {c a b : Operand} {y : Value} (ho : o.op = .pick c a b) (hc : evC st c = .v (.bool true)) (ha : evC st a = .v y) : NStep P o st (.v y) := p_t ho hc ha
theorem p_fv {c a b : Operand} {y : Value} (ho : o.op = .pick c a b) (hc : evC st c = .v (.bool false)) (hb : evC st b = .v y) : NStep P o st (.v y) := p_f ho hc hb

theorem n_len' {t : TypeId} {x : Operand} {rows : List (List C)} {tok : Tok} {e : TypeId} [Elt P t e] {k : Nat} (ho : o.op = .call { callee := .builtin .len, args := #[x], argTypes := #[t] }) (hx : evC st x = .list rows tok) (hk : rows.length = k) : NStep P o st (.v (.int .i64 (k : Int))) := hk ▸ n_len (ty := 0) ho rfl hx
theorem n_lenstr' {t : TypeId} {x : Operand} {s : ByteArray} [StrT P t] (ho : o.op = .call { callee := .builtin .len, args := #[x], argTypes := #[t] }) (hx : evC st x = .v (.string s)) : NStep P o st (.v (.int .i64 s.size)) := n_lenstr ho StrT.spec hx
theorem n_fieldAddr' {t : TypeId} {x : Operand} {f off : Nat} {ft : TypeId} [Fld P t f off ft] {cs : List C} {d : C} {ds : List C} (ho : o.op = .fieldAddr t x f) (hx : evC st x = .elem cs) (hd : cs.drop off = d :: ds) : NStep P o st (.elem (d :: ds)) := by
  rw [← hd]; exact n_fieldAddr ho hx (by rw [hd]; simp)
theorem n_index_str' {t : TypeId} {x i : Operand} {s : ByteArray} {ik : IntKind} {n : Int} {k : Nat} [StrT P t] {b : UInt8} (ho : o.op = .index t x i) (hx : evC st x = .v (.string s)) (hi : evC st i = .v (.int ik n)) (hn : n = (k : Int)) (hb : s.data.toList[k]? = some b) : NStep P o st (.v (.int .u8 (b.toNat : Int))) := by
  have hk : k < s.size := by
    have := (List.getElem?_eq_some_iff.1 hb).1
    simpa using this
  have e : s[k] = b := by
    rw [Array.getElem?_toList] at hb
    have := (Array.getElem?_eq_some_iff.1 hb).2
    exact this
  rw [← e]; exact n_index_str ho StrT.spec hx hi hn hk
theorem s_load_agg' {D : Nat → Prop} {t : TypeId} {x : Operand} {n : Nat} {cs : List C} [Ty P t true n] (ho : o.op = .load t x) (hx : evC st x = .elem cs) (hn : cs.length = n) : SStep P D o st (.agg cs) := by
  have := s_load_agg (P := P) (D := D) ho hx (Nat.le_of_eq hn.symm)
  rwa [List.take_of_length_le (Nat.le_of_eq hn)] at this

/-- The first slots alone are kept. -/
theorem aw_wipe {c : Code} (k : Nat) (h : AW ρ P c Q { st with l := firsts st.l st.r 0 k, r := [] }) : AW ρ P c Q st := aw_le (fun _ _ _ hs => hs.wipe k) h
/-- One statement, then what follows from one state. -/
theorem aw_seq_k {x y : Code} (h : ∀ K : St → Prop, (∀ st', AW ρ P y Q st' → K st') → AW ρ P x (AThen K Q) st) : AW ρ P (.seq x y) Q st := aw_seq (h _ fun _ h => h)
theorem aw_seq_cut {x y : Code} (I : St → Prop) (h1 : AW ρ P x (AThen I Q) st) (h2 : ∀ st', I st' → AW ρ P y Q st') : AW ρ P (.seq x y) Q st :=
  aw_seq (AW.mono h1 fun e st' hq => by cases e <;> first | exact h2 st' hq | exact hq)

/-- What a frame gives back, one slot. -/
theorem resC_one {fn : Func} {i : Nat} {r : C} (hf : fn.results = #[.tmp i]) (hr : st.at i = r) : resC P fn st r := by
  intro E w a hs
  refine ⟨_, by simp [results, hf], hr ▸ (show R E w (st.at i) (a.tmps.getD i undef) from hs.at i)⟩
theorem resC_two {fn : Func} {i j : Nat} {r1 r2 : C} (hf : fn.results = #[.tmp i, .tmp j]) (h1 : st.at i = r1) (h2 : st.at j = r2) : resC P fn st (.tup [r1, r2]) := by
  intro E w a hs
  refine ⟨.tuple [a.tmps.getD i undef, a.tmps.getD j undef].toArray, by simp [results, hf], Rs.tup (Rs.cons (h1 ▸ (show R E w (st.at i) (a.tmps.getD i undef) from hs.at i)) (Rs.cons (h2 ▸ (show R E w (st.at j) (a.tmps.getD j undef) from hs.at j)) Rs.nil))⟩
theorem ends_one {fn : Func} {i : Nat} {r : C} {G : Nat → Option GObj} {nx : Nat} (hf : fn.results = #[.tmp i]) (hr : st.at i = r) (hn : nx ≤ st.nx) (hG : ∀ n o, G n = some o → st.G n = some o) : Ends P fn r G nx .ret st := ⟨resC_one hf hr, hn, hG⟩
end

section
variable {P : Program} {st : St}
theorem ends_1 {fn : Func} {i : Nat} {r r' : C} {G : Nat → Option GObj} {nx : Nat} (hf : fn.results = #[.tmp i]) (hr : Is (st.at i) r') (hn : nx ≤ st.nx) (hG : ∀ n o, G n = some o → st.G n = some o) (e : r' = r) : Ends P fn r G nx .ret st := by
  subst e; exact ⟨resC_one hf hr.eq, hn, hG⟩
theorem ends_2 {fn : Func} {i j : Nat} {r1 r2 r1' r2' : C} {G : Nat → Option GObj} {nx : Nat} (hf : fn.results = #[.tmp i, .tmp j]) (h1 : Is (st.at i) r1') (h2 : Is (st.at j) r2') (hn : nx ≤ st.nx) (hG : ∀ n o, G n = some o → st.G n = some o) (e1 : r1' = r1) (e2 : r2' = r2) : Ends P fn (.tup [r1, r2]) G nx .ret st := by
  subst e1; subst e2; exact ⟨resC_two hf h1.eq h2.eq, hn, hG⟩
end
theorem vb {a b : Bool} (h : a = b) : C.v (.bool a) = C.v (.bool b) := by rw [h]
theorem vi {k : IntKind} {a b : Int} (h : a = b) : C.v (.int k a) = C.v (.int k b) := by rw [h]
theorem vs {a b : ByteArray} (h : a = b) : C.v (.string a) = C.v (.string b) := by rw [h]

/-! ### Cuts and loops by what is written over -/
theorem natBeq (a b : Nat) : Nat.beq a b = (a == b) := by rw [Bool.eq_iff_iff, Nat.beq_eq, beq_iff_eq]

def FitsU (l : List C) (r : List (Nat × C)) : List (Nat × C) → Prop
  | [] => True
  | p :: u => (p.2 = .any ∨ getA l r p.1 = p.2) ∧ FitsU l r u
def keysOk (u : List (Nat × C)) (n : Nat) : List (Nat × C) → Bool
  | [] => true
  | p :: r => (u.any (fun q => Nat.beq q.1 p.1) || Nat.ble n p.1) && keysOk u n r
theorem getA_key {l : List C} {r : List (Nat × C)} {i : Nat} (h : ∀ p ∈ r, p.1 ≠ i) : getA l r i = l.getD i .any := by
  induction r with
  | nil => rfl
  | cons p r ih =>
    obtain ⟨d, c⟩ := p
    have h1 : Nat.beq d i = false := by
      cases hb : Nat.beq d i
      · rfl
      · exact (h (d, c) (by simp) (Nat.eq_of_beq_eq_true hb)).elim
    simp only [getA, h1, cond_false]
    exact ih fun p hp => h p (by simp [hp])
theorem keysOk_spec {u : List (Nat × C)} {n : Nat} : ∀ {r : List (Nat × C)}, keysOk u n r = true → ∀ p ∈ r, (∃ q ∈ u, q.1 = p.1) ∨ n ≤ p.1
  | [], _, p, hp => by cases hp
  | p' :: r, h, p, hp => by
    simp only [keysOk, Bool.and_eq_true, Bool.or_eq_true] at h
    rcases List.mem_cons.1 hp with rfl | hp
    · rcases h.1 with h1 | h1
      · obtain ⟨q, hq, he⟩ := List.any_eq_true.1 h1
        exact .inl ⟨q, hq, Nat.eq_of_beq_eq_true he⟩
      · exact .inr (Nat.le_of_ble_eq_true h1)
    · exact keysOk_spec h.2 p hp
theorem getA_fits {l : List C} {r u : List (Nat × C)} (h : FitsU l r u) (i : Nat) : (∃ p ∈ u, p.1 = i) → getA l u i = .any ∨ getA l u i = getA l r i := by
  induction u with
  | nil => rintro ⟨p, hp, _⟩; cases hp
  | cons p u ih =>
    obtain ⟨d, c⟩ := p
    rintro ⟨q, hq, he⟩
    simp only [getA]
    cases hb : Nat.beq d i
    · simp only [cond_false]
      rcases List.mem_cons.1 hq with rfl | hq
      · have e : d = i := he
        subst e
        rw [Nat.beq_refl] at hb
        cases hb
      · exact ih h.2 ⟨q, hq, he⟩
    · have hd := Nat.eq_of_beq_eq_true hb
      subst hd
      simp only [cond_true]
      rcases h.1 with h1 | h1
      · exact .inl h1
      · exact .inr h1.symm
theorem le_r {n : Nat} {l : List C} {r u : List (Nat × C)} {G : Nat → Option GObj} {nx df : Nat} (h1 : FitsU l r u) (h2 : keysOk u l.length r = true) : Le ⟨n, l, r, G, nx, df⟩ ⟨n, l, u, G, nx, df⟩ := by
  intro E w a hs
  refine ⟨hs.d, hs.sz, fun i v hv => ?_, hs.g⟩
  have h0 := hs.t i v hv
  by_cases hu : ∃ p ∈ u, p.1 = i
  · rcases getA_fits h1 i hu with h3 | h3
    · show R E w (getA l u i) v; rw [h3]; exact .any
    · show R E w (getA l u i) v; rw [h3]; exact h0
  · have h3 : getA l u i = l.getD i .any := getA_key fun p hp he => hu ⟨p, hp, he⟩
    by_cases hr : ∃ p ∈ r, p.1 = i
    · obtain ⟨p, hp, he⟩ := hr
      rcases keysOk_spec h2 p hp with ⟨q, hq, he2⟩ | hle
      · exact (hu ⟨q, hq, by omega⟩).elim
      · show R E w (getA l u i) v
        rw [h3, List.getD_eq_getElem?_getD, List.getElem?_eq_none (by omega)]
        exact .any
    · have h4 : getA l r i = l.getD i .any := getA_key fun p hp he => hr ⟨p, hp, he⟩
      show R E w (getA l u i) v
      rw [h3, ← h4]; exact h0
/-- Objects may be forgotten. -/
theorem le_G {st : St} {G : Nat → Option GObj} (h : ∀ n o, G n = some o → st.G n = some o) : Le st { st with G := G } :=
  fun _ _ _ hs => ⟨hs.d, hs.sz, hs.t, hs.g.weak h⟩
theorem Le.trans {a b c : St} (h : Le a b) (k : Le b c) : Le a c := fun E w x hs => k E w x (h E w x hs)

section
variable {P : Program} {Q : Exit → St → Prop} {st : St} {X : Type}
theorem aw_loopS {c : Code} (I : X → Prop) (μ : X → Nat) (u : X → St → St) (x0 : X) (h0 : I x0) (e0 : Le st (u x0 st))
    (round : ∀ x, I x → AW ρ P c (AThen (fun st' => ∃ x', μ x' < μ x ∧ I x' ∧ Le st' (u x' st)) Q) (u x st)) : AW ρ P (.loop c) Q st := by
  refine aw_le e0 (aw_loop (fun m st' => ∃ x, m = μ x ∧ I x ∧ st' = u x st) (μ x0) ⟨x0, rfl, h0, rfl⟩ ?_)
  rintro m st' ⟨x, rfl, hI, rfl⟩
  refine AW.mono (round x hI) fun e st' hq => ?_
  cases e with
  | normal =>
    obtain ⟨x', h1, h2, h3⟩ := hq
    exact ⟨μ x', u x' st, h1, h3, x', rfl, h2, rfl⟩
  | _ => exact hq
theorem aw_cutS {x y : Code} (I : X → Prop) (u : X → St → St) (h1 : AW ρ P x (AThen (fun st' => ∃ x, I x ∧ Le st' (u x st)) Q) st) (h2 : ∀ x, I x → AW ρ P y Q (u x st)) : AW ρ P (.seq x y) Q st :=
  aw_seq (AW.mono h1 fun e st' hq => by
    cases e with
    | normal => obtain ⟨x, h3, h4⟩ := hq; exact aw_le h4 (h2 x h3)
    | _ => exact hq)
theorem aops_split {ops : Array Oper} {K : St → Prop} {rest : List Oper} {d : Option Tmp} {b : Bool} (ht : b = true → AOps ρ P ops K rest (st.put d (.v (.bool true)))) (hf : b = false → AOps ρ P ops K rest (st.put d (.v (.bool false)))) : AOps ρ P ops K rest (st.put d (.v (.bool b))) := by
  cases b
  · exact hf rfl
  · exact ht rfl
theorem acan1_split {ops : Array Oper} {K : St → Prop} {D : List Nat} {late Ef N : Nat → Bool} {π : List (Nat × Option Nat)} {d : Option Tmp} {b : Bool} (ht : b = true → ACan1 P ops K D late Ef N π (st.put d (.v (.bool true)))) (hf : b = false → ACan1 P ops K D late Ef N π (st.put d (.v (.bool false)))) : ACan1 P ops K D late Ef N π (st.put d (.v (.bool b))) := by
  cases b
  · exact hf rfl
  · exact ht rfl
theorem acan2_split {ops : Array Oper} {K : St → Prop} {D : List Nat} {late Ef N : Nat → Bool} {π : List (Nat × Option Nat)} {d : Option Tmp} {b bb : Bool} (ht : b = true → ACan2 P ops K D late Ef N bb π (st.put d (.v (.bool true)))) (hf : b = false → ACan2 P ops K D late Ef N bb π (st.put d (.v (.bool false)))) : ACan2 P ops K D late Ef N bb π (st.put d (.v (.bool b))) := by
  cases b
  · exact hf rfl
  · exact ht rfl
theorem nd_t {p : Prop} [Decidable p] (h : (!decide p) = true) : ¬ p := by simpa using h
theorem nd_f {p : Prop} [Decidable p] (h : (!decide p) = false) : p := by simpa using h
theorem not_dec_t {p : Prop} [Decidable p] (h : ¬ p) : (!decide p) = true := by simp [h]
theorem not_dec_f {p : Prop} [Decidable p] (h : p) : (!decide p) = false := by simp [h]
end

/-! ### Data as cells -/
class Enc (α : Type) where
  cells : α → List C
  n : Nat
  len : ∀ x, (cells x).length = n
  low : ∀ m x, ∀ c ∈ cells x, C.low m c
  one : ∀ x, ∀ c ∈ cells x, c.one = true
open Enc (cells)

instance : Enc Int := ⟨fun x => [.v (.int .i64 x)], 1, fun _ => rfl, fun m x c h => by simp at h; subst h; exact .v, fun x c h => by simp at h; subst h; rfl⟩
instance : Enc ByteArray := ⟨fun x => [.v (.string x)], 1, fun _ => rfl, fun m x c h => by simp at h; subst h; exact .v, fun x c h => by simp at h; subst h; rfl⟩
instance : Enc Bool := ⟨fun x => [.v (.bool x)], 1, fun _ => rfl, fun m x c h => by simp at h; subst h; exact .v, fun x c h => by simp at h; subst h; rfl⟩
/-- a byte, a kind -/
structure U8 where
  v : Int
  deriving DecidableEq
instance : Enc U8 := ⟨fun x => [.v (.int .u8 x.v)], 1, fun _ => rfl, fun m x c h => by simp at h; subst h; exact .v, fun x c h => by simp at h; subst h; rfl⟩

/-- Lengths and numbers fit. -/
inductive C.fit : C → Prop
  | v {x : Value} : okV x = true → C.fit (.v x)
  | list {rows : List (List C)} {tok : Tok} : rows.length ≤ 9223372036854775807 → (∀ r ∈ rows, ∀ c ∈ r, C.fit c) → C.fit (.list rows tok)
  | elem {cs : List C} : (∀ c ∈ cs, C.fit c) → C.fit (.elem cs)
  | box {n ver off : Nat} : C.fit (.box n ver off)
  | arr {n ver : Nat} : C.fit (.arr n ver)
  | own {n ver len : Nat} : C.fit (.own n ver len)
  | fn {f : Fn} {caps : List C} : (∀ c ∈ caps, C.fit c) → C.fit (.fn f caps)
  | map {n : Nat} : C.fit (.map n)
  | agg {cs : List C} : (∀ c ∈ cs, C.fit c) → C.fit (.agg cs)
  | tup {cs : List C} : (∀ c ∈ cs, C.fit c) → C.fit (.tup cs)
  | any : C.fit .any
theorem R.fit {E : Env} {w : World} {c : C} {v : Value} (h : R E w c v) : c.fit := by
  induction h with
  | v h => exact .v h
  | list h1 h2 _ _ _ _ _ _ _ _ ih =>
    refine .list (by unfold maxLen at h2; omega) fun r hr c hc => ?_
    obtain ⟨j, hj⟩ := List.getElem?_of_mem (List.mem_flatten.2 ⟨r, hr, hc⟩)
    exact ih j c hj
  | elem _ _ _ _ ih => exact .elem fun c hc => let ⟨j, hj⟩ := List.getElem?_of_mem hc; ih j c hj
  | box _ _ => exact .box
  | arr _ _ _ _ => exact .arr
  | own _ _ _ _ => exact .own
  | fn _ _ _ ih => exact .fn fun c hc => let ⟨j, hj⟩ := List.getElem?_of_mem hc; ih j c hj
  | map _ _ => exact .map
  | agg _ _ _ _ ih => exact .agg fun c hc => let ⟨j, hj⟩ := List.getElem?_of_mem hc; ih j c hj
  | tup _ _ _ ih => exact .tup fun c hc => let ⟨j, hj⟩ := List.getElem?_of_mem hc; ih j c hj
  | any => exact .any
theorem aw_fit {P : Program} {Q : Exit → St → Prop} {st : St} {c : Code} (i : Nat) (h : (st.at i).fit → AW ρ P c Q st) : AW ρ P c Q st :=
  fun E w a hs => h (hs.at i).fit E w a hs
@[simp] theorem fit_v {x : Value} : (C.v x).fit ↔ okV x = true := ⟨fun h => by cases h; assumption, fun h => .v h⟩
@[simp] theorem fit_list {rows : List (List C)} {tok : Tok} : (C.list rows tok).fit ↔ rows.length ≤ 9223372036854775807 ∧ ∀ r ∈ rows, ∀ c ∈ r, C.fit c := ⟨fun h => by cases h; constructor <;> assumption, fun h => .list h.1 h.2⟩
@[simp] theorem fit_elem {cs : List C} : (C.elem cs).fit ↔ ∀ c ∈ cs, C.fit c := ⟨fun h => by cases h; assumption, fun h => .elem h⟩
@[simp] theorem fit_agg {cs : List C} : (C.agg cs).fit ↔ ∀ c ∈ cs, C.fit c := ⟨fun h => by cases h; assumption, fun h => .agg h⟩

/-- A list as a slice that is only read. -/
def lst {α : Type} [Enc α] (xs : List α) : C := .list (xs.map cells) .none
theorem lst_low {α : Type} [Enc α] (m : Nat) (xs : List α) : (lst xs).low m :=
  .list (fun r hr c hc => by obtain ⟨x, _, rfl⟩ := List.mem_map.1 hr; exact Enc.low m x c hc) (by simp)
instance {α : Type} [Enc α] : Enc (List α) := ⟨fun xs => [lst xs], 1, fun _ => rfl, fun m x c h => by simp at h; subst h; exact lst_low m x, fun x c h => by simp at h; subst h; rfl⟩
@[simp] theorem fit_lst {α : Type} [Enc α] {xs : List α} : (lst xs).fit ↔ xs.length ≤ 9223372036854775807 ∧ ∀ x ∈ xs, ∀ c ∈ cells x, C.fit c := by
  simp [lst]
theorem map_get {α β : Type} {f : α → β} {xs : List α} {k : Nat} {x : α} (h : xs[k]? = some x) : (xs.map f)[k]? = some (f x) := by rw [List.getElem?_map, h]; rfl
theorem some_of_lt {α : Type} {l : List α} {k : Nat} (h : k < l.length) : ∃ x, l[k]? = some x := ⟨_, List.getElem?_eq_getElem h⟩
end Go.AB

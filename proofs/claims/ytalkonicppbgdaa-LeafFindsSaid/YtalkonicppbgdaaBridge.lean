/-
  From readings in blocks (Go.PB) to abstract cells (Go.AB), and back: contracts of the first kind, told as ones of the second.
-/
import Derived.Test.YtalkonicppbgdaaAbThirteen
import Derived.Test.YtalkonicppbgdaaAdData
import Derived.Test.YtalkonicppbgdaaBase
namespace Go.AB
open Go Go.RowKit
open Go.AB.Enc (cells)
open Go.PB.Rep (rd)
open Go.PB (Chap TextD PlaceD ReadingD CopyD WayD Rep Rd At)

/-- So many cells lie in a block. -/
def cellCount (w : World) (b : Nat) : Nat := match w.heap[b]? with
  | some (.cells us _ _) => us.size
  | _ => 0
theorem cellCount_of {w : World} {b j : Nat} {u : Value} (h : w.cell? ⟨b, j, none⟩ = some u) : j < cellCount w b := by
  unfold World.cell? at h
  unfold cellCount
  dsimp only at h ⊢
  split at h
  · rename_i c tt fz e
    rw [e]
    simp only [Option.isSome_none, Bool.false_eq_true, if_false] at h
    exact (Array.getElem?_eq_some_iff.1 h).1
  · cases h

theorem Rs.one_inv {E : Env} {w : World} {c : C} {cs : List Value} (h : Rs E w [c] cs) : ∃ v, cs = [v] ∧ R E w c v := by
  match cs, h with
  | [v], h => exact ⟨v, rfl, h.2 0 c v rfl rfl⟩
  | [], h => exact absurd h.1 (by simp)
  | _ :: _ :: _, h => exact absurd h.1 (by simp)
theorem Rs.one_of {E : Env} {w : World} {c : C} {v : Value} (h : R E w c v) : Rs E w [c] [v] := Rs.cons h Rs.nil

/-- A type that is read both ways. -/
class Both (α : Type) [Rep α] [Enc α] : Prop where
  n : Rep.n α = Enc.n α
  pos : 1 ≤ Enc.n α
  to : ∀ {E : Env} {w : World} {cs : List Value} {x : α}, Rs E w (cells x) cs → rd w (fun b => 0 < E.L b) cs x
  of : ∀ {E : Env} {w : World} {F : Nat → Prop} {cs : List Value} {x : α}, (∀ b, F b → cellCount w b ≤ E.L b) → rd w F cs x → Rs E w (cells x) cs

theorem wf_i64 {n : Int} : (Lit.int .i64 n).wf = true ↔ okV (.int .i64 n) = true :=
  ⟨fun h => okV_i64 (PB.I64.bd h), fun h => PB.I64.of (of_okV_i64 h)⟩
theorem wf_u8 {n : Int} : (Lit.int .u8 n).wf = true ↔ okV (.int .u8 n) = true := by
  rw [okV_int]
  simp [Lit.wf, IntKind.min, IntKind.max, IntKind.signed, IntKind.bits, loK, hiK]
theorem size_ok {s : ByteArray} : s.size ≤ maxLen ↔ okV (.string s) = true := by
  rw [okV_str]; simp [maxLen]

instance : Both Int where
  n := rfl
  pos := Nat.le_refl _
  to h := by
    obtain ⟨v, rfl, hr⟩ := Rs.one_inv h
    cases hr with | v h1 => exact ⟨rfl, wf_i64.2 h1⟩
  of _ h := by
    obtain ⟨rfl, h1⟩ := h
    exact Rs.one_of (.v (wf_i64.1 h1))
instance : Both ByteArray where
  n := rfl
  pos := Nat.le_refl _
  to h := by
    obtain ⟨v, rfl, hr⟩ := Rs.one_inv h
    cases hr with | v h1 => exact ⟨rfl, size_ok.2 h1⟩
  of _ h := by
    obtain ⟨rfl, h1⟩ := h
    exact Rs.one_of (.v (size_ok.1 h1))

theorem rows_of {α : Type} [Enc α] {E : Env} {w : World} {b : Nat} : ∀ (xs : List α) (off : Nat), (∀ i x, xs[i]? = some x → ∃ es, Rs E w (cells x) es ∧ ∀ j e, es[j]? = some e → w.cell? ⟨b, off + i * Enc.n α + j, none⟩ = some e) →
    ∃ us, Rs E w (xs.map cells).flatten us ∧ ∀ j u, us[j]? = some u → w.cell? ⟨b, off + j, none⟩ = some u
  | [], off, _ => ⟨[], Rs.nil, by simp⟩
  | x :: xs, off, h => by
    obtain ⟨es, h1, h2⟩ := h 0 x rfl
    obtain ⟨us, h3, h4⟩ := rows_of xs (off + Enc.n α) fun i y hy => by
      obtain ⟨fs, k1, k2⟩ := h (i + 1) y (by simpa using hy)
      exact ⟨fs, k1, fun j e he => by rw [← k2 j e he]; congr 2; rw [Nat.add_mul]; omega⟩
    have hl : es.length = Enc.n α := by rw [h1.1]; exact Enc.len x
    refine ⟨es ++ us, by rw [List.map_cons, List.flatten_cons]; exact h1.append h3, fun j u hu => ?_⟩
    by_cases hj : j < es.length
    · rw [List.getElem?_append_left hj] at hu
      rw [← h2 j u hu]; congr 2; omega
    · rw [List.getElem?_append_right (by omega)] at hu
      rw [← h4 _ u hu]; congr 2; omega

instance {α : Type} [Rep α] [Enc α] [Both α] : Both (List α) where
  n := rfl
  pos := Nat.le_refl _
  to {E w cs xs} h := by
    obtain ⟨v, rfl, hr⟩ := Rs.one_inv h
    obtain ⟨a, cap, sz, us, rfl, h1, h2, h3, h4, h5, h6, h7, _⟩ := R.list_inv hr
    rw [List.length_map] at h1 ⊢
    refine ⟨a, cap, rfl, h1, h2, ?_⟩
    cases xs with
    | nil => exact .inl rfl
    | cons x0 xs0 =>
      right
      rcases h7 with h7 | ⟨b, off, rfl, hL, hc⟩
      · simp at h7
      · have hn : sz = Enc.n α := by rw [← h4 _ (List.mem_cons_self ..)]; exact Enc.len x0
        subst hn
        have hpos : 0 < us.length := by rw [h6.1, flat_len h4, List.length_map, List.length_cons, Nat.add_mul]; omega
        refine ⟨b, off, rfl, by omega, fun i x hx => ?_⟩
        refine ⟨(us.drop (i * Enc.n α)).take (Enc.n α), Both.to ⟨?_, fun j c v hcj hv => ?_⟩, fun j e he => ?_⟩
        · have hi := (List.getElem?_eq_some_iff.1 hx).1
          have hl : us.length = (x0 :: xs0).length * Enc.n α := by rw [h6.1, flat_len h4, List.length_map]
          have hm : (i + 1) * Enc.n α ≤ (x0 :: xs0).length * Enc.n α := Nat.mul_le_mul_right _ hi
          rw [Nat.add_mul] at hm
          rw [List.length_take, List.length_drop, Enc.len]; omega
        · have hj : j < Enc.n α := by rw [← Enc.len x]; exact (List.getElem?_eq_some_iff.1 hcj).1
          rw [List.getElem?_take, if_pos hj, List.getElem?_drop] at hv
          exact h6.2 _ c v (flat_get h4 (by rw [List.getElem?_map, hx]; rfl) hcj) hv
        · rw [List.getElem?_take] at he
          split at he
          · rw [List.getElem?_drop] at he
            have := hc _ e he
            rw [Both.n, Nat.add_assoc]; exact this
          · cases he
  of {E w F cs xs} hF h := by
    obtain ⟨a, cap, rfl, h1, h2, h3⟩ := PB.rd_list h
    have hlen : (xs.map (cells (α := α))).length = xs.length := List.length_map ..
    have : R E w (.list (xs.map cells) .none) (.slice a (xs.map (cells (α := α))).length cap) := by
      by_cases hxs : xs = []
      · subst hxs
        exact R.mk_list (rows := []) (sz := 1) (us := []) (Nat.zero_le _) h2 (Nat.le_refl _) (by simp) (by simp) Rs.nil (.inl rfl) (by simp) (by simp) (by simp)
      · obtain ⟨b, off, rfl, hb, h4⟩ := h3.resolve_left hxs
        obtain ⟨us, k1, k2⟩ := rows_of (E := E) (w := w) (b := b) xs off fun i x hx => by
          obtain ⟨es, q1, q2⟩ := h4 i x hx
          exact ⟨es, Both.of hF q1, fun j e he => by rw [← Both.n]; exact q2 j e he⟩
        refine R.mk_list (sz := Enc.n α) (us := us) (by rw [hlen]; exact h1) h2 Both.pos (map_len xs) (fun r hr c hc => ?_) k1 (.inr ⟨b, off, rfl, ?_, k2⟩) (by simp) (by simp) (by simp)
        · obtain ⟨x, _, rfl⟩ := List.mem_map.1 hr
          exact Enc.one x c hc
        · have h0 : 0 < us.length := by
            rw [k1.1, flat_len (map_len xs), List.length_map]
            exact Nat.mul_pos (List.length_pos_iff.2 hxs) Both.pos
          have := cellCount_of (k2 (us.length - 1) _ (List.getElem?_eq_getElem (by omega)))
          have := hF b hb
          omega
    rw [hlen] at this
    exact Rs.one_of this
instance : Both Chap where
  n := rfl
  pos := by decide
  to {E w cs x} h := by
    match cs, h with
    | [a, v], h =>
      have h1 := h.2 0 _ _ rfl rfl
      have h2 := h.2 1 _ _ rfl rfl
      cases h1 with
      | v h1 => exact ⟨v, rfl, wf_i64.2 h1, Both.to (Rs.one_of h2)⟩
    | [], h => exact absurd h.1 (by simp [cells])
    | [_], h => exact absurd h.1 (by simp [cells])
    | _ :: _ :: _ :: _, h => exact absurd h.1 (by simp [cells])
  of {E w F cs x} hF h := by
    obtain ⟨v, rfl, h1, h2⟩ := h
    obtain ⟨u, e, hu⟩ := Rs.one_inv (Both.of (E := E) hF h2)
    simp only [List.cons.injEq, and_true] at e
    subst e
    exact Rs.cons (.v (wf_i64.1 h1)) (Rs.one_of hu)
instance : Both ReadingD where
  n := rfl
  pos := by decide
  to {E w cs x} h := by
    match cs, h with
    | [a, b, c, d, e], h =>
      have h1 := h.2 0 _ _ rfl rfl
      have h2 := h.2 1 _ _ rfl rfl
      have h3 := h.2 2 _ _ rfl rfl
      have h4 := h.2 3 _ _ rfl rfl
      have h5 := h.2 4 _ _ rfl rfl
      cases h1 with | v h1 =>
      cases h2 with | v h2 =>
      cases h3 with | v h3 =>
      cases h4 with | v h4 =>
      cases h5 with | v h5 =>
      exact ⟨rfl, ⟨wf_i64.2 h1, wf_i64.2 h2, wf_i64.2 h3⟩, wf_u8.2 h4, size_ok.2 h5⟩
    | [], h => exact absurd h.1 (by simp [cells])
    | [_], h => exact absurd h.1 (by simp [cells])
    | [_, _], h => exact absurd h.1 (by simp [cells])
    | [_, _, _], h => exact absurd h.1 (by simp [cells])
    | [_, _, _, _], h => exact absurd h.1 (by simp [cells])
    | _ :: _ :: _ :: _ :: _ :: _ :: _, h => exact absurd h.1 (by simp [cells])
  of {E w F cs x} hF h := by
    obtain ⟨rfl, ⟨h1, h2, h3⟩, h4, h5⟩ := h
    exact Rs.cons (.v (wf_i64.1 h1)) (Rs.cons (.v (wf_i64.1 h2)) (Rs.cons (.v (wf_i64.1 h3)) (Rs.cons (.v (wf_u8.1 h4)) (Rs.one_of (.v (size_ok.1 h5))))))

/-- What is laid is read as it stands in the world. -/
theorem Both.rd {α : Type} [Rep α] [Enc α] [Both α] {E : Env} {w : World} {G : Nat → Option GObj} {nx : Nat} (hg : SimG E w G nx) {cs : List Value} {x : α} (h : Rs E w (cells x) cs) : Rd w cs x :=
  Rep.mono (fun b hb => Nat.lt_of_not_le fun hle => by have := hg.fresh b hle; omega) (PB.Keep.refl _ _) (Both.to h)
theorem Both.text {E : Env} {w : World} {G : Nat → Option GObj} {nx : Nat} (hg : SimG E w G nx) {t : TextD} {v : Value} (h : R E w (textC t) v) : ∃ u, v = .agg #[u] ∧ Rd w [u] t := by
  obtain ⟨vs, rfl, h1, _⟩ := R.agg_inv h
  obtain ⟨u, rfl, h2⟩ := Rs.one_inv h1
  exact ⟨u, rfl, Both.rd hg (Rs.one_of h2)⟩

/-- A call that leaves all as it was below the world's end; its result's blocks are laid. -/
theorem pure_of_old {P : Program} {f : FuncId} {args : List C} {r : C}
    (h : ∀ E w vs (G : Nat → Option GObj) nx, Rs E w args vs → SimG E w G nx → Calls P f vs.toArray w fun e w' => ∃ v, e = .returned v ∧ Below w.heap.size w w' ∧ ∀ E', (∀ b, w.heap.size ≤ b → b < w'.heap.size → cellCount w' b ≤ E'.L b) → R E' w' r v) : Pure P f args r := by
  intro G nx E w vs hr hg
  refine (h E w vs G nx hr hg).mono ?_
  rintro e w' ⟨v, rfl, hb, hv⟩
  have hsz := hb.size
  have hev : Ev E w { E with L := fun b => if b < w.heap.size then E.L b else cellCount w' b } w' := by
    refine ⟨hb.mono hg.base, rfl, fun b => ?_, fun b i hi => ?_, Nat.le_refl _, fun n hn ver wv val hT => ⟨ver, wv, val, hT, Nat.le_refl _, fun _ => ⟨rfl, fun _ b hbl => hb.block b (hg.tb n ver wv val b hT hbl).2⟩⟩, fun n ver wv wv' val h1 h2 _ => ?_⟩
    · show E.L b ≤ if b < w.heap.size then E.L b else cellCount w' b
      split
      · exact Nat.le_refl _
      · rw [hg.fresh b (by omega)]; exact Nat.zero_le _
    · have hbw : b < w.heap.size := Nat.lt_of_not_le fun hle => by have := hg.fresh b hle; omega
      exact hb.cell (p := ⟨b, i, none⟩) hbw
    · have h2' : E.T n = some (ver, wv', val) := h2
      rw [h1] at h2'
      simp only [Option.some.injEq, Prod.mk.injEq] at h2'
      omega
  refine ⟨r, v, _, G, nx, rfl, hev, hv _ fun b h1 h2 => ?_, ⟨hg.nx, fun n o ho => ?_, hg.lt, fun n ver wv val b h1 h2 => ?_, hg.ap, fun b hbb => ?_, Nat.le_trans hg.base hsz⟩, rfl, rfl, rfl⟩
  · show cellCount w' b ≤ if b < w.heap.size then E.L b else cellCount w' b
    rw [if_neg (by omega)]; exact Nat.le_refl _
  · refine (hg.obj n o ho).keep hev rfl fun ver wv val b h1 h2 => ?_
    have hbw := (hg.tb n ver wv val b h1 h2).2
    exact ⟨hb.block b hbw, if_pos hbw⟩
  · have := hg.tb n ver wv val b h1 h2
    exact ⟨this.1, by omega⟩
  · show (if b < w.heap.size then E.L b else cellCount w' b) = 0
    rw [if_neg (by omega)]
    unfold cellCount
    rw [Array.getElem?_eq_none (by omega)]
end Go.AB

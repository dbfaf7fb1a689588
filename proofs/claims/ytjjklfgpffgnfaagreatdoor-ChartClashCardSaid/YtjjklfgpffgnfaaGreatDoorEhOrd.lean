/-
 Lines of an edition in their order; equality of lines; what sorts them.
-/
import Derived.Test.YtjjklfgpffgnfaaGreatDoorEgComp
import Derived.Test.YtjjklfgpffgnfaaGreatDoorEaPlain
import Derived.Test.YtjjklfgpffgnfaaGreatDoorCvOpen
import Derived.Test.YtjjklfgpffgnfaaGreatDoorLay
import Derived.ChangeKeysEq
namespace Go.AB
open Go Go.RowKit
open Go.AB.Enc (cells)
open Go.PB (bv ai PlaceD cy c6 cz)
instance : Enc L2 := ⟨fun x => [.v (.int .i64 x.1), .v (.int .i64 x.2)], 2, fun _ => rfl, fun m x c h => by
 simp only [List.mem_cons, List.not_mem_nil, or_false] at h; rcases h with rfl | rfl <;> exact .v, fun x c h => by
 simp only [List.mem_cons, List.not_mem_nil, or_false] at h; rcases h with rfl | rfl <;> rfl⟩
/-- two lines -/
structure TwoL where
 a : L2
 b : L2
 deriving DecidableEq
instance : Enc TwoL := ⟨fun x => [.v (.int .i64 x.a.1), .v (.int .i64 x.a.2), .v (.int .i64 x.b.1), .v (.int .i64 x.b.2)], 4, fun _ => rfl, fun m x c h => by
 simp only [List.mem_cons, List.not_mem_nil, or_false] at h; rcases h with rfl | rfl | rfl | rfl <;> exact .v, fun x c h => by
 simp only [List.mem_cons, List.not_mem_nil, or_false] at h; rcases h with rfl | rfl | rfl | rfl <;> rfl⟩
instance : FlatV TwoL := ⟨fun x => [.int .i64 x.a.1, .int .i64 x.a.2, .int .i64 x.b.1, .int .i64 x.b.2], fun _ => rfl⟩
def pa (a b : L2) : Int := fp [a.1, a.2] [b.1, b.2]
theorem tw {a b : L2} : pa a b < 0 ↔ ltL a b := by
 unfold pa
 rw [tv (a := [a.1, a.2]) (b := [b.1, b.2]) rfl]
 simp [ltW, ltL]
def LBd (a : L2) : Prop := -100000 ≤ a.1 ∧ a.1 ≤ 100000 ∧ -100000 ≤ a.2 ∧ a.2 ≤ 100000
theorem LBd.plain {a : L2} (h : LBd a) : Plain (cells a) := fun c hc => by
 obtain ⟨h1, h2, h3, h4⟩ := h
 have hc' : c ∈ [C.v (.int .i64 a.1), .v (.int .i64 a.2)] := hc
 simp only [List.mem_cons, List.not_mem_nil, or_false] at hc'
 rcases hc' with rfl | rfl
 ·exact ⟨_, rfl, j0 (by omega)⟩
 exact ⟨_, rfl, j0 (by omega)⟩
theorem ukn {p : L2 → Prop} : Ord3 p pa :=
 ⟨fun x _ => by rw [tw]; exact uao x, fun x y z _ _ _ h k => by rw [tw] at *; exact uhk h k, fun x y z _ _ _ h k => by rw [tw] at *; unfold ltL at *; omega⟩
theorem zw {α : Type} [DecidableEq α] : ∀ {l m : List α}, l.Nodup → (∀ x ∈ l, x ∈ m) → l.length ≤ m.length
 | [], _, _, _ => Nat.zero_le _
 | x :: l, m, hn, hs => by
  rw [List.nodup_cons] at hn
  have h1 := hs x (List.mem_cons_self ..)
  have h2 := zw (l := l) (m := m.erase x) hn.2 fun y hy => (List.mem_erase_of_ne fun (e : y = x) => hn.1 (e ▸ hy)).2 (hs y (List.mem_cons_of_mem _ hy))
  rw [List.length_erase_of_mem h1] at h2
  have := List.length_pos_of_mem h1
  simp only [List.length_cons]
  omega
theorem ufb {l : List L2} (h : l.Pairwise fun a b => ¬ pa b a < 0) (hn : l.Nodup) : l.Pairwise ltL := by
 have : l.Pairwise fun a b => ¬ pa b a < 0 ∧ a ≠ b := List.pairwise_and_iff.2 ⟨h, hn⟩
 refine this.imp fun {a b} ⟨h1, h2⟩ => ?_
 rw [tw] at h1
 exact Classical.byContradiction fun h3 => h2 (uhj h3 h1)
theorem ulq {f : L2 → Option L2} {p : L2} {c : C} (h : az f p = some c) : ∃ v, f p = some v ∧ oh v = c := by
 unfold az at h
 cases hf : f p with
 | none => rw [hf] at h; cases h
 | some v => rw [hf] at h; cases h; exact ⟨v, rfl, rfl⟩
/-- the line to which a line leads -/
def fl (es fs : List StretchD) (a : L2) : Option L2 := (cn es a).bind (ax fs)
theorem overO_some {es fs : List StretchD} {a u : L2} : fl es fs a = some u ↔ ∃ p, cn es a = some p ∧ ax fs p = some u := by
 unfold fl
 exact Option.bind_eq_some_iff
def gy (es fs : List StretchD) (a : L2) : ec := jb a ((fl es fs a).getD (0, 0))
theorem ukc {t : ai} {es fs : List StretchD} (hS : Sound t es) {ys ks : List L2} (hks : ∀ x, cn es x ≠ none ↔ x ∈ ks) (hys : ∀ x, x ∈ ys ↔ x ∈ ks ∧ (fl es fs x).isSome = true) (hs : ys.Pairwise ltL) : oa es fs (ys.map (gy es fs)) := by
 constructor
 ·rw [List.pairwise_map]
  exact hs
 intro x
 rw [List.mem_map]
 constructor
 ·rintro ⟨a, ha, rfl⟩
  obtain ⟨u, hu⟩ := Option.isSome_iff_exists.1 ((hys a).1 ha).2
  obtain ⟨p, hp, hpu⟩ := overO_some.1 hu
  exact ⟨p, a, u, (kd hS.no).1 hp, hpu, by simp [gy, hu]⟩
 rintro ⟨p, v, u, hv, hu, rfl⟩
 have hb := (kd hS.no).2 hv
 have ho : fl es fs v = some u := overO_some.2 ⟨p, hb, hu⟩
 exact ⟨v, (hys v).2 ⟨(hks v).1 (by rw [hb]; simp), by rw [ho]; rfl⟩, by simp [gy, ho]⟩
theorem uc0 {t : ai} {es : List StretchD} (hS : Sound t es) {l : List L2} (hn : l.Nodup) (hb : ∀ x ∈ l, cn es x ≠ none) : l.length ≤ 60 := by
 refine Nat.le_trans ?_ (Nat.le_trans (zw (l := l.map fun a => (cn es a).getD (0, 0)) (m := d9 t) ?_ ?_) ?_)
 ·rw [List.length_map]; exact Nat.le_refl _
 ·show List.Pairwise _ _
  rw [List.pairwise_map]
  refine List.Pairwise.imp_of_mem (fun {a b} ha hb' hab => ?_) hn
  obtain ⟨p, hp⟩ := Option.ne_none_iff_exists'.1 (hb a ha)
  obtain ⟨q, hq⟩ := Option.ne_none_iff_exists'.1 (hb b hb')
  rw [hp, hq]
  simp only [Option.getD_some]
  intro e
  subst e
  have h1 := (kd hS.no).1 hp
  have h2 := (kd hS.no).1 hq
  rw [h1] at h2
  exact hab (Option.some.inj h2)
 ·intro x hx
  obtain ⟨a, ha, rfl⟩ := List.mem_map.1 hx
  obtain ⟨p, hp⟩ := Option.ne_none_iff_exists'.1 (hb a ha)
  rw [hp]
  exact mem_lines.2 (ua hS ((kd hS.no).1 hp))
 exact ov hS.tx
/-- what a line that goes on would be -/
def sr (out : List ec) (n : TwoL) : Prop := out = [] ∨ ∃ p, out[out.length - 1]? = some p ∧ n = ⟨(p.ch, p.ln + p.n), (p.tc, p.tl + p.n)⟩
theorem vg {out : List ec} {n : TwoL} {a u : L2} {p : ec} (h : sr out n) (hp : out[out.length - 1]? = some p) : decide (TwoL.mk a u = n) = onP p (jb a u) := by
 rcases h with rfl | ⟨q, hq, rfl⟩
 ·simp at hp
 rw [hp] at hq
 cases hq
 obtain ⟨a1, a2⟩ := a
 obtain ⟨u1, u2⟩ := u
 show _ = (decide (p.ch = a1) && (decide (p.ln + p.n = a2) && (decide (p.tc = u1) && decide (p.tl + p.n = u2))))
 rw [Bool.eq_iff_iff]
 rw [decide_eq_true_eq]
 simp only [Bool.and_eq_true, decide_eq_true_eq, TwoL.mk.injEq, Prod.mk.injEq]
 constructor
 ·rintro ⟨⟨h1, h2⟩, h3, h4⟩
  exact ⟨h1.symm, h2.symm, h3.symm, h4.symm⟩
 rintro ⟨h1, h2, h3, h4⟩
 exact ⟨⟨h1.symm, h2.symm⟩, h3.symm, h4.symm⟩
theorem vf {out : List ec} {n : TwoL} (a u : L2) (h : sr out n) : sr (jx out (jb a u)) ⟨(a.1, a.2 + 1), (u.1, u.2 + 1)⟩ := by
 right
 by_cases h0 : out = []
 ·subst h0
  exact ⟨jb a u, by simp [jx], rfl⟩
 have hl := List.length_pos_iff.2 h0
 obtain ⟨p, hp⟩ : ∃ p, out[out.length - 1]? = some p := ⟨_, List.getElem?_eq_getElem (by omega)⟩
 cases hon : onP p (jb a u) with
 | true =>
  rw [yn hp hon]
  refine ⟨{ p with n := p.n + 1 }, by rw [List.length_set, List.getElem?_set_self (by omega)], ?_⟩
  have hon : (decide (p.ch = a.1) && (decide (p.ln + p.n = a.2) && (decide (p.tc = u.1) && decide (p.tl + p.n = u.2)))) = true := hon
  simp only [Bool.and_eq_true, decide_eq_true_eq] at hon
  obtain ⟨h1, h2, h3, h4⟩ := hon
  simp only [TwoL.mk.injEq, Prod.mk.injEq]
  exact ⟨⟨h1.symm, by omega⟩, h3.symm, by omega⟩
 | false =>
  rw [um hp hon]
  exact ⟨jb a u, by simp, rfl⟩
end Go.AB
namespace Go.Proofs.YtjjklfgpffgnfaaGreatDoor
set_option maxRecDepth 10000
open Go.RowKit Go.AB
open Go.AB.Enc (cells)
open Go.PB (bv ai PlaceD cy c6 cz)
theorem uInt : Tryz.prog.underlying 3 = some (.int .i64) := by kernel_rfl
theorem uij : (Tryz.prog.info? 3).isSome = true := by kernel_rfl
theorem uii : (Tryz.prog.info? 115).isSome = true := by kernel_rfl
theorem uTwo : Tryz.prog.underlying 134 = some (.array 2 115) := by kernel_rfl
theorem yu (w : World) (d : Nat) (a b a' b' : Int) : (Op.equalIn (d + 1 + 1) 115 (.agg #[.int .i64 a, .int .i64 b]) (.agg #[.int .i64 a', .int .i64 b'])).run Tryz.prog w = .ok (decide (((a, b) : L2) = (a', b'))) w := by
 obtain ⟨i, hi⟩ := Option.isSome_iff_exists.1 uij
 rw [run_equalIn_array w (d + 1) _ _ qn hi]
 show (Op.eqItems (d + 1) _ _ _ _ [0, 1]).run _ _ = _
 rw [ubc]
 by_cases h1 : a = a' <;> by_cases h2 : b = b' <;> simp [Op.eqItems, go_sem, part, uInt, h1, h2]
instance : EqT Tryz.prog 134 TwoL where
 guard op w x y xs ys := run_eqGuard_agg w op _ x y xs ys (by kernel_rfl)
 same w x y := by
  obtain ⟨⟨a, b⟩, ⟨c, d⟩⟩ := x
  obtain ⟨⟨a', b'⟩, ⟨c', d'⟩⟩ := y
  obtain ⟨i, hi⟩ := Option.isSome_iff_exists.1 uii
  simp only [FlatV.vals]
  rw [run_equalIn_array w 9999 _ _ uTwo hi]
  show (Op.eqItems 9999 _ _ _ _ [0, 1]).run _ _ = _
  rw [vw]
  have e1 : ∀ w, (Op.equalIn 9999 115 (.agg #[.int .i64 a, .int .i64 b]) (.agg #[.int .i64 a', .int .i64 b'])).run Tryz.prog w = .ok (decide (((a, b) : L2) = (a', b'))) w := fun w => yu w 9997 a b a' b'
  have e2 : ∀ w, (Op.equalIn 9999 115 (.agg #[.int .i64 c, .int .i64 d]) (.agg #[.int .i64 c', .int .i64 d'])).run Tryz.prog w = .ok (decide (((c, d) : L2) = (c', d'))) w := fun w => yu w 9997 c d c' d'
  simp [Op.eqItems, go_sem, part, e1, e2]
  by_cases h1 : a = a' <;> by_cases h2 : b = b' <;> by_cases h3 : c = c' <;> by_cases h4 : d = d' <;> simp [h1, h2, h3, h4]
theorem ukg (a b : L2) : c8 Tryz.prog 65 [.agg (cells a), .agg (cells b)] (.v (.int .i64 (pa a b))) := by
 refine dr Tryz.func65 rfl (fun m => .v) fun G nx => ?_
 simp only [Tryz.ntmps65, List.length_cons, List.length_nil, Nat.reduceAdd, Nat.reduceSub]
 refine bi fun hlt => ?_
 dsimp only at hlt
 refine yS fun _ K1 => ?_
 refine yR ?_
 try dsimp only [St.put]
 refine yB rfl rfl rfl ?_
 try dsimp only [St.put]
 refine yB rfl rfl rfl ?_
 refine yA rfl rfl ?_
 refine yN ?_
 dsimp only [St.put]
 refine K1 _ ?_
 refine yS fun _ K2 => ?_
 refine gj [(0, none), (1, none), (2, none), (3, none)] (fun i => [2].contains i) (fun i => [2].contains i) (fun i => [0, 1, 3].contains i) [] (by kernel_rfl) (by kernel_rfl) ?_
 refine ah rfl rfl rfl rfl (px (sz := 1) (m := 2) (e := 3) (rows := [a.1, a.2].map cells) rfl rfl rfl rfl (fun r hr => by obtain ⟨y, _, rfl⟩ := List.mem_map.1 hr; rfl) (by decide) (by decide)) ?_
 refine ah rfl rfl rfl rfl (px (sz := 1) (m := 2) (e := 3) (rows := [b.1, b.2].map cells) rfl rfl rfl rfl (fun r hr => by obtain ⟨y, _, rfl⟩ := List.mem_map.1 hr; rfl) (by decide) (by decide)) ?_
 refine il ?_
 try dsimp only [St.put]
 refine gn rfl rfl rfl rfl (bd rfl rfl rfl (xc [a.1, a.2] [b.1, b.2] (by show 2 ≤ 1000; decide) (by show 2 ≤ 1000; decide)) ?_)
 refine jk rfl rfl rfl rfl (cg rfl (by constructor)) ?_
 refine ij ?_
 dsimp only [St.put]
 refine K2 _ ?_
 refine am ?_
 refine bf rfl (by constructor) zN zS ?_
 rfl
end Go.Proofs.YtjjklfgpffgnfaaGreatDoor

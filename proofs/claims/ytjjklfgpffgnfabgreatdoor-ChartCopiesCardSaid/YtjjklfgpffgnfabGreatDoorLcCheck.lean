/-
 Contracts of the program's functions that check a text.
-/
import Derived.Test.YtjjklfgpffgnfabGreatDoorCfFuncs
import Derived.Test.YtjjklfgpffgnfabGreatDoorCkKeys
namespace Go.AB
open Go Go.RowKit
open Go.PB (bh af PlaceD)
def py (n : Int) : Bool := decide (n < 97) || decide (122 < n)
theorem uqo (s : ByteArray) : (u8s s).any (fun x => py x.v) = !s.data.toList.all okc := by
 unfold u8s
 rw [List.any_map]
 induction s.data.toList with
 | nil => rfl
 | cons b l ih =>
  simp only [List.any_cons, List.all_cons, ih, Function.comp, okc, py, Bool.not_and]
  congr 1
  have e1 : decide (((b.toNat : Nat) : Int) < 97) = !decide (97 ≤ b.toNat) := by by_cases h : 97 ≤ b.toNat <;> simp [h] <;> omega
  have e2 : decide ((122 : Int) < ((b.toNat : Nat) : Int)) = !decide (b.toNat ≤ 122) := by by_cases h : b.toNat ≤ 122 <;> simp [h] <;> omega
  rw [e1, e2]
theorem z7 (s : ByteArray) : ib s = (inB s.size 1 12 && !(u8s s).any fun x => py x.v) := by rw [uqo]; simp [ib]
theorem ucl (l : List ByteArray) : j9 l = (inB l.length 1 10 && !l.any fun s => !ib s) := by
 unfold j9
 congr 1
 rw [Bool.eq_iff_iff]; simp
/-- the numbers of some chapters -/
def lz (xs : List Int) : Int → Option C := fun x => bif decide (x ∈ xs) then some (.v (.bool true)) else none
theorem umo (xs : List Int) (x : Int) : (lz xs x).getD (ia (.bool false)) = .v (.bool (decide (x ∈ xs))) := by
 unfold lz
 cases decide (x ∈ xs) <;> rfl
theorem umn : lz [] = fun _ => none := by funext x; simp [lz]
theorem umm {t : af} {k : Nat} {c : bh} (h : t[k]? = some c) : iq (lz ((t.take k).map (·.id))) c.id (.v (.bool true)) = lz ((t.take (k + 1)).map (·.id)) := by
 funext x
 rw [uh (f := (·.id)) h]
 unfold iq lz
 by_cases hx : x = c.id
 ·simp [hx]
 simp [hx]
theorem sm (xs : List Int) (n : Nat) : ∀ x c, lz xs x = some c → C.low n c := by
 intro x c h
 unfold lz at h
 cases hd : decide (x ∈ xs) <;> rw [hd] at h
 ·cases h
 cases h; exact .v
theorem ugw {t : af} (h : inB t.length 1 6 = false) : fq t = 10 := by simp [fq, bw, h]
theorem wg {t : af} (h : t.all jk = false) : fq t = 10 := by simp [fq, bw, h]
theorem ugv {t : af} (h : ¬ (t.map (·.id)).Nodup) : fq t = 10 := by simp [fq, bw, h]
end Go.AB
namespace Go.Proofs.YtjjklfgpffgnfabGreatDoor
set_option maxRecDepth 10000
open Go.RowKit Go.AB
open Go.AB.Enc (cells)
open Go.PB (bh af PlaceD ar bp cj)
theorem uq8 (xs : List ByteArray) (p : ByteArray → Bool) (k : Nat) (caps : List C) [Fun Tryz.prog k] (hp : ∀ x ∈ xs, ce Tryz.prog k (.v (.string x) :: caps) (.v (.bool (p x)))) : ce Tryz.prog 124 [lst xs, .fn (.func k) caps] (.v (.int .i64 (idxOf p xs))) := by
 refine cv Tryz.func124 rfl (fun m => .v) fun G nx => ?_
 simp only [Tryz.ntmps124, List.length_cons, List.length_nil, Nat.reduceAdd, Nat.reduceSub]
 refine bf fun hlt => ?_
 dsimp only at hlt
 refine jn 0 (fun hf => ?_)
 replace hf := (fit_lst.1 hf).1
 refine yS fun _ K1 => ?_
 refine yR ?_
 refine yA rfl rfl ?_
 refine yN ?_
 dsimp only [St.put]
 refine K1 _ ?_
 refine yS fun _ K2 => ?_
 refine yS fun _ K3 => ?_
 refine yR ?_
 refine yM rfl rfl ?_
 refine aa rfl (bx rfl rfl (List.length_map _)) ?_
 refine yM rfl rfl ?_
 refine yN ?_
 dsimp only [St.put]
 refine K3 _ ?_
 refine bg ?_
 refine di 9 ?_
 simp only [cx, bi, Nat.reduceAdd, List.getD_cons_zero, List.getD_cons_succ, List.getD_nil, dc, Nat.reduceBEq, cond_true, cond_false]
 refine dv (G) zX ?_
 dsimp only
 refine el (X := Nat) (fun k => k ≤ xs.length ∧ ∀ y ∈ xs.take k, p y = false) (fun k => xs.length - k) (fun k => [(4, .any), (5, .any), (8, .v (.int .i64 (k : Int)))]) (fun k G' => G') 0 rfl ?_ ?_ (fun _ _ h => h) ?_ ?_ ?_
 ·exact ⟨by simp, by simp⟩
 ·exact zF
 ·rintro k hI
  exact zL
 ·exact fun _ _ _ _ h => .inl h
 rintro k hI
 dsimp only at hI ⊢
 refine yS fun _ K4 => ?_
 refine yR ?_
 refine aa rfl (ck rfl rfl rfl) ?_
 refine yN ?_
 dsimp only [St.put]
 refine K4 _ ?_
 refine yS fun _ K5 => ?_
 refine ak rfl (fun hc => ?_) (fun hc => ?_)
 ·replace hc := of_decide_eq_true hc
  obtain ⟨x, hx⟩ : ∃ x, xs[k]? = some x := dw (by omega)
  refine aq ?_
  refine K5 _ ?_
  refine yS fun _ K6 => ?_
  refine bg ?_
  refine yS fun _ K7 => ?_
  refine yR ?_
  refine yM rfl rfl ?_
  refine yA rfl rfl ?_
  refine yN ?_
  dsimp only [St.put]
  refine K7 _ ?_
  refine yS fun _ K8 => ?_
  refine yR ?_
  refine yM rfl rfl ?_
  refine yM rfl rfl ?_
  refine yM rfl rfl ?_
  refine aa rfl (b8 rfl rfl rfl rfl (cg (by assumption)) (Enc.len _)) ?_
  refine yL rfl rfl rfl ?_
  try dsimp only [St.put]
  refine ae rfl (a7 rfl rfl rfl (hp x (e8 hx)) ?_)
  refine yN ?_
  dsimp only [St.put]
  refine K8 _ ?_
  refine ak rfl (fun hc => ?_) (fun hc => ?_)
  ·skip
   refine yS fun _ K9 => ?_
   refine yR ?_
   refine yM rfl rfl ?_
   refine yA rfl rfl ?_
   refine yN ?_
   dsimp only [St.put]
   refine K9 _ ?_
   refine aj ?_
   refine ay rfl (by constructor) zN zS ?_
   exact vi (uw hx hc hI.2).symm
  skip
  refine aq ?_
  refine K6 _ ?_
  refine yR ?_
  refine aa rfl (ca rfl rfl rfl (by omega)) ?_
  refine yM rfl rfl ?_
  refine yN ?_
  dsimp only [St.put]
  exact ⟨k + 1, by omega, ⟨by omega, fun y hy => by
    rw [List.take_add_one, hx] at hy
    simp only [Option.toList_some, List.mem_append, List.mem_singleton] at hy
    rcases hy with hy | rfl
    ·exact hI.2 y hy
    simpa using hc⟩, ⟨⟨rfl, rfl⟩, zF, zB, zN, zX⟩⟩
 try replace hc := of_decide_eq_false hc
 refine dl ?_
 refine K2 _ ?_
 refine yS fun _ K10 => ?_
 refine yR ?_
 refine yA rfl rfl ?_
 refine yN ?_
 dsimp only [St.put]
 refine K10 _ ?_
 refine aj ?_
 refine ay rfl (by constructor) zN zS ?_
 exact vi (by
  rw [ux]
  have := hI.2
  rwa [fj (by omega)] at this)
theorem urb (xs : List U8) (p : U8 → Bool) (k : Nat) (caps : List C) [Fun Tryz.prog k] (hp : ∀ x ∈ xs, ce Tryz.prog k (.v (.int .u8 x.v) :: caps) (.v (.bool (p x)))) : ce Tryz.prog 139 [lst xs, .fn (.func k) caps] (.v (.int .i64 (idxOf p xs))) := by
 refine cv Tryz.func139 rfl (fun m => .v) fun G nx => ?_
 simp only [Tryz.ntmps139, List.length_cons, List.length_nil, Nat.reduceAdd, Nat.reduceSub]
 refine bf fun hlt => ?_
 dsimp only at hlt
 refine jn 0 (fun hf => ?_)
 replace hf := (fit_lst.1 hf).1
 refine yS fun _ K1 => ?_
 refine yR ?_
 refine yA rfl rfl ?_
 refine yN ?_
 dsimp only [St.put]
 refine K1 _ ?_
 refine yS fun _ K2 => ?_
 refine yS fun _ K3 => ?_
 refine yR ?_
 refine yM rfl rfl ?_
 refine aa rfl (bx rfl rfl (List.length_map _)) ?_
 refine yM rfl rfl ?_
 refine yN ?_
 dsimp only [St.put]
 refine K3 _ ?_
 refine bg ?_
 refine di 9 ?_
 simp only [cx, bi, Nat.reduceAdd, List.getD_cons_zero, List.getD_cons_succ, List.getD_nil, dc, Nat.reduceBEq, cond_true, cond_false]
 refine dv (G) zX ?_
 dsimp only
 refine el (X := Nat) (fun k => k ≤ xs.length ∧ ∀ y ∈ xs.take k, p y = false) (fun k => xs.length - k) (fun k => [(4, .any), (5, .any), (8, .v (.int .i64 (k : Int)))]) (fun k G' => G') 0 rfl ?_ ?_ (fun _ _ h => h) ?_ ?_ ?_
 ·exact ⟨by simp, by simp⟩
 ·exact zF
 ·rintro k hI
  exact zL
 ·exact fun _ _ _ _ h => .inl h
 rintro k hI
 dsimp only at hI ⊢
 refine yS fun _ K4 => ?_
 refine yR ?_
 refine aa rfl (ck rfl rfl rfl) ?_
 refine yN ?_
 dsimp only [St.put]
 refine K4 _ ?_
 refine yS fun _ K5 => ?_
 refine ak rfl (fun hc => ?_) (fun hc => ?_)
 ·replace hc := of_decide_eq_true hc
  obtain ⟨x, hx⟩ : ∃ x, xs[k]? = some x := dw (by omega)
  refine aq ?_
  refine K5 _ ?_
  refine yS fun _ K6 => ?_
  refine bg ?_
  refine yS fun _ K7 => ?_
  refine yR ?_
  refine yM rfl rfl ?_
  refine yA rfl rfl ?_
  refine yN ?_
  dsimp only [St.put]
  refine K7 _ ?_
  refine yS fun _ K8 => ?_
  refine yR ?_
  refine yM rfl rfl ?_
  refine yM rfl rfl ?_
  refine yM rfl rfl ?_
  refine aa rfl (b8 rfl rfl rfl rfl (cg (by assumption)) (Enc.len _)) ?_
  refine yL rfl rfl rfl ?_
  try dsimp only [St.put]
  refine ae rfl (a7 rfl rfl rfl (hp x (e8 hx)) ?_)
  refine yN ?_
  dsimp only [St.put]
  refine K8 _ ?_
  refine ak rfl (fun hc => ?_) (fun hc => ?_)
  ·skip
   refine yS fun _ K9 => ?_
   refine yR ?_
   refine yM rfl rfl ?_
   refine yA rfl rfl ?_
   refine yN ?_
   dsimp only [St.put]
   refine K9 _ ?_
   refine aj ?_
   refine ay rfl (by constructor) zN zS ?_
   exact vi (uw hx hc hI.2).symm
  skip
  refine aq ?_
  refine K6 _ ?_
  refine yR ?_
  refine aa rfl (ca rfl rfl rfl (by omega)) ?_
  refine yM rfl rfl ?_
  refine yN ?_
  dsimp only [St.put]
  exact ⟨k + 1, by omega, ⟨by omega, fun y hy => by
    rw [List.take_add_one, hx] at hy
    simp only [Option.toList_some, List.mem_append, List.mem_singleton] at hy
    rcases hy with hy | rfl
    ·exact hI.2 y hy
    simpa using hc⟩, ⟨⟨rfl, rfl⟩, zF, zB, zN, zX⟩⟩
 try replace hc := of_decide_eq_false hc
 refine dl ?_
 refine K2 _ ?_
 refine yS fun _ K10 => ?_
 refine yR ?_
 refine yA rfl rfl ?_
 refine yN ?_
 dsimp only [St.put]
 refine K10 _ ?_
 refine aj ?_
 refine ay rfl (by constructor) zN zS ?_
 exact vi (by
  rw [ux]
  have := hI.2
  rwa [fj (by omega)] at this)
theorem urg (xs : List ByteArray) (p : ByteArray → Bool) (k : Nat) (caps : List C) [Fun Tryz.prog k] (hp : ∀ x ∈ xs, ce Tryz.prog k (.v (.string x) :: caps) (.v (.bool (p x)))) : ce Tryz.prog 88 [lst xs, .fn (.func k) caps] (.v (.bool (xs.any p))) := by
 refine cv Tryz.func88 rfl (fun m => .v) fun G nx => ?_
 simp only [Tryz.ntmps88, List.length_cons, List.length_nil, Nat.reduceAdd, Nat.reduceSub]
 refine bf fun hlt => ?_
 dsimp only at hlt
 refine yS fun _ K1 => ?_
 refine yR ?_
 refine yA rfl rfl ?_
 refine yN ?_
 dsimp only [St.put]
 refine K1 _ ?_
 refine yS fun _ K2 => ?_
 refine yR ?_
 refine yM rfl rfl ?_
 refine yM rfl rfl ?_
 try dsimp only [St.put]
 refine ae rfl (a7 rfl rfl rfl (uq8 xs p k caps hp) ?_)
 refine aa rfl (ni rfl rfl rfl) ?_
 refine yA rfl rfl ?_
 refine yN ?_
 dsimp only [St.put]
 refine K2 _ ?_
 refine aj ?_
 refine ay rfl (by constructor) zN zS ?_
 exact vb uy
theorem uri (xs : List U8) (p : U8 → Bool) (k : Nat) (caps : List C) [Fun Tryz.prog k] (hp : ∀ x ∈ xs, ce Tryz.prog k (.v (.int .u8 x.v) :: caps) (.v (.bool (p x)))) : ce Tryz.prog 125 [lst xs, .fn (.func k) caps] (.v (.bool (xs.any p))) := by
 refine cv Tryz.func125 rfl (fun m => .v) fun G nx => ?_
 simp only [Tryz.ntmps125, List.length_cons, List.length_nil, Nat.reduceAdd, Nat.reduceSub]
 refine bf fun hlt => ?_
 dsimp only at hlt
 refine yS fun _ K1 => ?_
 refine yR ?_
 refine yA rfl rfl ?_
 refine yN ?_
 dsimp only [St.put]
 refine K1 _ ?_
 refine yS fun _ K2 => ?_
 refine yR ?_
 refine yM rfl rfl ?_
 refine yM rfl rfl ?_
 try dsimp only [St.put]
 refine ae rfl (a7 rfl rfl rfl (urb xs p k caps hp) ?_)
 refine aa rfl (ni rfl rfl rfl) ?_
 refine yA rfl rfl ?_
 refine yN ?_
 dsimp only [St.put]
 refine K2 _ ?_
 refine aj ?_
 refine ay rfl (by constructor) zN zS ?_
 exact vb uy
theorem ull (n lo hi : Int) : ce Tryz.prog 123 [.v (.int .i64 n), .elem [.v (.int .i64 lo)], .elem [.v (.int .i64 hi)]] (.v (.bool (mb n lo hi))) := by
 refine cv Tryz.func123 rfl (fun m => .v) fun G nx => ?_
 simp only [Tryz.ntmps123, List.length_cons, List.length_nil, Nat.reduceAdd, Nat.reduceSub]
 refine bf fun hlt => ?_
 dsimp only at hlt
 refine yS fun _ K1 => ?_
 refine yR ?_
 refine yA rfl rfl ?_
 refine yN ?_
 dsimp only [St.put]
 refine K1 _ ?_
 refine yS fun _ K2 => ?_
 refine yR ?_
 refine yM rfl rfl ?_
 refine yL rfl rfl rfl ?_
 refine aa rfl (ck rfl rfl rfl) ?_
 refine yM rfl rfl ?_
 refine et (fun hs => ?_) (fun hs => ?_)
 ·try replace hs := of_decide_eq_true hs
  refine yK rfl ?_
  refine yK rfl ?_
  refine yK rfl ?_
  refine aa rfl (co rfl rfl (by constructor)) ?_
  refine yA rfl rfl ?_
  refine yN ?_
  dsimp only [St.put]
  refine K2 _ ?_
  refine aj ?_
  refine ay rfl (by constructor) zN zS ?_
  exact vb (by simp [mb, hs]; try omega)
 try replace hs := of_decide_eq_false hs
 refine yM rfl rfl ?_
 refine yL rfl rfl rfl ?_
 refine aa rfl (io rfl rfl rfl) ?_
 refine aa rfl (dh rfl rfl (by constructor)) ?_
 refine yA rfl rfl ?_
 refine yN ?_
 dsimp only [St.put]
 refine K2 _ ?_
 refine aj ?_
 refine ay rfl (by constructor) zN zS ?_
 exact vb (by simp [mb, hs]; try omega)
theorem lh (lo hi : Int) (xs : List Int) : ce Tryz.prog 87 [.v (.int .i64 lo), .v (.int .i64 hi), lst xs] (.v (.bool (jv lo hi xs))) := by
 refine cv Tryz.func87 rfl (fun m => .v) fun G nx => ?_
 simp only [Tryz.ntmps87, List.length_cons, List.length_nil, Nat.reduceAdd, Nat.reduceSub]
 refine bf fun hlt => ?_
 dsimp only at hlt
 refine yS fun _ K1 => ?_
 refine yR ?_
 try dsimp only [St.put]
 refine yB rfl rfl rfl ?_
 try dsimp only [St.put]
 refine yB rfl rfl rfl ?_
 refine yA rfl rfl ?_
 refine yN ?_
 dsimp only [St.put]
 refine K1 _ ?_
 refine yS fun _ K2 => ?_
 refine yR ?_
 refine yM rfl rfl ?_
 refine aa rfl (ng rfl rfl) ?_
 try dsimp only [St.put]
 refine ae rfl (a7 rfl rfl rfl (ufw xs (fun n => mb n lo hi) _ _ fun x _ => ull x lo hi) ?_)
 refine aa rfl (c9 rfl rfl) ?_
 refine yA rfl rfl ?_
 refine yN ?_
 dsimp only [St.put]
 refine K2 _ ?_
 refine aj ?_
 refine ay rfl (by constructor) zN zS ?_
 rfl
theorem uf9 (n : Int) : ce Tryz.prog 126 [.v (.int .u8 n)] (.v (.bool (py n))) := by
 refine cv Tryz.func126 rfl (fun m => .v) fun G nx => ?_
 simp only [Tryz.ntmps126, List.length_cons, List.length_nil, Nat.reduceAdd, Nat.reduceSub]
 refine bf fun hlt => ?_
 dsimp only at hlt
 refine yS fun _ K1 => ?_
 refine yR ?_
 refine yA rfl rfl ?_
 refine yN ?_
 dsimp only [St.put]
 refine K1 _ ?_
 refine yS fun _ K2 => ?_
 refine yR ?_
 refine yM rfl rfl ?_
 refine aa rfl (ck rfl rfl rfl) ?_
 refine yM rfl rfl ?_
 refine et (fun hs => ?_) (fun hs => ?_)
 ·try replace hs := of_decide_eq_true hs
  refine yK rfl ?_
  refine yK rfl ?_
  refine aa rfl (co rfl rfl (by constructor)) ?_
  refine yA rfl rfl ?_
  refine yN ?_
  dsimp only [St.put]
  refine K2 _ ?_
  refine aj ?_
  refine ay rfl (by constructor) zN zS ?_
  exact vb (by simp [py, hs]; try omega)
 try replace hs := of_decide_eq_false hs
 refine yM rfl rfl ?_
 refine aa rfl (io rfl rfl rfl) ?_
 refine aa rfl (dh rfl rfl (by constructor)) ?_
 refine yA rfl rfl ?_
 refine yN ?_
 dsimp only [St.put]
 refine K2 _ ?_
 refine aj ?_
 refine ay rfl (by constructor) zN zS ?_
 exact vb (by simp [py, hs]; try omega)
theorem vz (s : ByteArray) : ce Tryz.prog 90 [.v (.string s)] (.v (.bool (ib s))) := by
 refine cv Tryz.func90 rfl (fun m => .v) fun G nx => ?_
 simp only [Tryz.ntmps90, List.length_cons, List.length_nil, Nat.reduceAdd, Nat.reduceSub]
 refine bf fun hlt => ?_
 dsimp only at hlt
 refine yS fun _ K1 => ?_
 refine yR ?_
 refine yA rfl rfl ?_
 refine yN ?_
 dsimp only [St.put]
 refine K1 _ ?_
 refine yS fun _ K2 => ?_
 refine yR ?_
 refine yM rfl rfl ?_
 refine aa rfl (sc rfl rfl) ?_
 try dsimp only [St.put]
 refine ae rfl (cq rfl rfl rfl (by decide) (by decide) zR (by decide) ?_)
 try dsimp only [St.put]
 refine ae rfl (a7 rfl rfl rfl (lh _ _ [(s.size : Int)]) ?_)
 refine yM rfl rfl ?_
 refine et (fun hs => ?_) (fun hs => ?_)
 ·rw [gk] at hs
  refine yM rfl rfl ?_
  try dsimp only [St.put]
  refine ae rfl (un1 (by kernel_rfl) rfl rfl ?_)
  try dsimp only [St.put]
  refine ae rfl (a7 rfl rfl rfl (uri (u8s s) (fun x => py x.v) _ _ fun x _ => uf9 x.v) ?_)
  refine aa rfl (c9 rfl rfl) ?_
  refine aa rfl (co rfl rfl (by constructor)) ?_
  refine yA rfl rfl ?_
  refine yN ?_
  dsimp only [St.put]
  refine K2 _ ?_
  refine aj ?_
  refine ay rfl (by constructor) zN zS ?_
  exact vb (by rw [z7, hs]; rfl)
 rw [gk] at hs
 refine yK rfl ?_
 refine yK rfl ?_
 refine yK rfl ?_
 refine yK rfl ?_
 refine aa rfl (dh rfl rfl (by constructor)) ?_
 refine yA rfl rfl ?_
 refine yN ?_
 dsimp only [St.put]
 refine K2 _ ?_
 refine aj ?_
 refine ay rfl (by constructor) zN zS ?_
 exact vb (by rw [z7, hs]; rfl)
theorem uln (s : ByteArray) : ce Tryz.prog 89 [.v (.string s)] (.v (.bool (!ib s))) := by
 refine cv Tryz.func89 rfl (fun m => .v) fun G nx => ?_
 simp only [Tryz.ntmps89, List.length_cons, List.length_nil, Nat.reduceAdd, Nat.reduceSub]
 refine bf fun hlt => ?_
 dsimp only at hlt
 refine yS fun _ K1 => ?_
 refine yR ?_
 refine yA rfl rfl ?_
 refine yN ?_
 dsimp only [St.put]
 refine K1 _ ?_
 refine yS fun _ K2 => ?_
 refine yR ?_
 refine yM rfl rfl ?_
 try dsimp only [St.put]
 refine ae rfl (a7 rfl rfl rfl (vz _) ?_)
 refine aa rfl (c9 rfl rfl) ?_
 refine yA rfl rfl ?_
 refine yN ?_
 dsimp only [St.put]
 refine K2 _ ?_
 refine aj ?_
 refine ay rfl (by constructor) zN zS ?_
 rfl
theorem ucr (t : af) : ce Tryz.prog 62 [b7 t] (.v (.int .i64 (fq t))) := by
 refine cv Tryz.func62 rfl (fun m => .v) fun G nx => ?_
 simp only [Tryz.ntmps62, List.length_cons, List.length_nil, Nat.reduceAdd, Nat.reduceSub]
 refine bf fun hlt => ?_
 dsimp only at hlt
 refine jn 0 (fun hf => ?_)
 replace hf := we hf
 have hf0 := hf.len
 refine yS fun _ K1 => ?_
 refine yR ?_
 try dsimp only [St.put]
 refine yB rfl rfl rfl ?_
 refine yA rfl rfl ?_
 refine yN ?_
 dsimp only [St.put]
 refine K1 _ ?_
 refine ufg ?_
 refine yS fun _ K2 => ?_
 refine yS fun _ K3 => ?_
 refine yR ?_
 refine yF rfl rfl rfl rfl ?_
 refine yL rfl rfl rfl ?_
 refine aa rfl (bx rfl rfl (List.length_map _)) ?_
 try dsimp only [St.put]
 refine ae rfl (cq rfl rfl rfl (by decide) (by decide) zR (by decide) ?_)
 try dsimp only [St.put]
 refine ae rfl (a7 rfl rfl rfl (lh _ _ [(t.length : Int)]) ?_)
 refine aa rfl (c9 rfl rfl) ?_
 refine yN ?_
 dsimp only [St.put]
 refine K3 _ ?_
 refine ak rfl (fun hc => ?_) (fun hc => ?_)
 ·have hin : inB t.length 1 6 = false := by rw [gk] at hc; simpa using hc
  refine yS fun _ K4 => ?_
  refine yR ?_
  refine yA rfl rfl ?_
  refine yN ?_
  dsimp only [St.put]
  refine K4 _ ?_
  refine aj ?_
  refine ay rfl (by constructor) zN zS ?_
  exact vi (ugw hin).symm
 have hin : inB t.length 1 6 = true := by rw [gk] at hc; simpa using hc
 refine aq ?_
 refine K2 _ ?_
 refine yS fun _ K5 => ?_
 refine yR ?_
 refine yA rfl rfl ?_
 refine yN ?_
 dsimp only [St.put]
 refine K5 _ ?_
 refine yS fun _ K6 => ?_
 refine yR ?_
 try dsimp only [St.put]
 refine ae rfl (yv (α := Int) rfl ?_)
 refine yA rfl rfl ?_
 refine yN ?_
 dsimp only [St.put]
 refine K6 _ ?_
 refine yS fun _ K7 => ?_
 refine ufh ?_
 refine K7 _ ?_
 refine yS fun _ K8 => ?_
 refine yS fun _ K9 => ?_
 refine yR ?_
 refine yF rfl rfl rfl rfl ?_
 refine yL rfl rfl rfl ?_
 refine aa rfl (bx rfl rfl (List.length_map _)) ?_
 refine yM rfl rfl ?_
 refine yN ?_
 dsimp only [St.put]
 refine K9 _ ?_
 refine bg ?_
 refine di 20 ?_
 simp only [cx, bi, Nat.reduceAdd, List.getD_cons_zero, List.getD_cons_succ, List.getD_nil, dc, Nat.reduceBEq, cond_true, cond_false]
 refine dv (ah G nx (bl Tryz.prog 3 0 fun _ => none)) zX ?_
 dsimp only
 refine el (X := Nat) (fun k => k ≤ t.length ∧ (t.take k).all jk = true ∧ ((t.take k).map (·.id)).Nodup) (fun k => t.length - k) (fun k => [(2, .v (.int .i64 0)), (3, .v (.int .i64 0)), (5, .any), (6, .any), (7, .any), (8, .any), (19, .v (.int .i64 (k : Int)))]) (fun k G' => ah G nx (bl Tryz.prog 3 k (lz ((t.take k).map (·.id))))) 0 rfl ?_ ?_ ?_ ?_ ?_ ?_
 ·exact ⟨by simp, by simp, by simp⟩
 ·exact zF
 ·rw [show lz ((t.take 0).map (·.id)) = fun _ => none from umn]
  exact zX
 ·rintro k hI
  exact (by (try dsimp only); repeat' (first | exact trivial | refine ⟨?_, ?_⟩ | exact .v | exact .any | refine .elem ?_ | exact bd _ _ | exact ed _ _ | exact da _ _ | exact eg _ (by (try dsimp only); omega) | exact .box (by (try dsimp only); omega) | exact dp | exact bn | exact gd (sm _ _) | refine ef ?_ ?_ | exact .arr (by (try dsimp only); omega) | exact .own (by (try dsimp only); omega) | exact .map (by (try dsimp only); omega) | exact du _ | refine am ?_ ?_ | exact bd _ _))
 ·rintro k hI
  exact (by (repeat' (refine f9 ?_ (by (try dsimp only); omega) ?_)); all_goals (first | exact gw zS | (repeat' (first | exact trivial | refine ⟨?_, ?_⟩ | exact .v | exact .any | refine .elem ?_ | exact bd _ _ | exact ed _ _ | exact da _ _ | exact eg _ (by (try dsimp only); omega) | exact .box (by (try dsimp only); omega) | exact dp | exact bn | exact gd (sm _ _) | refine ef ?_ ?_ | exact .arr (by (try dsimp only); omega) | exact .own (by (try dsimp only); omega) | exact .map (by (try dsimp only); omega) | exact du _ | refine am ?_ ?_ | exact bd _ _))))
 rintro k hI
 dsimp only at hI ⊢
 refine yS fun _ K10 => ?_
 refine yR ?_
 refine aa rfl (ck rfl rfl rfl) ?_
 refine yN ?_
 dsimp only [St.put]
 refine K10 _ ?_
 refine yS fun _ K11 => ?_
 refine ak rfl (fun hc => ?_) (fun hc => ?_)
 ·replace hc := of_decide_eq_true hc
  obtain ⟨c, hx⟩ : ∃ x, t[k]? = some x := dw (by omega)
  have hf1 := hf.lines c (e8 hx)
  refine aq ?_
  refine K11 _ ?_
  refine yS fun _ K12 => ?_
  refine bg ?_
  refine yS fun _ K13 => ?_
  refine yR ?_
  refine aa rfl (b8 rfl rfl rfl rfl (cg (by assumption)) (Enc.len _)) ?_
  refine yE rfl rfl rfl ?_
  try dsimp only [St.put]
  refine ae rfl (bj rfl ?_)
  try dsimp only [St.put]
  refine ae rfl (ax rfl rfl rfl zG rfl rfl (by rfl) ?_)
  refine yN ?_
  dsimp only [St.put]
  refine K13 _ ?_
  refine cw (i := 6) rfl zG (by first | exact List.cons_ne_nil _ _ | (simp; done) | (simp [putAt]; done)) ?_
  dsimp only
  refine yS fun _ K14 => ?_
  refine di 20 ?_
  simp only [cx, bi, Nat.reduceAdd, List.getD_cons_zero, List.getD_cons_succ, List.getD_nil, dc, Nat.reduceBEq, cond_true, cond_false]
  refine mn (X := Bool) (fun b => (b = true → inB c.id 0 9999 = false ∨ c.id ∈ (t.take k).map (·.id) ∨ inB c.lines.length 1 10 = false) ∧ (b = false → inB c.id 0 9999 = true ∧ ¬ c.id ∈ (t.take k).map (·.id) ∧ inB c.lines.length 1 10 = true)) (fun b => [(41, .v (.bool b))]) (fun b G' => G') rfl ?_ (fun _ _ _ _ h => .inl h) ?_ ?_
  ·rintro b hI
   exact (by (try dsimp only); repeat' (first | exact trivial | refine ⟨?_, ?_⟩ | exact .v | exact .any | refine .elem ?_ | exact bd _ _ | exact ed _ _ | exact da _ _ | exact eg _ (by (try dsimp only); omega) | exact .box (by (try dsimp only); omega) | exact dp | exact bn | exact gd (sm _ _) | refine ef ?_ ?_ | exact .arr (by (try dsimp only); omega) | exact .own (by (try dsimp only); omega) | exact .map (by (try dsimp only); omega) | exact du _ | refine am ?_ ?_ | exact bd _ _))
  ·refine yR ?_
   refine yF rfl rfl rfl rfl ?_
   refine yL rfl rfl rfl ?_
   try dsimp only [St.put]
   refine ae rfl (cq rfl rfl rfl (by decide) (by decide) zR (by decide) ?_)
   try dsimp only [St.put]
   refine ae rfl (a7 rfl rfl rfl (lh _ _ [c.id]) ?_)
   refine aa rfl (c9 rfl rfl) ?_
   refine yM rfl rfl ?_
   refine et (fun hs => ?_) (fun hs => ?_)
   ·have h5 : inB c.id 0 9999 = false := by rw [gk] at hs; simpa using hs
    refine yK rfl ?_
    refine yK rfl ?_
    refine yK rfl ?_
    refine yK rfl ?_
    refine aa rfl (co rfl rfl (by constructor)) ?_
    refine yM rfl rfl ?_
    refine yK rfl ?_
    refine yK rfl ?_
    refine yK rfl ?_
    refine yK rfl ?_
    refine yK rfl ?_
    refine yK rfl ?_
    refine aa rfl (co rfl rfl (by constructor)) ?_
    refine yN ?_
    dsimp only [St.put]
    refine ⟨_, ?_, ⟨⟨rfl, rfl⟩, zF, zB, zN, zX⟩⟩
    first
     | (exact ⟨fun _ => .inl h5, fun h => by cases h⟩)
     | (exact ⟨fun _ => .inr (.inl h11), fun h => by cases h⟩)
     | (rw [gk]; exact ⟨fun h => .inr (.inr (by simpa using h)), fun h => ⟨h5, h11, by simpa using h⟩⟩)
   have h5 : inB c.id 0 9999 = true := by rw [gk] at hs; simpa using hs
   refine yM rfl rfl ?_
   refine yF rfl rfl rfl rfl ?_
   refine yL rfl rfl rfl ?_
   try dsimp only [St.put]
   refine ba rfl (wy c.id rfl rfl zG trivial rfl (umo _ _)) ?_
   refine aa rfl (dh rfl rfl (by constructor)) ?_
   refine yM rfl rfl ?_
   refine et (fun hs => ?_) (fun hs => ?_)
   ·have h11 := of_decide_eq_true hs
    refine yK rfl ?_
    refine yK rfl ?_
    refine yK rfl ?_
    refine yK rfl ?_
    refine yK rfl ?_
    refine yK rfl ?_
    refine aa rfl (co rfl rfl (by constructor)) ?_
    refine yN ?_
    dsimp only [St.put]
    refine ⟨_, ?_, ⟨⟨rfl, rfl⟩, zF, zB, zN, zX⟩⟩
    first
     | (exact ⟨fun _ => .inl h5, fun h => by cases h⟩)
     | (exact ⟨fun _ => .inr (.inl h11), fun h => by cases h⟩)
     | (rw [gk]; exact ⟨fun h => .inr (.inr (by simpa using h)), fun h => ⟨h5, h11, by simpa using h⟩⟩)
   have h11 := of_decide_eq_false hs
   refine yF rfl rfl rfl rfl ?_
   refine yL rfl rfl rfl ?_
   refine aa rfl (bx rfl rfl (List.length_map _)) ?_
   try dsimp only [St.put]
   refine ae rfl (cq rfl rfl rfl (by decide) (by decide) zR (by decide) ?_)
   try dsimp only [St.put]
   refine ae rfl (a7 rfl rfl rfl (lh _ _ [(c.lines.length : Int)]) ?_)
   refine aa rfl (c9 rfl rfl) ?_
   refine aa rfl (dh rfl rfl (by constructor)) ?_
   refine yN ?_
   dsimp only [St.put]
   refine ⟨_, ?_, ⟨⟨rfl, rfl⟩, zF, zB, zN, zX⟩⟩
   first
    | (exact ⟨fun _ => .inl h5, fun h => by cases h⟩)
    | (exact ⟨fun _ => .inr (.inl h11), fun h => by cases h⟩)
    | (rw [gk]; exact ⟨fun h => .inr (.inr (by simpa using h)), fun h => ⟨h5, h11, by simpa using h⟩⟩)
  rintro b hst
  dsimp only at hst ⊢
  refine ak rfl (fun hc => ?_) (fun hc => ?_)
  ·replace hst := hst.1 hc
   refine yS fun _ K16 => ?_
   refine yR ?_
   refine yA rfl rfl ?_
   refine yN ?_
   dsimp only [St.put]
   refine K16 _ ?_
   refine aj ?_
   refine ay rfl (by constructor) zN zS ?_
   exact vi (by
    rcases hst with h | h | h
    ·exact (wg (ke hx (by simp [jk, h]))).symm
    ·refine (ugv fun hn => ?_).symm
     have h2 : ((t.take (k + 1)).map (·.id)).Nodup := hn.sublist (List.Sublist.map _ (List.take_sublist _ _))
     rw [uh (f := (·.id)) hx, List.nodup_append] at h2
     exact h2.2.2 _ h _ (List.mem_singleton.2 rfl) rfl
    exact (wg (ke hx (by simp [jk, h]))).symm)
  replace hst := hst.2 hc
  refine aq ?_
  refine K14 _ ?_
  refine yS fun _ K17 => ?_
  refine yR ?_
  refine yM rfl rfl ?_
  refine yF rfl rfl rfl rfl ?_
  refine yL rfl rfl rfl ?_
  try dsimp only [St.put]
  refine ae rfl (yu (c.id) rfl rfl rfl zG rfl (umm hx) ?_)
  refine yN ?_
  dsimp only [St.put]
  refine K17 _ ?_
  refine yS fun _ K18 => ?_
  refine yR ?_
  refine yF rfl rfl rfl rfl ?_
  refine yL rfl rfl rfl ?_
  refine aa rfl (bx rfl rfl (List.length_map _)) ?_
  refine yM rfl rfl ?_
  refine yN ?_
  dsimp only [St.put]
  refine K18 _ ?_
  refine bg ?_
  refine di 49 ?_
  simp only [cx, bi, Nat.reduceAdd, List.getD_cons_zero, List.getD_cons_succ, List.getD_nil, dc, Nat.reduceBEq, cond_true, cond_false]
  refine dv (ah G nx (bl Tryz.prog 3 (k + 1) (lz ((t.take (k + 1)).map (·.id))))) zX ?_
  dsimp only
  refine el (X := Nat) (fun n => n ≤ c.lines.length ∧ (c.lines.take n).all j9 = true) (fun n => c.lines.length - n) (fun n => [(8, .any), (48, .v (.int .i64 (n : Int)))]) (fun n G' => G') 0 rfl ?_ ?_ (fun _ _ h => h) ?_ ?_ ?_
  ·exact ⟨by simp, by simp⟩
  ·exact zF
  ·rintro n hI
   exact (by (try dsimp only); repeat' (first | exact trivial | refine ⟨?_, ?_⟩ | exact .v | exact .any | refine .elem ?_ | exact bd _ _ | exact ed _ _ | exact da _ _ | exact eg _ (by (try dsimp only); omega) | exact .box (by (try dsimp only); omega) | exact dp | exact bn | exact gd (sm _ _) | refine ef ?_ ?_ | exact .arr (by (try dsimp only); omega) | exact .own (by (try dsimp only); omega) | exact .map (by (try dsimp only); omega) | exact du _ | refine am ?_ ?_ | exact bd _ _))
  ·exact fun _ _ _ _ h => .inl h
  rintro n hJ
  dsimp only at hJ ⊢
  refine yS fun _ K19 => ?_
  refine yR ?_
  refine aa rfl (ck rfl rfl rfl) ?_
  refine yN ?_
  dsimp only [St.put]
  refine K19 _ ?_
  refine yS fun _ K20 => ?_
  refine ak rfl (fun hc => ?_) (fun hc => ?_)
  ·replace hc := of_decide_eq_true hc
   obtain ⟨l, hl⟩ : ∃ x, c.lines[n]? = some x := dw (by omega)
   have hf2 := hf.words c (e8 hx) l (e8 hl)
   refine aq ?_
   refine K20 _ ?_
   refine yS fun _ K21 => ?_
   refine bg ?_
   refine yS fun _ K22 => ?_
   refine yR ?_
   refine aa rfl (b8 rfl rfl rfl rfl (cg (by assumption)) (Enc.len _)) ?_
   refine yL rfl rfl rfl ?_
   refine yA rfl rfl ?_
   refine yN ?_
   dsimp only [St.put]
   refine K22 _ ?_
   refine di 49 ?_
   simp only [cx, bi, Nat.reduceAdd, List.getD_cons_zero, List.getD_cons_succ, List.getD_nil, dc, Nat.reduceBEq, cond_true, cond_false]
   refine mn (X := Bool) (fun b => b = !j9 l) (fun b => [(60, .v (.bool b))]) (fun b G' => G') rfl ?_ (fun _ _ _ _ h => .inl h) ?_ ?_
   ·rintro b hI
    exact (by (try dsimp only); repeat' (first | exact trivial | refine ⟨?_, ?_⟩ | exact .v | exact .any | refine .elem ?_ | exact bd _ _ | exact ed _ _ | exact da _ _ | exact eg _ (by (try dsimp only); omega) | exact .box (by (try dsimp only); omega) | exact dp | exact bn | exact gd (sm _ _) | refine ef ?_ ?_ | exact .arr (by (try dsimp only); omega) | exact .own (by (try dsimp only); omega) | exact .map (by (try dsimp only); omega) | exact du _ | refine am ?_ ?_ | exact bd _ _))
   ·refine yR ?_
    refine yM rfl rfl ?_
    refine aa rfl (bx rfl rfl (List.length_map _)) ?_
    try dsimp only [St.put]
    refine ae rfl (cq rfl rfl rfl (by decide) (by decide) zR (by decide) ?_)
    try dsimp only [St.put]
    refine ae rfl (a7 rfl rfl rfl (lh _ _ [(l.length : Int)]) ?_)
    refine aa rfl (c9 rfl rfl) ?_
    refine yM rfl rfl ?_
    refine et (fun hs => ?_) (fun hs => ?_)
    ·have h5 : inB l.length 1 10 = false := by rw [gk] at hs; simpa using hs
     refine yK rfl ?_
     refine yK rfl ?_
     refine aa rfl (co rfl rfl (by constructor)) ?_
     refine yN ?_
     dsimp only [St.put]
     refine ⟨_, ?_, ⟨⟨rfl, rfl⟩, zF, zB, zN, zX⟩⟩
     rw [ucl, h5]
     simp
    have h5 : inB l.length 1 10 = true := by rw [gk] at hs; simpa using hs
    refine yM rfl rfl ?_
    try dsimp only [St.put]
    refine ae rfl (a7 rfl rfl rfl (urg l (fun s => !ib s) _ _ fun s _ => uln s) ?_)
    refine aa rfl (dh rfl rfl (by constructor)) ?_
    refine yN ?_
    dsimp only [St.put]
    refine ⟨_, ?_, ⟨⟨rfl, rfl⟩, zF, zB, zN, zX⟩⟩
    rw [ucl, h5]
    simp
   rintro b hst2
   dsimp only at hst2 ⊢
   refine ak rfl (fun hc => ?_) (fun hc => ?_)
   ·have hln : j9 l = false := by rw [hc] at hst2; simpa using hst2.symm
    have her : fq t = 10 := wg (ke hx (by simp [jk, ke hl hln]))
    refine yS fun _ K24 => ?_
    refine yR ?_
    refine yA rfl rfl ?_
    refine yN ?_
    dsimp only [St.put]
    refine K24 _ ?_
    refine dl ?_
    refine K8 _ ?_
    refine yS fun _ K25 => ?_
    refine yR ?_
    refine yM rfl rfl ?_
    refine yA rfl rfl ?_
    refine yN ?_
    dsimp only [St.put]
    refine K25 _ ?_
    refine aj ?_
    refine ay rfl (by constructor) zN zS ?_
    exact vi her.symm
   have hln : j9 l = true := by rw [hc] at hst2; simpa using hst2.symm
   refine aq ?_
   refine K21 _ ?_
   refine yR ?_
   refine aa rfl (ca rfl rfl rfl (by omega)) ?_
   refine yM rfl rfl ?_
   refine yN ?_
   dsimp only [St.put]
   exact ⟨n + 1, by omega, ⟨by omega, by rw [mq hl, hJ.2, hln]; rfl⟩, ⟨⟨rfl, rfl⟩, zF, zB, zN, zX⟩⟩
  try replace hc := of_decide_eq_false hc
  refine dl ?_
  refine K12 _ ?_
  refine yR ?_
  refine aa rfl (ca rfl rfl rfl (by omega)) ?_
  refine yM rfl rfl ?_
  refine yN ?_
  dsimp only [St.put]
  exact ⟨k + 1, by omega, ⟨by omega, by
    rw [mq hx, hI.2.1]
    have h1 := hJ.2
    rw [fj (by omega)] at h1
    simp [jk, hst.1, hst.2.2, h1], by
    rw [uh (f := (·.id)) hx]
    exact xl hI.2.2 hst.2.1⟩, ⟨⟨rfl, rfl⟩, zF, zB, zN, zX⟩⟩
 have hk : t.length ≤ k := by have := of_decide_eq_false hc; omega
 have her : fq t = 0 := by
  have h1 := hI.2
  rw [fj hk] at h1
  simp [fq, bw, hin, h1.1, h1.2]
 refine dl ?_
 refine K8 _ ?_
 refine yS fun _ K26 => ?_
 refine yR ?_
 refine yM rfl rfl ?_
 refine yA rfl rfl ?_
 refine yN ?_
 dsimp only [St.put]
 refine K26 _ ?_
 refine aj ?_
 refine ay rfl (by constructor) zN zS ?_
 exact vi her.symm
end Go.Proofs.YtjjklfgpffgnfabGreatDoor

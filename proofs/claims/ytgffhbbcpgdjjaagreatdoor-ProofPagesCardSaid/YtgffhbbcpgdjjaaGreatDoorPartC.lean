/-
  What the walks through the program rest on: values, states, steps, calls (LcCheck, CvOpen, CwLines, CxTells, DaPlain, EaPlain, EbRef, CyPlain, EcRefer, EdLead, AbSort, EgComp, FaNear, FbWords, AbFull, Lay, EhOrd, FcNear, FdNear, KzWords, GsNumber, KwWords, LaRef, PaFlow, PbData, PcWorst, PdPlain, PeSets, PfPlain, PgSides, PhApart, PiWhy, PjWhy, PsExamples, PpAdd, PlTruth, PqRest, AbTwin, AbCut, RaStd, OpenE, AbRem, AbBits, QaRef, QbRef, QcRef).
-/
import Derived.Test.YtgffhbbcpgdjjaaGreatDoorPartB
import Derived.Shelf.SlSortCmp.NoneTotal
import Derived.Test.YtgffhbbcpgdjjaaGreatDoorPartA
import Derived.Laws.Cover3
import Derived.Test.YtgffhbbcpgdjjaaGreatDoorProg
import Derived.ChangeKeysEq
import Derived.Lib.Hide
import Derived.Shelf.SlicesE.DeleteFunc
import Derived.Deep.Slices
import Derived.Lib.SmallJoins
import Derived.Carry
import Derived.ProofKit
import Derived.OpenShut
namespace Go.AB
open Go Go.RowKit
open Go.PB (bg aj PlaceD)
def qv (n : Int) : Bool := decide (n < 97) || decide (122 < n)
theorem uo4 (s : ByteArray) : (u8s s).any (fun x => qv x.v) = !s.data.toList.all okc := by
 unfold u8s
 rw [List.any_map]
 induction s.data.toList with
 | nil => rfl
 | cons b l ih =>
  simp only [List.any_cons, List.all_cons, ih, Function.comp, okc, qv, Bool.not_and]
  congr 1
  have e1 : decide (((b.toNat : Nat) : Int) < 97) = !decide (97 ≤ b.toNat) := by by_cases h : 97 ≤ b.toNat <;> simp [h] <;> omega
  have e2 : decide ((122 : Int) < ((b.toNat : Nat) : Int)) = !decide (b.toNat ≤ 122) := by by_cases h : b.toNat ≤ 122 <;> simp [h] <;> omega
  rw [e1, e2]
theorem ubu (s : ByteArray) : ko s = (inB s.size 1 12 && !(u8s s).any fun x => qv x.v) := by rw [uo4]; simp [ko]
theorem ueb (l : List ByteArray) : ke l = (inB l.length 1 10 && !l.any fun s => !ko s) := by
 unfold ke
 congr 1
 rw [Bool.eq_iff_iff]; simp
/-- the numbers of some chapters -/
def iz (xs : List Int) : Int → Option C := fun x => bif decide (x ∈ xs) then some (.v (.bool true)) else none
theorem uet (xs : List Int) (x : Int) : (iz xs x).getD (o6 (.bool false)) = .v (.bool (decide (x ∈ xs))) := by
 unfold iz
 cases decide (x ∈ xs) <;> rfl
theorem ues : iz [] = fun _ => none := by funext x; simp [iz]
theorem um3 {t : aj} {k : Nat} {c : bg} (h : t[k]? = some c) : kd (iz ((t.take k).map (·.id))) c.id (.v (.bool true)) = iz ((t.take (k + 1)).map (·.id)) := by
 funext x
 rw [pn (f := (·.id)) h]
 unfold kd iz
 by_cases hx : x = c.id
 ·simp [hx]
 simp [hx]
theorem jz (xs : List Int) (n : Nat) : ∀ x c, iz xs x = some c → C.low n c := by
 intro x c h
 unfold iz at h
 cases hd : decide (x ∈ xs) <;> rw [hd] at h
 ·cases h
 cases h; exact .v
theorem uib {t : aj} (h : inB t.length 1 6 = false) : fw t = 10 := by simp [fw, c7, h]
theorem yq {t : aj} (h : t.all jl = false) : fw t = 10 := by simp [fw, c7, h]
theorem uia {t : aj} (h : ¬ (t.map (·.id)).Nodup) : fw t = 10 := by simp [fw, c7, h]
end Go.AB
namespace Go.Proofs.YtgffhbbcpgdjjaaGreatDoor
set_option maxRecDepth 10000
open Go.RowKit Go.AB
open Go.AB.Enc (cells)
open Go.PB (bg aj PlaceD bn bq bp)
theorem upz (xs : List ByteArray) (p : ByteArray → Bool) (k : Nat) (caps : List C) [Fun Tryz.prog k] (hp : ∀ x ∈ xs, Pure Tryz.prog k (.v (.string x) :: caps) (.v (.bool (p x)))) : Pure Tryz.prog 95 [lst xs, .fn (.func k) caps] (.v (.int .i64 (ox p xs))) := by
 refine di Tryz.func95 rfl (fun m => .v) fun G nx => ?_
 simp only [Tryz.ntmps95, List.length_cons, List.length_nil, Nat.reduceAdd, Nat.reduceSub]
 refine cp fun hlt => ?_
 dsimp only at hlt
 refine lf 0 (fun hf => ?_)
 replace hf := (fit_lst.1 hf).1
 refine yS fun _ K1 => ?_
 refine yR ?_
 refine yA rfl rfl ?_
 refine yN ?_
 dsimp only [St.put]
 refine K1 _ ?_
 refine yS fun _ K2 => ?_
 refine yS fun _ K3 => ?_
 refine yR ?_
 refine yM rfl rfl ?_
 refine aa rfl (bj rfl rfl (List.length_map _)) ?_
 refine yM rfl rfl ?_
 refine yN ?_
 dsimp only [St.put]
 refine K3 _ ?_
 refine cb ?_
 refine dh 9 ?_
 refine zQ ?_
 refine du (G) zX ?_
 dsimp only
 refine dz (X := Nat) (fun k => k ≤ xs.length ∧ ∀ y ∈ xs.take k, p y = false) (fun k => xs.length - k) (fun k => [(4, .any), (5, .any), (8, .v (.int .i64 (k : Int)))]) (fun k G' => G') 0 rfl ?_ ?_ (fun _ _ h => h) ?_ ?_ ?_
 ·exact ⟨by simp, by simp⟩
 ·exact zF
 ·rintro k hI
  exact zL
 ·exact fun _ _ _ _ h => .inl h
 rintro k hI
 dsimp only at hI ⊢
 refine yS fun _ K4 => ?_
 refine yR ?_
 refine aa rfl (c5 rfl rfl rfl) ?_
 refine yN ?_
 dsimp only [St.put]
 refine K4 _ ?_
 refine yS fun _ K5 => ?_
 refine bd rfl (fun hc => ?_) (fun hc => ?_)
 ·replace hc := of_decide_eq_true hc
  obtain ⟨x, hx⟩ : ∃ x, xs[k]? = some x := d8 (by omega)
  refine bi ?_
  refine K5 _ ?_
  refine yS fun _ K6 => ?_
  refine cb ?_
  refine yS fun _ K7 => ?_
  refine yR ?_
  refine yM rfl rfl ?_
  refine yA rfl rfl ?_
  refine yN ?_
  dsimp only [St.put]
  refine K7 _ ?_
  refine yS fun _ K8 => ?_
  refine yR ?_
  refine yM rfl rfl ?_
  refine yM rfl rfl ?_
  refine yM rfl rfl ?_
  refine aa rfl (bk rfl rfl rfl rfl (bu (by assumption)) (Enc.len _)) ?_
  refine yL rfl rfl rfl ?_
  try dsimp only [St.put]
  refine af rfl (bl rfl rfl rfl (hp x (g5 hx)) ?_)
  refine yN ?_
  dsimp only [St.put]
  refine K8 _ ?_
  refine bd rfl (fun hc => ?_) (fun hc => ?_)
  ·skip
   refine yS fun _ K9 => ?_
   refine yR ?_
   refine yM rfl rfl ?_
   refine yA rfl rfl ?_
   refine yN ?_
   dsimp only [St.put]
   refine K9 _ ?_
   refine bc ?_
   refine bx rfl (by constructor) zN zS ?_
   exact vi (uah hx hc hI.2).symm
  skip
  refine bi ?_
  refine K6 _ ?_
  refine yR ?_
  refine aa rfl (cm rfl rfl rfl (by omega)) ?_
  refine yM rfl rfl ?_
  refine yN ?_
  dsimp only [St.put]
  exact ⟨k + 1, by omega, ⟨by omega, fun y hy => by
    rw [List.take_add_one, hx] at hy
    simp only [Option.toList_some, List.mem_append, List.mem_singleton] at hy
    rcases hy with hy | rfl
    ·exact hI.2 y hy
    simpa using hc⟩, ⟨⟨rfl, rfl⟩, zF, zB, zN, zX⟩⟩
 try replace hc := of_decide_eq_false hc
 refine dq ?_
 refine K2 _ ?_
 refine yS fun _ K10 => ?_
 refine yR ?_
 refine yA rfl rfl ?_
 refine yN ?_
 dsimp only [St.put]
 refine K10 _ ?_
 refine bc ?_
 refine bx rfl (by constructor) zN zS ?_
 exact vi (by
  rw [uai]
  have := hI.2
  rwa [g9 (by omega)] at this)
theorem up1 (xs : List U8) (p : U8 → Bool) (k : Nat) (caps : List C) [Fun Tryz.prog k] (hp : ∀ x ∈ xs, Pure Tryz.prog k (.v (.int .u8 x.v) :: caps) (.v (.bool (p x)))) : Pure Tryz.prog 101 [lst xs, .fn (.func k) caps] (.v (.int .i64 (ox p xs))) := by
 refine di Tryz.func101 rfl (fun m => .v) fun G nx => ?_
 simp only [Tryz.ntmps101, List.length_cons, List.length_nil, Nat.reduceAdd, Nat.reduceSub]
 refine cp fun hlt => ?_
 dsimp only at hlt
 refine lf 0 (fun hf => ?_)
 replace hf := (fit_lst.1 hf).1
 refine yS fun _ K1 => ?_
 refine yR ?_
 refine yA rfl rfl ?_
 refine yN ?_
 dsimp only [St.put]
 refine K1 _ ?_
 refine yS fun _ K2 => ?_
 refine yS fun _ K3 => ?_
 refine yR ?_
 refine yM rfl rfl ?_
 refine aa rfl (bj rfl rfl (List.length_map _)) ?_
 refine yM rfl rfl ?_
 refine yN ?_
 dsimp only [St.put]
 refine K3 _ ?_
 refine cb ?_
 refine dh 9 ?_
 refine zQ ?_
 refine du (G) zX ?_
 dsimp only
 refine dz (X := Nat) (fun k => k ≤ xs.length ∧ ∀ y ∈ xs.take k, p y = false) (fun k => xs.length - k) (fun k => [(4, .any), (5, .any), (8, .v (.int .i64 (k : Int)))]) (fun k G' => G') 0 rfl ?_ ?_ (fun _ _ h => h) ?_ ?_ ?_
 ·exact ⟨by simp, by simp⟩
 ·exact zF
 ·rintro k hI
  exact zL
 ·exact fun _ _ _ _ h => .inl h
 rintro k hI
 dsimp only at hI ⊢
 refine yS fun _ K4 => ?_
 refine yR ?_
 refine aa rfl (c5 rfl rfl rfl) ?_
 refine yN ?_
 dsimp only [St.put]
 refine K4 _ ?_
 refine yS fun _ K5 => ?_
 refine bd rfl (fun hc => ?_) (fun hc => ?_)
 ·replace hc := of_decide_eq_true hc
  obtain ⟨x, hx⟩ : ∃ x, xs[k]? = some x := d8 (by omega)
  refine bi ?_
  refine K5 _ ?_
  refine yS fun _ K6 => ?_
  refine cb ?_
  refine yS fun _ K7 => ?_
  refine yR ?_
  refine yM rfl rfl ?_
  refine yA rfl rfl ?_
  refine yN ?_
  dsimp only [St.put]
  refine K7 _ ?_
  refine yS fun _ K8 => ?_
  refine yR ?_
  refine yM rfl rfl ?_
  refine yM rfl rfl ?_
  refine yM rfl rfl ?_
  refine aa rfl (bk rfl rfl rfl rfl (bu (by assumption)) (Enc.len _)) ?_
  refine yL rfl rfl rfl ?_
  try dsimp only [St.put]
  refine af rfl (bl rfl rfl rfl (hp x (g5 hx)) ?_)
  refine yN ?_
  dsimp only [St.put]
  refine K8 _ ?_
  refine bd rfl (fun hc => ?_) (fun hc => ?_)
  ·skip
   refine yS fun _ K9 => ?_
   refine yR ?_
   refine yM rfl rfl ?_
   refine yA rfl rfl ?_
   refine yN ?_
   dsimp only [St.put]
   refine K9 _ ?_
   refine bc ?_
   refine bx rfl (by constructor) zN zS ?_
   exact vi (uah hx hc hI.2).symm
  skip
  refine bi ?_
  refine K6 _ ?_
  refine yR ?_
  refine aa rfl (cm rfl rfl rfl (by omega)) ?_
  refine yM rfl rfl ?_
  refine yN ?_
  dsimp only [St.put]
  exact ⟨k + 1, by omega, ⟨by omega, fun y hy => by
    rw [List.take_add_one, hx] at hy
    simp only [Option.toList_some, List.mem_append, List.mem_singleton] at hy
    rcases hy with hy | rfl
    ·exact hI.2 y hy
    simpa using hc⟩, ⟨⟨rfl, rfl⟩, zF, zB, zN, zX⟩⟩
 try replace hc := of_decide_eq_false hc
 refine dq ?_
 refine K2 _ ?_
 refine yS fun _ K10 => ?_
 refine yR ?_
 refine yA rfl rfl ?_
 refine yN ?_
 dsimp only [St.put]
 refine K10 _ ?_
 refine bc ?_
 refine bx rfl (by constructor) zN zS ?_
 exact vi (by
  rw [uai]
  have := hI.2
  rwa [g9 (by omega)] at this)
theorem up4 (xs : List ByteArray) (p : ByteArray → Bool) (k : Nat) (caps : List C) [Fun Tryz.prog k] (hp : ∀ x ∈ xs, Pure Tryz.prog k (.v (.string x) :: caps) (.v (.bool (p x)))) : Pure Tryz.prog 84 [lst xs, .fn (.func k) caps] (.v (.bool (xs.any p))) := by
 refine di Tryz.func84 rfl (fun m => .v) fun G nx => ?_
 simp only [Tryz.ntmps84, List.length_cons, List.length_nil, Nat.reduceAdd, Nat.reduceSub]
 refine cp fun hlt => ?_
 dsimp only at hlt
 refine yS fun _ K1 => ?_
 refine yR ?_
 refine yA rfl rfl ?_
 refine yN ?_
 dsimp only [St.put]
 refine K1 _ ?_
 refine yS fun _ K2 => ?_
 refine yR ?_
 refine yM rfl rfl ?_
 refine yM rfl rfl ?_
 try dsimp only [St.put]
 refine af rfl (bl rfl rfl rfl (upz xs p k caps hp) ?_)
 refine aa rfl (kx rfl rfl rfl) ?_
 refine yA rfl rfl ?_
 refine yN ?_
 dsimp only [St.put]
 refine K2 _ ?_
 refine bc ?_
 refine bx rfl (by constructor) zN zS ?_
 exact vb uaj
theorem up5 (xs : List U8) (p : U8 → Bool) (k : Nat) (caps : List C) [Fun Tryz.prog k] (hp : ∀ x ∈ xs, Pure Tryz.prog k (.v (.int .u8 x.v) :: caps) (.v (.bool (p x)))) : Pure Tryz.prog 96 [lst xs, .fn (.func k) caps] (.v (.bool (xs.any p))) := by
 refine di Tryz.func96 rfl (fun m => .v) fun G nx => ?_
 simp only [Tryz.ntmps96, List.length_cons, List.length_nil, Nat.reduceAdd, Nat.reduceSub]
 refine cp fun hlt => ?_
 dsimp only at hlt
 refine yS fun _ K1 => ?_
 refine yR ?_
 refine yA rfl rfl ?_
 refine yN ?_
 dsimp only [St.put]
 refine K1 _ ?_
 refine yS fun _ K2 => ?_
 refine yR ?_
 refine yM rfl rfl ?_
 refine yM rfl rfl ?_
 try dsimp only [St.put]
 refine af rfl (bl rfl rfl rfl (up1 xs p k caps hp) ?_)
 refine aa rfl (kx rfl rfl rfl) ?_
 refine yA rfl rfl ?_
 refine yN ?_
 dsimp only [St.put]
 refine K2 _ ?_
 refine bc ?_
 refine bx rfl (by constructor) zN zS ?_
 exact vb uaj
theorem uml (n lo hi : Int) : Pure Tryz.prog 94 [.v (.int .i64 n), .elem [.v (.int .i64 lo)], .elem [.v (.int .i64 hi)]] (.v (.bool (mj n lo hi))) := by
 refine di Tryz.func94 rfl (fun m => .v) fun G nx => ?_
 simp only [Tryz.ntmps94, List.length_cons, List.length_nil, Nat.reduceAdd, Nat.reduceSub]
 refine cp fun hlt => ?_
 dsimp only at hlt
 refine yS fun _ K1 => ?_
 refine yR ?_
 refine yA rfl rfl ?_
 refine yN ?_
 dsimp only [St.put]
 refine K1 _ ?_
 refine yS fun _ K2 => ?_
 refine yR ?_
 refine yM rfl rfl ?_
 refine yL rfl rfl rfl ?_
 refine aa rfl (c5 rfl rfl rfl) ?_
 refine yM rfl rfl ?_
 refine er (fun hs => ?_) (fun hs => ?_)
 ·try replace hs := of_decide_eq_true hs
  refine yK rfl ?_
  refine yK rfl ?_
  refine yK rfl ?_
  refine aa rfl (cn rfl rfl (by constructor)) ?_
  refine yA rfl rfl ?_
  refine yN ?_
  dsimp only [St.put]
  refine K2 _ ?_
  refine bc ?_
  refine bx rfl (by constructor) zN zS ?_
  exact vb (by simp [mj, hs]; try omega)
 try replace hs := of_decide_eq_false hs
 refine yM rfl rfl ?_
 refine yL rfl rfl rfl ?_
 refine aa rfl (im rfl rfl rfl) ?_
 refine aa rfl (cv rfl rfl (by constructor)) ?_
 refine yA rfl rfl ?_
 refine yN ?_
 dsimp only [St.put]
 refine K2 _ ?_
 refine bc ?_
 refine bx rfl (by constructor) zN zS ?_
 exact vb (by simp [mj, hs]; try omega)
theorem un (lo hi : Int) (xs : List Int) : Pure Tryz.prog 83 [.v (.int .i64 lo), .v (.int .i64 hi), lst xs] (.v (.bool (xk lo hi xs))) := by
 refine di Tryz.func83 rfl (fun m => .v) fun G nx => ?_
 simp only [Tryz.ntmps83, List.length_cons, List.length_nil, Nat.reduceAdd, Nat.reduceSub]
 refine cp fun hlt => ?_
 dsimp only at hlt
 refine yS fun _ K1 => ?_
 refine yR ?_
 try dsimp only [St.put]
 refine yB rfl rfl rfl ?_
 try dsimp only [St.put]
 refine yB rfl rfl rfl ?_
 refine yA rfl rfl ?_
 refine yN ?_
 dsimp only [St.put]
 refine K1 _ ?_
 refine yS fun _ K2 => ?_
 refine yR ?_
 refine yM rfl rfl ?_
 refine aa rfl (pk rfl rfl) ?_
 try dsimp only [St.put]
 refine af rfl (bl rfl rfl rfl (yg xs (fun n => mj n lo hi) _ _ fun x _ => uml x lo hi) ?_)
 refine aa rfl (ei rfl rfl) ?_
 refine yA rfl rfl ?_
 refine yN ?_
 dsimp only [St.put]
 refine K2 _ ?_
 refine bc ?_
 refine bx rfl (by constructor) zN zS ?_
 rfl
theorem uhr (n : Int) : Pure Tryz.prog 97 [.v (.int .u8 n)] (.v (.bool (qv n))) := by
 refine di Tryz.func97 rfl (fun m => .v) fun G nx => ?_
 simp only [Tryz.ntmps97, List.length_cons, List.length_nil, Nat.reduceAdd, Nat.reduceSub]
 refine cp fun hlt => ?_
 dsimp only at hlt
 refine yS fun _ K1 => ?_
 refine yR ?_
 refine yA rfl rfl ?_
 refine yN ?_
 dsimp only [St.put]
 refine K1 _ ?_
 refine yS fun _ K2 => ?_
 refine yR ?_
 refine yM rfl rfl ?_
 refine aa rfl (c5 rfl rfl rfl) ?_
 refine yM rfl rfl ?_
 refine er (fun hs => ?_) (fun hs => ?_)
 ·try replace hs := of_decide_eq_true hs
  refine yK rfl ?_
  refine yK rfl ?_
  refine aa rfl (cn rfl rfl (by constructor)) ?_
  refine yA rfl rfl ?_
  refine yN ?_
  dsimp only [St.put]
  refine K2 _ ?_
  refine bc ?_
  refine bx rfl (by constructor) zN zS ?_
  exact vb (by simp [qv, hs]; try omega)
 try replace hs := of_decide_eq_false hs
 refine yM rfl rfl ?_
 refine aa rfl (im rfl rfl rfl) ?_
 refine aa rfl (cv rfl rfl (by constructor)) ?_
 refine yA rfl rfl ?_
 refine yN ?_
 dsimp only [St.put]
 refine K2 _ ?_
 refine bc ?_
 refine bx rfl (by constructor) zN zS ?_
 exact vb (by simp [qv, hs]; try omega)
theorem uhq (s : ByteArray) : Pure Tryz.prog 86 [.v (.string s)] (.v (.bool (ko s))) := by
 refine di Tryz.func86 rfl (fun m => .v) fun G nx => ?_
 simp only [Tryz.ntmps86, List.length_cons, List.length_nil, Nat.reduceAdd, Nat.reduceSub]
 refine cp fun hlt => ?_
 dsimp only at hlt
 refine yS fun _ K1 => ?_
 refine yR ?_
 refine yA rfl rfl ?_
 refine yN ?_
 dsimp only [St.put]
 refine K1 _ ?_
 refine yS fun _ K2 => ?_
 refine yR ?_
 refine yM rfl rfl ?_
 refine aa rfl (f7 rfl rfl) ?_
 try dsimp only [St.put]
 refine af rfl (el rfl rfl rfl (by decide) (by decide) zR (by decide) ?_)
 try dsimp only [St.put]
 refine af rfl (bl rfl rfl rfl (un _ _ [(s.size : Int)]) ?_)
 refine yM rfl rfl ?_
 refine er (fun hs => ?_) (fun hs => ?_)
 ·rw [gu] at hs
  refine yM rfl rfl ?_
  try dsimp only [St.put]
  refine af rfl (unz (by kernel_rfl) rfl rfl ?_)
  try dsimp only [St.put]
  refine af rfl (bl rfl rfl rfl (up5 (u8s s) (fun x => qv x.v) _ _ fun x _ => uhr x.v) ?_)
  refine aa rfl (ei rfl rfl) ?_
  refine aa rfl (cn rfl rfl (by constructor)) ?_
  refine yA rfl rfl ?_
  refine yN ?_
  dsimp only [St.put]
  refine K2 _ ?_
  refine bc ?_
  refine bx rfl (by constructor) zN zS ?_
  exact vb (by rw [ubu, hs]; rfl)
 rw [gu] at hs
 refine yK rfl ?_
 refine yK rfl ?_
 refine yK rfl ?_
 refine yK rfl ?_
 refine aa rfl (cv rfl rfl (by constructor)) ?_
 refine yA rfl rfl ?_
 refine yN ?_
 dsimp only [St.put]
 refine K2 _ ?_
 refine bc ?_
 refine bx rfl (by constructor) zN zS ?_
 exact vb (by rw [ubu, hs]; rfl)
theorem umm (s : ByteArray) : Pure Tryz.prog 85 [.v (.string s)] (.v (.bool (!ko s))) := by
 refine di Tryz.func85 rfl (fun m => .v) fun G nx => ?_
 simp only [Tryz.ntmps85, List.length_cons, List.length_nil, Nat.reduceAdd, Nat.reduceSub]
 refine cp fun hlt => ?_
 dsimp only at hlt
 refine yS fun _ K1 => ?_
 refine yR ?_
 refine yA rfl rfl ?_
 refine yN ?_
 dsimp only [St.put]
 refine K1 _ ?_
 refine yS fun _ K2 => ?_
 refine yR ?_
 refine yM rfl rfl ?_
 try dsimp only [St.put]
 refine af rfl (bl rfl rfl rfl (uhq _) ?_)
 refine aa rfl (ei rfl rfl) ?_
 refine yA rfl rfl ?_
 refine yN ?_
 dsimp only [St.put]
 refine K2 _ ?_
 refine bc ?_
 refine bx rfl (by constructor) zN zS ?_
 rfl
theorem uei (t : aj) : Pure Tryz.prog 64 [gp t] (.v (.int .i64 (fw t))) := by
 refine di Tryz.func64 rfl (fun m => .v) fun G nx => ?_
 simp only [Tryz.ntmps64, List.length_cons, List.length_nil, Nat.reduceAdd, Nat.reduceSub]
 refine cp fun hlt => ?_
 dsimp only at hlt
 refine lf 0 (fun hf => ?_)
 replace hf := yp hf
 have hf0 := hf.len
 refine yS fun _ K1 => ?_
 refine yR ?_
 try dsimp only [St.put]
 refine yB rfl rfl rfl ?_
 refine yA rfl rfl ?_
 refine yN ?_
 dsimp only [St.put]
 refine K1 _ ?_
 refine ugl ?_
 refine yS fun _ K2 => ?_
 refine yS fun _ K3 => ?_
 refine yR ?_
 refine yF rfl rfl rfl rfl ?_
 refine yL rfl rfl rfl ?_
 refine aa rfl (bj rfl rfl (List.length_map _)) ?_
 try dsimp only [St.put]
 refine af rfl (el rfl rfl rfl (by decide) (by decide) zR (by decide) ?_)
 try dsimp only [St.put]
 refine af rfl (bl rfl rfl rfl (un _ _ [(t.length : Int)]) ?_)
 refine aa rfl (ei rfl rfl) ?_
 refine yN ?_
 dsimp only [St.put]
 refine K3 _ ?_
 refine bd rfl (fun hc => ?_) (fun hc => ?_)
 ·have hin : inB t.length 1 6 = false := by rw [gu] at hc; simpa using hc
  refine yS fun _ K4 => ?_
  refine yR ?_
  refine yA rfl rfl ?_
  refine yN ?_
  dsimp only [St.put]
  refine K4 _ ?_
  refine bc ?_
  refine bx rfl (by constructor) zN zS ?_
  exact vi (uib hin).symm
 have hin : inB t.length 1 6 = true := by rw [gu] at hc; simpa using hc
 refine bi ?_
 refine K2 _ ?_
 refine yS fun _ K5 => ?_
 refine yR ?_
 refine yA rfl rfl ?_
 refine yN ?_
 dsimp only [St.put]
 refine K5 _ ?_
 refine yS fun _ K6 => ?_
 refine yR ?_
 try dsimp only [St.put]
 refine af rfl (uau (α := Int) rfl ?_)
 refine yA rfl rfl ?_
 refine yN ?_
 dsimp only [St.put]
 refine K6 _ ?_
 refine yS fun _ K7 => ?_
 refine ugp ?_
 refine K7 _ ?_
 refine yS fun _ K8 => ?_
 refine yS fun _ K9 => ?_
 refine yR ?_
 refine yF rfl rfl rfl rfl ?_
 refine yL rfl rfl rfl ?_
 refine aa rfl (bj rfl rfl (List.length_map _)) ?_
 refine yM rfl rfl ?_
 refine yN ?_
 dsimp only [St.put]
 refine K9 _ ?_
 refine cb ?_
 refine dh 20 ?_
 refine zQ ?_
 refine du (ay G nx (i1 Tryz.prog 3 0 fun _ => none)) zX ?_
 dsimp only
 refine dz (X := Nat) (fun k => k ≤ t.length ∧ (t.take k).all jl = true ∧ ((t.take k).map (·.id)).Nodup) (fun k => t.length - k) (fun k => [(2, .v (.int .i64 0)), (3, .v (.int .i64 0)), (5, .any), (6, .any), (7, .any), (8, .any), (19, .v (.int .i64 (k : Int)))]) (fun k G' => ay G nx (i1 Tryz.prog 3 k (iz ((t.take k).map (·.id))))) 0 rfl ?_ ?_ ?_ ?_ ?_ ?_
 ·exact ⟨by simp, by simp, by simp⟩
 ·exact zF
 ·rw [show iz ((t.take 0).map (·.id)) = fun _ => none from ues]
  exact zX
 ·rintro k hI
  exact (by (try dsimp only); repeat' (first | exact trivial | refine ⟨?_, ?_⟩ | exact .v | exact .any | refine .elem ?_ | exact co _ _ | exact f8 _ _ | exact ey _ _ | exact ge _ (by (try dsimp only); omega) | exact .box (by (try dsimp only); omega) | exact fp | exact dj | exact i0 (jz _ _) | refine gj ?_ ?_ | exact .arr (by (try dsimp only); omega) | exact .own (by (try dsimp only); omega) | exact .map (by (try dsimp only); omega) | exact ff _ | refine ct ?_ ?_ | exact co _ _))
 ·rintro k hI
  exact (by (repeat' (refine lu ?_ (by (try dsimp only); omega) ?_)); all_goals (first | exact ly zS | (repeat' (first | exact trivial | refine ⟨?_, ?_⟩ | exact .v | exact .any | refine .elem ?_ | exact co _ _ | exact f8 _ _ | exact ey _ _ | exact ge _ (by (try dsimp only); omega) | exact .box (by (try dsimp only); omega) | exact fp | exact dj | exact i0 (jz _ _) | refine gj ?_ ?_ | exact .arr (by (try dsimp only); omega) | exact .own (by (try dsimp only); omega) | exact .map (by (try dsimp only); omega) | exact ff _ | refine ct ?_ ?_ | exact co _ _))))
 rintro k hI
 dsimp only at hI ⊢
 refine yS fun _ K10 => ?_
 refine yR ?_
 refine aa rfl (c5 rfl rfl rfl) ?_
 refine yN ?_
 dsimp only [St.put]
 refine K10 _ ?_
 refine yS fun _ K11 => ?_
 refine bd rfl (fun hc => ?_) (fun hc => ?_)
 ·replace hc := of_decide_eq_true hc
  obtain ⟨c, hx⟩ : ∃ x, t[k]? = some x := d8 (by omega)
  have hf1 := hf.lines c (g5 hx)
  refine bi ?_
  refine K11 _ ?_
  refine yS fun _ K12 => ?_
  refine cb ?_
  refine yS fun _ K13 => ?_
  refine yR ?_
  refine aa rfl (bk rfl rfl rfl rfl (bu (by assumption)) (Enc.len _)) ?_
  refine yE rfl rfl rfl ?_
  try dsimp only [St.put]
  refine af rfl (dt rfl ?_)
  try dsimp only [St.put]
  refine af rfl (da rfl rfl rfl zG rfl rfl (by rfl) ?_)
  refine yN ?_
  dsimp only [St.put]
  refine K13 _ ?_
  refine gl (i := 6) rfl zG zC ?_
  dsimp only
  refine yS fun _ K14 => ?_
  refine dh 20 ?_
  refine zQ ?_
  refine l5 (X := Bool) (fun b => (b = true → inB c.id 0 9999 = false ∨ c.id ∈ (t.take k).map (·.id) ∨ inB c.lines.length 1 10 = false) ∧ (b = false → inB c.id 0 9999 = true ∧ ¬ c.id ∈ (t.take k).map (·.id) ∧ inB c.lines.length 1 10 = true)) (fun b => [(41, .v (.bool b))]) (fun b G' => G') rfl ?_ (fun _ _ _ _ h => .inl h) ?_ ?_
  ·rintro b hI
   exact (by (try dsimp only); repeat' (first | exact trivial | refine ⟨?_, ?_⟩ | exact .v | exact .any | refine .elem ?_ | exact co _ _ | exact f8 _ _ | exact ey _ _ | exact ge _ (by (try dsimp only); omega) | exact .box (by (try dsimp only); omega) | exact fp | exact dj | exact i0 (jz _ _) | refine gj ?_ ?_ | exact .arr (by (try dsimp only); omega) | exact .own (by (try dsimp only); omega) | exact .map (by (try dsimp only); omega) | exact ff _ | refine ct ?_ ?_ | exact co _ _))
  ·refine yR ?_
   refine yF rfl rfl rfl rfl ?_
   refine yL rfl rfl rfl ?_
   try dsimp only [St.put]
   refine af rfl (el rfl rfl rfl (by decide) (by decide) zR (by decide) ?_)
   try dsimp only [St.put]
   refine af rfl (bl rfl rfl rfl (un _ _ [c.id]) ?_)
   refine aa rfl (ei rfl rfl) ?_
   refine yM rfl rfl ?_
   refine er (fun hs => ?_) (fun hs => ?_)
   ·have h5 : inB c.id 0 9999 = false := by rw [gu] at hs; simpa using hs
    refine yK rfl ?_
    refine yK rfl ?_
    refine yK rfl ?_
    refine yK rfl ?_
    refine aa rfl (cn rfl rfl (by constructor)) ?_
    refine yM rfl rfl ?_
    refine yK rfl ?_
    refine yK rfl ?_
    refine yK rfl ?_
    refine yK rfl ?_
    refine yK rfl ?_
    refine yK rfl ?_
    refine aa rfl (cn rfl rfl (by constructor)) ?_
    refine yN ?_
    dsimp only [St.put]
    refine ⟨_, ?_, ⟨⟨rfl, rfl⟩, zF, zB, zN, zX⟩⟩
    first
     | (exact ⟨fun _ => .inl h5, fun h => by cases h⟩)
     | (exact ⟨fun _ => .inr (.inl h11), fun h => by cases h⟩)
     | (rw [gu]; exact ⟨fun h => .inr (.inr (by simpa using h)), fun h => ⟨h5, h11, by simpa using h⟩⟩)
   have h5 : inB c.id 0 9999 = true := by rw [gu] at hs; simpa using hs
   refine yM rfl rfl ?_
   refine yF rfl rfl rfl rfl ?_
   refine yL rfl rfl rfl ?_
   try dsimp only [St.put]
   refine ae rfl (we c.id rfl rfl zG trivial rfl (uet _ _)) ?_
   refine aa rfl (cv rfl rfl (by constructor)) ?_
   refine yM rfl rfl ?_
   refine er (fun hs => ?_) (fun hs => ?_)
   ·have h11 := of_decide_eq_true hs
    refine yK rfl ?_
    refine yK rfl ?_
    refine yK rfl ?_
    refine yK rfl ?_
    refine yK rfl ?_
    refine yK rfl ?_
    refine aa rfl (cn rfl rfl (by constructor)) ?_
    refine yN ?_
    dsimp only [St.put]
    refine ⟨_, ?_, ⟨⟨rfl, rfl⟩, zF, zB, zN, zX⟩⟩
    first
     | (exact ⟨fun _ => .inl h5, fun h => by cases h⟩)
     | (exact ⟨fun _ => .inr (.inl h11), fun h => by cases h⟩)
     | (rw [gu]; exact ⟨fun h => .inr (.inr (by simpa using h)), fun h => ⟨h5, h11, by simpa using h⟩⟩)
   have h11 := of_decide_eq_false hs
   refine yF rfl rfl rfl rfl ?_
   refine yL rfl rfl rfl ?_
   refine aa rfl (bj rfl rfl (List.length_map _)) ?_
   try dsimp only [St.put]
   refine af rfl (el rfl rfl rfl (by decide) (by decide) zR (by decide) ?_)
   try dsimp only [St.put]
   refine af rfl (bl rfl rfl rfl (un _ _ [(c.lines.length : Int)]) ?_)
   refine aa rfl (ei rfl rfl) ?_
   refine aa rfl (cv rfl rfl (by constructor)) ?_
   refine yN ?_
   dsimp only [St.put]
   refine ⟨_, ?_, ⟨⟨rfl, rfl⟩, zF, zB, zN, zX⟩⟩
   first
    | (exact ⟨fun _ => .inl h5, fun h => by cases h⟩)
    | (exact ⟨fun _ => .inr (.inl h11), fun h => by cases h⟩)
    | (rw [gu]; exact ⟨fun h => .inr (.inr (by simpa using h)), fun h => ⟨h5, h11, by simpa using h⟩⟩)
  rintro b hst
  dsimp only at hst ⊢
  refine bd rfl (fun hc => ?_) (fun hc => ?_)
  ·replace hst := hst.1 hc
   refine yS fun _ K16 => ?_
   refine yR ?_
   refine yA rfl rfl ?_
   refine yN ?_
   dsimp only [St.put]
   refine K16 _ ?_
   refine bc ?_
   refine bx rfl (by constructor) zN zS ?_
   exact vi (by
    rcases hst with h | h | h
    ·exact (yq (kj hx (by simp [jl, h]))).symm
    ·refine (uia fun hn => ?_).symm
     have h2 : ((t.take (k + 1)).map (·.id)).Nodup := hn.sublist (List.Sublist.map _ (List.take_sublist _ _))
     rw [pn (f := (·.id)) hx, List.nodup_append] at h2
     exact h2.2.2 _ h _ (List.mem_singleton.2 rfl) rfl
    exact (yq (kj hx (by simp [jl, h]))).symm)
  replace hst := hst.2 hc
  refine bi ?_
  refine K14 _ ?_
  refine yS fun _ K17 => ?_
  refine yR ?_
  refine yM rfl rfl ?_
  refine yF rfl rfl rfl rfl ?_
  refine yL rfl rfl rfl ?_
  try dsimp only [St.put]
  refine af rfl (vd (c.id) rfl rfl rfl zG rfl (um3 hx) ?_)
  refine yN ?_
  dsimp only [St.put]
  refine K17 _ ?_
  refine yS fun _ K18 => ?_
  refine yR ?_
  refine yF rfl rfl rfl rfl ?_
  refine yL rfl rfl rfl ?_
  refine aa rfl (bj rfl rfl (List.length_map _)) ?_
  refine yM rfl rfl ?_
  refine yN ?_
  dsimp only [St.put]
  refine K18 _ ?_
  refine cb ?_
  refine dh 49 ?_
  refine zQ ?_
  refine du (ay G nx (i1 Tryz.prog 3 (k + 1) (iz ((t.take (k + 1)).map (·.id))))) zX ?_
  dsimp only
  refine dz (X := Nat) (fun n => n ≤ c.lines.length ∧ (c.lines.take n).all ke = true) (fun n => c.lines.length - n) (fun n => [(8, .any), (48, .v (.int .i64 (n : Int)))]) (fun n G' => G') 0 rfl ?_ ?_ (fun _ _ h => h) ?_ ?_ ?_
  ·exact ⟨by simp, by simp⟩
  ·exact zF
  ·rintro n hI
   exact (by (try dsimp only); repeat' (first | exact trivial | refine ⟨?_, ?_⟩ | exact .v | exact .any | refine .elem ?_ | exact co _ _ | exact f8 _ _ | exact ey _ _ | exact ge _ (by (try dsimp only); omega) | exact .box (by (try dsimp only); omega) | exact fp | exact dj | exact i0 (jz _ _) | refine gj ?_ ?_ | exact .arr (by (try dsimp only); omega) | exact .own (by (try dsimp only); omega) | exact .map (by (try dsimp only); omega) | exact ff _ | refine ct ?_ ?_ | exact co _ _))
  ·exact fun _ _ _ _ h => .inl h
  rintro n hJ
  dsimp only at hJ ⊢
  refine yS fun _ K19 => ?_
  refine yR ?_
  refine aa rfl (c5 rfl rfl rfl) ?_
  refine yN ?_
  dsimp only [St.put]
  refine K19 _ ?_
  refine yS fun _ K20 => ?_
  refine bd rfl (fun hc => ?_) (fun hc => ?_)
  ·replace hc := of_decide_eq_true hc
   obtain ⟨l, hl⟩ : ∃ x, c.lines[n]? = some x := d8 (by omega)
   have hf2 := hf.words c (g5 hx) l (g5 hl)
   refine bi ?_
   refine K20 _ ?_
   refine yS fun _ K21 => ?_
   refine cb ?_
   refine yS fun _ K22 => ?_
   refine yR ?_
   refine aa rfl (bk rfl rfl rfl rfl (bu (by assumption)) (Enc.len _)) ?_
   refine yL rfl rfl rfl ?_
   refine yA rfl rfl ?_
   refine yN ?_
   dsimp only [St.put]
   refine K22 _ ?_
   refine dh 49 ?_
   refine zQ ?_
   refine l5 (X := Bool) (fun b => b = !ke l) (fun b => [(60, .v (.bool b))]) (fun b G' => G') rfl ?_ (fun _ _ _ _ h => .inl h) ?_ ?_
   ·rintro b hI
    exact (by (try dsimp only); repeat' (first | exact trivial | refine ⟨?_, ?_⟩ | exact .v | exact .any | refine .elem ?_ | exact co _ _ | exact f8 _ _ | exact ey _ _ | exact ge _ (by (try dsimp only); omega) | exact .box (by (try dsimp only); omega) | exact fp | exact dj | exact i0 (jz _ _) | refine gj ?_ ?_ | exact .arr (by (try dsimp only); omega) | exact .own (by (try dsimp only); omega) | exact .map (by (try dsimp only); omega) | exact ff _ | refine ct ?_ ?_ | exact co _ _))
   ·refine yR ?_
    refine yM rfl rfl ?_
    refine aa rfl (bj rfl rfl (List.length_map _)) ?_
    try dsimp only [St.put]
    refine af rfl (el rfl rfl rfl (by decide) (by decide) zR (by decide) ?_)
    try dsimp only [St.put]
    refine af rfl (bl rfl rfl rfl (un _ _ [(l.length : Int)]) ?_)
    refine aa rfl (ei rfl rfl) ?_
    refine yM rfl rfl ?_
    refine er (fun hs => ?_) (fun hs => ?_)
    ·have h5 : inB l.length 1 10 = false := by rw [gu] at hs; simpa using hs
     refine yK rfl ?_
     refine yK rfl ?_
     refine aa rfl (cn rfl rfl (by constructor)) ?_
     refine yN ?_
     dsimp only [St.put]
     refine ⟨_, ?_, ⟨⟨rfl, rfl⟩, zF, zB, zN, zX⟩⟩
     rw [ueb, h5]
     simp
    have h5 : inB l.length 1 10 = true := by rw [gu] at hs; simpa using hs
    refine yM rfl rfl ?_
    try dsimp only [St.put]
    refine af rfl (bl rfl rfl rfl (up4 l (fun s => !ko s) _ _ fun s _ => umm s) ?_)
    refine aa rfl (cv rfl rfl (by constructor)) ?_
    refine yN ?_
    dsimp only [St.put]
    refine ⟨_, ?_, ⟨⟨rfl, rfl⟩, zF, zB, zN, zX⟩⟩
    rw [ueb, h5]
    simp
   rintro b hst2
   dsimp only at hst2 ⊢
   refine bd rfl (fun hc => ?_) (fun hc => ?_)
   ·have hln : ke l = false := by rw [hc] at hst2; simpa using hst2.symm
    have her : fw t = 10 := yq (kj hx (by simp [jl, kj hl hln]))
    refine yS fun _ K24 => ?_
    refine yR ?_
    refine yA rfl rfl ?_
    refine yN ?_
    dsimp only [St.put]
    refine K24 _ ?_
    refine dq ?_
    refine K8 _ ?_
    refine yS fun _ K25 => ?_
    refine yR ?_
    refine yM rfl rfl ?_
    refine yA rfl rfl ?_
    refine yN ?_
    dsimp only [St.put]
    refine K25 _ ?_
    refine bc ?_
    refine bx rfl (by constructor) zN zS ?_
    exact vi her.symm
   have hln : ke l = true := by rw [hc] at hst2; simpa using hst2.symm
   refine bi ?_
   refine K21 _ ?_
   refine yR ?_
   refine aa rfl (cm rfl rfl rfl (by omega)) ?_
   refine yM rfl rfl ?_
   refine yN ?_
   dsimp only [St.put]
   exact ⟨n + 1, by omega, ⟨by omega, by rw [qz hl, hJ.2, hln]; rfl⟩, ⟨⟨rfl, rfl⟩, zF, zB, zN, zX⟩⟩
  try replace hc := of_decide_eq_false hc
  refine dq ?_
  refine K12 _ ?_
  refine yR ?_
  refine aa rfl (cm rfl rfl rfl (by omega)) ?_
  refine yM rfl rfl ?_
  refine yN ?_
  dsimp only [St.put]
  exact ⟨k + 1, by omega, ⟨by omega, by
    rw [qz hx, hI.2.1]
    have h1 := hJ.2
    rw [g9 (by omega)] at h1
    simp [jl, hst.1, hst.2.2, h1], by
    rw [pn (f := (·.id)) hx]
    exact zw hI.2.2 hst.2.1⟩, ⟨⟨rfl, rfl⟩, zF, zB, zN, zX⟩⟩
 have hk : t.length ≤ k := by have := of_decide_eq_false hc; omega
 have her : fw t = 0 := by
  have h1 := hI.2
  rw [g9 hk] at h1
  simp [fw, c7, hin, h1.1, h1.2]
 refine dq ?_
 refine K8 _ ?_
 refine yS fun _ K26 => ?_
 refine yR ?_
 refine yM rfl rfl ?_
 refine yA rfl rfl ?_
 refine yN ?_
 dsimp only [St.put]
 refine K26 _ ?_
 refine bc ?_
 refine bx rfl (by constructor) zN zS ?_
 exact vi her.symm
end Go.Proofs.YtgffhbbcpgdjjaaGreatDoor
namespace Go.AB
open Go Go.RowKit
open Go.AB.Enc (cells)
open Go.PB (bg aj PlaceD)
end Go.AB
namespace Go.Proofs.YtgffhbbcpgdjjaaGreatDoor
set_option maxRecDepth 10000
open Go.RowKit Go.AB
open Go.AB.Enc (cells)
open Go.PB (bg aj PlaceD bn bq bp)
end Go.Proofs.YtgffhbbcpgdjjaaGreatDoor
namespace Go.AB
open Go Go.RowKit
open Go.AB.Enc (cells)
open Go.PB (bg aj PlaceD bn bq bp)
end Go.AB
namespace Go.Proofs.YtgffhbbcpgdjjaaGreatDoor
set_option maxRecDepth 10000
open Go.RowKit Go.AB
open Go.AB.Enc (cells)
open Go.PB (bg aj PlaceD bn bq bp)
end Go.Proofs.YtgffhbbcpgdjjaaGreatDoor
namespace Go.AB
open Go Go.RowKit
open Go.AB.Enc (cells)
open Go.PB (bg aj PlaceD bn bq bp)
theorem ul8 {t : aj} (ht : c7 t = true) : (ow t).length ≤ 60 := by
 rw [← uck t [], List.length_map]
 exact ujj ht []
end Go.AB
namespace Go.Proofs.YtgffhbbcpgdjjaaGreatDoor
set_option maxRecDepth 10000
open Go.RowKit Go.AB
open Go.AB.Enc (cells)
open Go.PB (bg aj PlaceD bn bq bp)
end Go.Proofs.YtgffhbbcpgdjjaaGreatDoor
namespace Go.AB
open Go Go.RowKit
open Go.PB (bg aj PlaceD bn bq bp)
/-! ### Lines and numbers of a sound edition -/
/-! ### Lines that are moved -/
/-! ### Splitting and joining -/
end Go.AB
namespace Go.AB
open Go Go.RowKit
open Go.AB.Enc (cells)
open Go.PB (bg aj PlaceD bn bq bp)
structure ug5 where
 ch : Int
 ln : Int
 tc : Int
 tl : Int
 n : Int
 deriving DecidableEq
/-! ### The words of a line -/
def ij (t : aj) (p : L2) : Option (List ByteArray) := bif inB p.1 0 ((t.length : Int) - 1) && inB p.2 0 ((lm t p.1 : Int) - 1) then (t[p.1.toNat]?).bind (fun c => c.lines[p.2.toNat]?) else none
def f5 (t : aj) (p : PlaceD) : Bool := match ij t (p.ch, p.ln) with
 | some l => inB p.wd 0 ((l.length : Int) - 1)
 | none => false
theorem yl {t : aj} {k n : Nat} {c : bg} {l : List ByteArray} (hc : t[k]? = some c) (hl : c.lines[n]? = some l) : ij t ((k : Int), (n : Int)) = some l := by
 have h1 := (List.getElem?_eq_some_iff.1 hc).1
 have h2 := (List.getElem?_eq_some_iff.1 hl).1
 have h3 : lm t (k : Int) = c.lines.length := udp rfl hc
 have e1 : inB (k : Int) 0 ((t.length : Int) - 1) = true := inB_true.2 (by omega)
 have e2 : inB (n : Int) 0 ((lm t (k : Int) : Int) - 1) = true := inB_true.2 (by omega)
 simp only [ij, e1, e2, Bool.and_self, cond_true, Int.toNat_natCast, hc, Option.bind_some, hl]
theorem td {t : aj} {p : L2} {l : List ByteArray} (h : ij t p = some l) : ∃ (k n : Nat) (c : bg), p = ((k : Int), (n : Int)) ∧ t[k]? = some c ∧ c.lines[n]? = some l := by
 unfold ij at h
 cases h1 : inB p.1 0 ((t.length : Int) - 1) with
 | false => rw [h1] at h; cases h
 | true =>
  cases h2 : inB p.2 0 ((lm t p.1 : Int) - 1) with
  | false => rw [h1, h2] at h; cases h
  | true =>
   rw [h1, h2] at h
   simp only [Bool.and_self, cond_true] at h
   rw [inB_true] at h1 h2
   cases hc : t[p.1.toNat]? with
   | none => rw [hc] at h; cases h
   | some c =>
    rw [hc, Option.bind_some] at h
    exact ⟨p.1.toNat, p.2.toNat, c, by rw [Prod.ext_iff]; constructor <;> (dsimp only; omega), hc, h⟩
theorem placeB_true {t : aj} {p : PlaceD} : f5 t p = true ↔ ∃ l, ij t (p.ch, p.ln) = some l ∧ 0 ≤ p.wd ∧ p.wd < l.length := by
 unfold f5
 cases h : ij t (p.ch, p.ln) with
 | none => simp
 | some l =>
  simp only [inB_true, Option.some.injEq]
  constructor
  ·exact fun h => ⟨l, rfl, by omega, by omega⟩
  ·rintro ⟨l', rfl, h1, h2⟩; omega
theorem ta {t : aj} (ht : c7 t = true) {p : L2} {l : List ByteArray} (h : ij t p = some l) : 0 ≤ p.1 ∧ p.1 ≤ 5 ∧ 0 ≤ p.2 ∧ p.2 ≤ 9 ∧ 1 ≤ l.length ∧ l.length ≤ 10 := by
 obtain ⟨k, n, c, rfl, hc, hl⟩ := td h
 obtain ⟨h1, h2, h3⟩ := lj ht
 obtain ⟨h4, h5, h6⟩ := h3 c (List.mem_of_getElem? hc)
 have h7 := h6 l (List.mem_of_getElem? hl)
 have h8 := (List.getElem?_eq_some_iff.1 hc).1
 have h9 := (List.getElem?_eq_some_iff.1 hl).1
 dsimp only
 omega
theorem mem_rows {t : aj} {ss : List km} {r : RowD} : r ∈ ni t ss ↔ ∃ p l, ij t p = some l ∧ r = zd ss p l.length := by
 unfold ni
 constructor
 ·intro h
  obtain ⟨l, hl, hr⟩ := List.mem_flatten.1 h
  obtain ⟨k, hk, rfl⟩ := List.mem_mapIdx.1 hl
  obtain ⟨n, hn, rfl⟩ := List.mem_mapIdx.1 hr
  exact ⟨_, _, yl (List.getElem?_eq_getElem hk) (List.getElem?_eq_getElem hn), rfl⟩
 ·rintro ⟨p, l, hw, rfl⟩
  obtain ⟨k, n, c, rfl, hc, hl⟩ := td hw
  have h8 := (List.getElem?_eq_some_iff.1 hc)
  have h9 := (List.getElem?_eq_some_iff.1 hl)
  refine List.mem_flatten.2 ⟨_, List.mem_mapIdx.2 ⟨k, h8.1, rfl⟩, List.mem_mapIdx.2 ⟨n, by rw [h8.2]; exact h9.1, ?_⟩⟩
  congr 2
  simp only [h8.2, h9.2]
theorem mem_lines {t : aj} {p : L2} : p ∈ ow t ↔ ∃ l, ij t p = some l := by
 rw [← uck t [], List.mem_map]
 constructor
 ·rintro ⟨r, hr, rfl⟩
  obtain ⟨q, l, hw, rfl⟩ := mem_rows.1 hr
  exact ⟨l, hw⟩
 ·rintro ⟨l, hw⟩
  exact ⟨_, mem_rows.2 ⟨p, l, hw, rfl⟩, rfl⟩
/-! ### References -/
/-! ### Where they lead -/
/-! ### Two editions -/
/-! ### Lines in order -/
def ltL (a b : L2) : Prop := a.1 < b.1 ∨ a.1 = b.1 ∧ a.2 < b.2
/-- numbers of a line that leads -/
structure PBd (m : Int) (x : ug5) : Prop where
 ch : 0 ≤ x.ch ∧ x.ch ≤ 999
 ln : 0 ≤ x.ln ∧ x.ln ≤ 999
 tc : 0 ≤ x.tc ∧ x.tc ≤ 999
 tl : 0 ≤ x.tl ∧ x.tl ≤ 999
 n : 1 ≤ x.n ∧ x.n ≤ m
theorem PBd.mono {m m' : Int} {x : ug5} (h : PBd m x) (hm : m ≤ m') : PBd m' x := ⟨h.ch, h.ln, h.tc, h.tl, h.n.1, by have := h.n.2; omega⟩
/-! ### A list into which one is put -/
theorem ul7 (t : aj) : (ow t).Pairwise ltL := by
 unfold ow
 rw [List.pairwise_flatten]
 constructor
 ·intro l hl
  obtain ⟨k, hk, rfl⟩ := List.mem_mapIdx.1 hl
  rw [List.pairwise_iff_getElem]
  intro i j hi hj hij
  simp only [List.getElem_mapIdx]
  right
  exact ⟨rfl, by dsimp only; omega⟩
 ·rw [List.pairwise_iff_getElem]
  intro i j hi hj hij x hx y hy
  simp only [List.getElem_mapIdx] at hx hy
  obtain ⟨a, ha, rfl⟩ := List.mem_mapIdx.1 hx
  obtain ⟨b, hb, rfl⟩ := List.mem_mapIdx.1 hy
  left
  dsimp only
  omega
theorem vw {t : aj} {p : L2} : (ij t p).isSome = (inB p.1 0 ((t.length : Int) - 1) && inB p.2 0 ((lm t p.1 : Int) - 1)) := by
 unfold ij
 cases h1 : inB p.1 0 ((t.length : Int) - 1) with
 | false => rfl
 | true =>
  cases h2 : inB p.2 0 ((lm t p.1 : Int) - 1) with
  | false => rfl
  | true =>
   simp only [Bool.and_self, cond_true]
   rw [inB_true] at h1 h2
   have hk : p.1.toNat < t.length := by omega
   have hn : lm t p.1 = t[p.1.toNat].lines.length := udp (k := p.1.toNat) (by omega) (List.getElem?_eq_getElem hk)
   rw [List.getElem?_eq_getElem hk, Option.bind_some, List.getElem?_eq_getElem (by omega)]
   rfl
/-! ### What is found first -/
end Go.AB
namespace Go.AB
open Go Go.RowKit
open Go.PB (bg aj PlaceD bn bq bp)
theorem uhn {t : aj} (ht : c7 t = true) (p : L2) : ((ij t p).getD []).length ≤ 10 := by
 cases h : ij t p with
 | none => simp
 | some l => have := ta ht h; simp only [Option.getD_some]; omega
end Go.AB
namespace Go.Proofs.YtgffhbbcpgdjjaaGreatDoor
set_option maxRecDepth 10000
open Go.RowKit Go.AB
open Go.AB.Enc (cells)
open Go.PB (bg aj PlaceD bn bq bp)
theorem ujv (t : aj) (p : PlaceD) (ht : c7 t = true) : Pure Tryz.prog 50 [gp t, val p] (.tup [lst ((ij t (p.ch, p.ln)).getD []), .v (.bool (ij t (p.ch, p.ln)).isSome)]) := by
 refine di Tryz.func50 rfl (fun m => .tup (ct (co _ _) (ct .v dj))) fun G nx => ?_
 simp only [Tryz.ntmps50, List.length_cons, List.length_nil, Nat.reduceAdd, Nat.reduceSub]
 refine cp fun hlt => ?_
 dsimp only at hlt
 obtain ⟨hl1, hl2, hl3⟩ := lj ht
 refine ar fun K1 hK1 => ?_
 refine aw ?_
 try dsimp only [St.put]
 refine af rfl (ip rfl rfl (by simp) ?_)
 try dsimp only [St.put]
 refine af rfl (ip rfl rfl (by simp) ?_)
 refine aa rfl (bf rfl (by constructor)) ?_
 refine aa rfl (bf rfl (by constructor)) ?_
 refine av ?_
 dsimp only [St.put]
 refine hK1 _ ?_
 refine ar fun K2 hK2 => ?_
 refine dh 6 ?_
 refine zQ ?_
 refine l5 (X := Bool) (fun b => b = !(ij t (p.ch, p.ln)).isSome) (fun b => [(28, .v (.bool b))]) (fun b G' => G') rfl ?_ (fun _ _ _ _ h => .inl h) ?_ ?_
 ·rintro b hI
  exact zL
 ·refine sk [(0, none), (1, none), (2, none), (3, none), (4, none), (5, none)] (fun _ => false) (fun i => [0, 2, 4, 5].contains i) 17 (rl [6, 17]) (by kernel_rfl) (by kernel_rfl) ?_
  first | refine ah rfl rfl rfl rfl (br rfl rfl rfl) ?_ | refine ah rfl rfl rfl rfl (cr rfl rfl) ?_
  try dsimp only [St.put]
  first | refine ai rfl rfl rfl rfl (bh rfl rfl) ?_ | refine ai rfl rfl rfl rfl (aq rfl rfl (Enc.len _)) ?_ | refine ai rfl rfl rfl rfl (aq rfl rfl rfl) ?_ | refine ai rfl rfl rfl rfl (bz rfl rfl zG (by simp) (by first | rfl | assumption)) ?_ | refine ai rfl rfl rfl rfl (ca rfl rfl zG (by simp) (by rfl)) ?_ | refine ai rfl rfl rfl rfl (cg rfl rfl zG (by simp) (by simp)) ?_ | refine ai rfl rfl rfl rfl (ax rfl rfl zG (by simp) (ci (by assumption) rfl)) ?_ | refine ai rfl rfl rfl rfl (ax rfl rfl zG (by simp) (by assumption)) ?_ | refine ai rfl rfl rfl rfl (cj rfl rfl zG (by simp) rfl (by assumption) rfl (by decide)) ?_ | refine ai rfl rfl rfl rfl (cd rfl rfl zG (by rfl)) ?_
  first | refine ah rfl rfl rfl rfl (br rfl rfl rfl) ?_ | refine ah rfl rfl rfl rfl (cr rfl rfl) ?_
  try dsimp only [St.put]
  first | refine ai rfl rfl rfl rfl (bh rfl rfl) ?_ | refine ai rfl rfl rfl rfl (aq rfl rfl (Enc.len _)) ?_ | refine ai rfl rfl rfl rfl (aq rfl rfl rfl) ?_ | refine ai rfl rfl rfl rfl (bz rfl rfl zG (by simp) (by first | rfl | assumption)) ?_ | refine ai rfl rfl rfl rfl (ca rfl rfl zG (by simp) (by rfl)) ?_ | refine ai rfl rfl rfl rfl (cg rfl rfl zG (by simp) (by simp)) ?_ | refine ai rfl rfl rfl rfl (ax rfl rfl zG (by simp) (ci (by assumption) rfl)) ?_ | refine ai rfl rfl rfl rfl (ax rfl rfl zG (by simp) (by assumption)) ?_ | refine ai rfl rfl rfl rfl (cj rfl rfl zG (by simp) rfl (by assumption) rfl (by decide)) ?_ | refine ai rfl rfl rfl rfl (cd rfl rfl zG (by rfl)) ?_
  first | refine ah rfl rfl rfl rfl (bj rfl rfl (List.length_map _)) ?_ | refine ah rfl rfl rfl rfl (bj rfl rfl rfl) ?_ | refine ah rfl rfl rfl rfl (f7 rfl rfl) ?_ | refine ah rfl rfl rfl rfl (gd rfl rfl) ?_ | refine ah rfl rfl rfl rfl (ga rfl rfl) ?_ | refine ah rfl rfl rfl rfl (f9 rfl rfl (by omega)) ?_
  first | refine ah rfl rfl rfl rfl (ir rfl rfl rfl (by omega)) ?_ | refine ah rfl rfl rfl rfl (ru rfl rfl rfl) ?_
  refine cz ?_
  refine eg [6] (by kernel_rfl) (by simp) ?_
  refine ef ?_ ?_
  ·try dsimp only [St.put]
   refine i7 rfl rfl rfl (bl rfl rfl rfl (pd _ _ _) ?_)
   refine fb [(7, none), (8, none), (9, none), (10, none), (11, none), (12, none), (13, none), (14, none), (15, none), (16, none), (17, none), (18, none), (19, none)] (fun i => [7, 8, 9, 11, 13, 15, 16, 18, 19].contains i) 3 (rl [20, 3]) (by kernel_rfl) ?_
   refine ah rfl rfl rfl rfl (ei rfl rfl) ?_
   refine ah rfl rfl rfl rfl (ba rfl (by constructor)) ?_
   refine j5 (fun hs => ?_) (fun hs => ?_)
   ·have h8 : inB p.ch 0 ((t.length : Int) - 1) = false := by simpa using hs
    refine am rfl rfl rfl ?_
    refine am rfl rfl rfl ?_
    refine am rfl rfl rfl ?_
    refine am rfl rfl rfl ?_
    refine am rfl rfl rfl ?_
    refine am rfl rfl rfl ?_
    refine am rfl rfl rfl ?_
    refine am rfl rfl rfl ?_
    refine am rfl rfl rfl ?_
    refine am rfl rfl rfl ?_
    refine am rfl rfl rfl ?_
    refine cz ?_
    refine eg [20] (by kernel_rfl) (by simp) ?_
    refine ef ?_ ?_
    ·refine gm rfl rfl rfl ?_
     refine fb [(21, none), (22, none)] (fun i => [21, 22].contains i) 0 (rl [23]) (by kernel_rfl) ?_
     refine am rfl rfl rfl ?_
     first | refine ah rfl rfl rfl rfl (cn rfl rfl (by constructor)) ?_ | refine ah rfl rfl rfl rfl (cv rfl rfl (by constructor)) ?_ | refine ah rfl rfl rfl rfl (nt rfl rfl rfl rfl) ?_ | refine ah rfl rfl rfl rfl (nm rfl rfl rfl rfl) ?_
     refine cz ?_
     dsimp only [St.put]
     refine i3 (by kernel_rfl) ?_
     refine ⟨_, ?_, ⟨⟨rfl, rfl⟩, zF, zB, zN, zX⟩⟩
     rw [vw]
     first | (simp [h8]; done) | (simp [h8, hnl]; done)
    exact ed
   ·have h8 : inB p.ch 0 ((t.length : Int) - 1) = true := by simpa using hs
    have hn1' := h8
    simp only [inB_true] at hn1'
    obtain ⟨c, hcx⟩ : ∃ c, t[p.ch.toNat]? = some c := d8 (by omega)
    have hnl : lm t p.ch = c.lines.length := by simp [lm, hcx]
    have hll := (hl3 c (g5 hcx)).2.1
    have hch : p.ch = ((p.ch.toNat : Nat) : Int) := by omega
    first | refine ah rfl rfl rfl rfl (br rfl rfl rfl) ?_ | refine ah rfl rfl rfl rfl (cr rfl rfl) ?_
    try dsimp only [St.put]
    first | refine ai rfl rfl rfl rfl (bh rfl rfl) ?_ | refine ai rfl rfl rfl rfl (aq rfl rfl (Enc.len _)) ?_ | refine ai rfl rfl rfl rfl (aq rfl rfl rfl) ?_ | refine ai rfl rfl rfl rfl (bz rfl rfl zG (by simp) (by first | rfl | assumption)) ?_ | refine ai rfl rfl rfl rfl (ca rfl rfl zG (by simp) (by rfl)) ?_ | refine ai rfl rfl rfl rfl (cg rfl rfl zG (by simp) (by simp)) ?_ | refine ai rfl rfl rfl rfl (ax rfl rfl zG (by simp) (ci (by assumption) rfl)) ?_ | refine ai rfl rfl rfl rfl (ax rfl rfl zG (by simp) (by assumption)) ?_ | refine ai rfl rfl rfl rfl (cj rfl rfl zG (by simp) rfl (by assumption) rfl (by decide)) ?_ | refine ai rfl rfl rfl rfl (cd rfl rfl zG (by rfl)) ?_
    first | refine ah rfl rfl rfl rfl (br rfl rfl rfl) ?_ | refine ah rfl rfl rfl rfl (cr rfl rfl) ?_
    try dsimp only [St.put]
    first | refine ai rfl rfl rfl rfl (bh rfl rfl) ?_ | refine ai rfl rfl rfl rfl (aq rfl rfl (Enc.len _)) ?_ | refine ai rfl rfl rfl rfl (aq rfl rfl rfl) ?_ | refine ai rfl rfl rfl rfl (bz rfl rfl zG (by simp) (by first | rfl | assumption)) ?_ | refine ai rfl rfl rfl rfl (ca rfl rfl zG (by simp) (by rfl)) ?_ | refine ai rfl rfl rfl rfl (cg rfl rfl zG (by simp) (by simp)) ?_ | refine ai rfl rfl rfl rfl (ax rfl rfl zG (by simp) (ci (by assumption) rfl)) ?_ | refine ai rfl rfl rfl rfl (ax rfl rfl zG (by simp) (by assumption)) ?_ | refine ai rfl rfl rfl rfl (cj rfl rfl zG (by simp) rfl (by assumption) rfl (by decide)) ?_ | refine ai rfl rfl rfl rfl (cd rfl rfl zG (by rfl)) ?_
    first | refine ah rfl rfl rfl rfl (br rfl rfl rfl) ?_ | refine ah rfl rfl rfl rfl (cr rfl rfl) ?_
    try dsimp only [St.put]
    first | refine ai rfl rfl rfl rfl (bh rfl rfl) ?_ | refine ai rfl rfl rfl rfl (aq rfl rfl (Enc.len _)) ?_ | refine ai rfl rfl rfl rfl (aq rfl rfl rfl) ?_ | refine ai rfl rfl rfl rfl (bz rfl rfl zG (by simp) (by first | rfl | assumption)) ?_ | refine ai rfl rfl rfl rfl (ca rfl rfl zG (by simp) (by rfl)) ?_ | refine ai rfl rfl rfl rfl (cg rfl rfl zG (by simp) (by simp)) ?_ | refine ai rfl rfl rfl rfl (ax rfl rfl zG (by simp) (ci (by assumption) rfl)) ?_ | refine ai rfl rfl rfl rfl (ax rfl rfl zG (by simp) (by assumption)) ?_ | refine ai rfl rfl rfl rfl (cj rfl rfl zG (by simp) rfl (by assumption) rfl (by decide)) ?_ | refine ai rfl rfl rfl rfl (cd rfl rfl zG (by rfl)) ?_
    try dsimp only [St.put]
    first | refine ah rfl rfl rfl rfl (bk rfl rfl rfl rfl (bu (by assumption)) (Enc.len _)) ?_ | refine ah rfl rfl rfl rfl (bk rfl rfl rfl rfl (by assumption) rfl) ?_ | refine ah rfl rfl rfl rfl (g4 rfl rfl rfl (by first | exact g6 _ | exact rfl) (by omega)) ?_ | refine ah rfl rfl rfl rfl (bk rfl rfl rfl (by omega) (bu (by assumption)) (Enc.len _)) ?_
    first | refine ah rfl rfl rfl rfl (br rfl rfl rfl) ?_ | refine ah rfl rfl rfl rfl (cr rfl rfl) ?_
    try dsimp only [St.put]
    first | refine ai rfl rfl rfl rfl (bh rfl rfl) ?_ | refine ai rfl rfl rfl rfl (aq rfl rfl (Enc.len _)) ?_ | refine ai rfl rfl rfl rfl (aq rfl rfl rfl) ?_ | refine ai rfl rfl rfl rfl (bz rfl rfl zG (by simp) (by first | rfl | assumption)) ?_ | refine ai rfl rfl rfl rfl (ca rfl rfl zG (by simp) (by rfl)) ?_ | refine ai rfl rfl rfl rfl (cg rfl rfl zG (by simp) (by simp)) ?_ | refine ai rfl rfl rfl rfl (ax rfl rfl zG (by simp) (ci (by assumption) rfl)) ?_ | refine ai rfl rfl rfl rfl (ax rfl rfl zG (by simp) (by assumption)) ?_ | refine ai rfl rfl rfl rfl (cj rfl rfl zG (by simp) rfl (by assumption) rfl (by decide)) ?_ | refine ai rfl rfl rfl rfl (cd rfl rfl zG (by rfl)) ?_
    first | refine ah rfl rfl rfl rfl (bj rfl rfl (List.length_map _)) ?_ | refine ah rfl rfl rfl rfl (bj rfl rfl rfl) ?_ | refine ah rfl rfl rfl rfl (f7 rfl rfl) ?_ | refine ah rfl rfl rfl rfl (gd rfl rfl) ?_ | refine ah rfl rfl rfl rfl (ga rfl rfl) ?_ | refine ah rfl rfl rfl rfl (f9 rfl rfl (by omega)) ?_
    first | refine ah rfl rfl rfl rfl (ir rfl rfl rfl (by omega)) ?_ | refine ah rfl rfl rfl rfl (ru rfl rfl rfl) ?_
    refine cz ?_
    refine eg [20] (by kernel_rfl) (by simp) ?_
    refine ef ?_ ?_
    ·try dsimp only [St.put]
     refine i7 rfl rfl rfl (bl rfl rfl rfl (pd _ _ _) ?_)
     refine fb [(21, none), (22, none)] (fun i => [21, 22].contains i) 0 (rl [23]) (by kernel_rfl) ?_
     refine ah rfl rfl rfl rfl (ei rfl rfl) ?_
     first | refine ah rfl rfl rfl rfl (cn rfl rfl (by constructor)) ?_ | refine ah rfl rfl rfl rfl (cv rfl rfl (by constructor)) ?_ | refine ah rfl rfl rfl rfl (nt rfl rfl rfl rfl) ?_ | refine ah rfl rfl rfl rfl (nm rfl rfl rfl rfl) ?_
     refine cz ?_
     dsimp only [St.put]
     refine i3 (by kernel_rfl) ?_
     refine ⟨_, ?_, ⟨⟨rfl, rfl⟩, zF, zB, zN, zX⟩⟩
     rw [vw]
     first | (simp [h8]; done) | (simp [h8, hnl]; done)
    exact ed
  exact ed
 ·rintro b hst
  dsimp only at hst ⊢
  refine bd rfl (fun hc => ?_) (fun hc => ?_)
  ·have hw : ij t (p.ch, p.ln) = none := by rw [hc] at hst; simpa using hst.symm
   refine ar fun K4 hK4 => ?_
   refine aw ?_
   refine aa rfl (bf rfl (by constructor)) ?_
   refine aa rfl (bf rfl (by constructor)) ?_
   refine av ?_
   dsimp only [St.put]
   refine hK4 _ ?_
   refine bc ?_
   refine ii rfl (ep (by constructor)) (ep (by constructor)) zN zS ?_ ?_
   ·rw [hw]
    exact zW
   ·rw [hw]; exact Wk.refl _
  ·have hw0 : (ij t (p.ch, p.ln)).isSome = true := by rw [hc] at hst; simpa using hst.symm
   obtain ⟨l, hw⟩ := Option.isSome_iff_exists.1 hw0
   obtain ⟨k, n, c, hkn, hk, hn⟩ := td hw
   have hch : p.ch = ((k : Nat) : Int) := congrArg Prod.fst hkn
   have hln : p.ln = ((n : Nat) : Int) := congrArg Prod.snd hkn
   refine bi ?_
   refine hK2 _ ?_
   refine ar fun K5 hK5 => ?_
   refine g8 [(0, none), (1, none), (2, none), (3, none), (4, none), (5, none), (6, none), (7, none), (8, none), (9, none), (10, none), (11, none), (12, none)] (fun i => [].contains i) (fun i => [].contains i) (fun i => [0, 2, 4, 5, 7, 9, 11, 12].contains i) [] (by kernel_rfl) (by kernel_rfl) ?_
   first | refine ah rfl rfl rfl rfl (br rfl rfl rfl) ?_ | refine ah rfl rfl rfl rfl (cr rfl rfl) ?_
   try dsimp only [St.put]
   first | refine ai rfl rfl rfl rfl (bh rfl rfl) ?_ | refine ai rfl rfl rfl rfl (aq rfl rfl (Enc.len _)) ?_ | refine ai rfl rfl rfl rfl (aq rfl rfl rfl) ?_ | refine ai rfl rfl rfl rfl (bz rfl rfl zG (by simp) (by first | rfl | assumption)) ?_ | refine ai rfl rfl rfl rfl (ca rfl rfl zG (by simp) (by rfl)) ?_ | refine ai rfl rfl rfl rfl (cg rfl rfl zG (by simp) (by simp)) ?_ | refine ai rfl rfl rfl rfl (ax rfl rfl zG (by simp) (ci (by assumption) rfl)) ?_ | refine ai rfl rfl rfl rfl (ax rfl rfl zG (by simp) (by assumption)) ?_ | refine ai rfl rfl rfl rfl (cj rfl rfl zG (by simp) rfl (by assumption) rfl (by decide)) ?_ | refine ai rfl rfl rfl rfl (cd rfl rfl zG (by rfl)) ?_
   first | refine ah rfl rfl rfl rfl (br rfl rfl rfl) ?_ | refine ah rfl rfl rfl rfl (cr rfl rfl) ?_
   try dsimp only [St.put]
   first | refine ai rfl rfl rfl rfl (bh rfl rfl) ?_ | refine ai rfl rfl rfl rfl (aq rfl rfl (Enc.len _)) ?_ | refine ai rfl rfl rfl rfl (aq rfl rfl rfl) ?_ | refine ai rfl rfl rfl rfl (bz rfl rfl zG (by simp) (by first | rfl | assumption)) ?_ | refine ai rfl rfl rfl rfl (ca rfl rfl zG (by simp) (by rfl)) ?_ | refine ai rfl rfl rfl rfl (cg rfl rfl zG (by simp) (by simp)) ?_ | refine ai rfl rfl rfl rfl (ax rfl rfl zG (by simp) (ci (by assumption) rfl)) ?_ | refine ai rfl rfl rfl rfl (ax rfl rfl zG (by simp) (by assumption)) ?_ | refine ai rfl rfl rfl rfl (cj rfl rfl zG (by simp) rfl (by assumption) rfl (by decide)) ?_ | refine ai rfl rfl rfl rfl (cd rfl rfl zG (by rfl)) ?_
   try dsimp only [St.put]
   first | refine ah rfl rfl rfl rfl (bk rfl rfl rfl rfl (bu (by assumption)) (Enc.len _)) ?_ | refine ah rfl rfl rfl rfl (bk rfl rfl rfl rfl (by assumption) rfl) ?_ | refine ah rfl rfl rfl rfl (g4 rfl rfl rfl (by first | exact g6 _ | exact rfl) (by omega)) ?_ | refine ah rfl rfl rfl rfl (bk rfl rfl rfl (by omega) (bu (by assumption)) (Enc.len _)) ?_
   first | refine ah rfl rfl rfl rfl (br rfl rfl rfl) ?_ | refine ah rfl rfl rfl rfl (cr rfl rfl) ?_
   try dsimp only [St.put]
   first | refine ai rfl rfl rfl rfl (bh rfl rfl) ?_ | refine ai rfl rfl rfl rfl (aq rfl rfl (Enc.len _)) ?_ | refine ai rfl rfl rfl rfl (aq rfl rfl rfl) ?_ | refine ai rfl rfl rfl rfl (bz rfl rfl zG (by simp) (by first | rfl | assumption)) ?_ | refine ai rfl rfl rfl rfl (ca rfl rfl zG (by simp) (by rfl)) ?_ | refine ai rfl rfl rfl rfl (cg rfl rfl zG (by simp) (by simp)) ?_ | refine ai rfl rfl rfl rfl (ax rfl rfl zG (by simp) (ci (by assumption) rfl)) ?_ | refine ai rfl rfl rfl rfl (ax rfl rfl zG (by simp) (by assumption)) ?_ | refine ai rfl rfl rfl rfl (cj rfl rfl zG (by simp) rfl (by assumption) rfl (by decide)) ?_ | refine ai rfl rfl rfl rfl (cd rfl rfl zG (by rfl)) ?_
   first | refine ah rfl rfl rfl rfl (br rfl rfl rfl) ?_ | refine ah rfl rfl rfl rfl (cr rfl rfl) ?_
   try dsimp only [St.put]
   first | refine ai rfl rfl rfl rfl (bh rfl rfl) ?_ | refine ai rfl rfl rfl rfl (aq rfl rfl (Enc.len _)) ?_ | refine ai rfl rfl rfl rfl (aq rfl rfl rfl) ?_ | refine ai rfl rfl rfl rfl (bz rfl rfl zG (by simp) (by first | rfl | assumption)) ?_ | refine ai rfl rfl rfl rfl (ca rfl rfl zG (by simp) (by rfl)) ?_ | refine ai rfl rfl rfl rfl (cg rfl rfl zG (by simp) (by simp)) ?_ | refine ai rfl rfl rfl rfl (ax rfl rfl zG (by simp) (ci (by assumption) rfl)) ?_ | refine ai rfl rfl rfl rfl (ax rfl rfl zG (by simp) (by assumption)) ?_ | refine ai rfl rfl rfl rfl (cj rfl rfl zG (by simp) rfl (by assumption) rfl (by decide)) ?_ | refine ai rfl rfl rfl rfl (cd rfl rfl zG (by rfl)) ?_
   try dsimp only [St.put]
   first | refine ah rfl rfl rfl rfl (bk rfl rfl rfl rfl (bu (by assumption)) (Enc.len _)) ?_ | refine ah rfl rfl rfl rfl (bk rfl rfl rfl rfl (by assumption) rfl) ?_ | refine ah rfl rfl rfl rfl (g4 rfl rfl rfl (by first | exact g6 _ | exact rfl) (by omega)) ?_ | refine ah rfl rfl rfl rfl (bk rfl rfl rfl (by omega) (bu (by assumption)) (Enc.len _)) ?_
   try dsimp only [St.put]
   first | refine ai rfl rfl rfl rfl (bh rfl rfl) ?_ | refine ai rfl rfl rfl rfl (aq rfl rfl (Enc.len _)) ?_ | refine ai rfl rfl rfl rfl (aq rfl rfl rfl) ?_ | refine ai rfl rfl rfl rfl (bz rfl rfl zG (by simp) (by first | rfl | assumption)) ?_ | refine ai rfl rfl rfl rfl (ca rfl rfl zG (by simp) (by rfl)) ?_ | refine ai rfl rfl rfl rfl (cg rfl rfl zG (by simp) (by simp)) ?_ | refine ai rfl rfl rfl rfl (ax rfl rfl zG (by simp) (ci (by assumption) rfl)) ?_ | refine ai rfl rfl rfl rfl (ax rfl rfl zG (by simp) (by assumption)) ?_ | refine ai rfl rfl rfl rfl (cj rfl rfl zG (by simp) rfl (by assumption) rfl (by decide)) ?_ | refine ai rfl rfl rfl rfl (cd rfl rfl zG (by rfl)) ?_
   refine ah rfl rfl rfl rfl (bf rfl (by constructor)) ?_
   refine ah rfl rfl rfl rfl (bf rfl (by constructor)) ?_
   refine cz ?_
   dsimp only [St.put]
   refine hK5 _ ?_
   refine bc ?_
   refine ii rfl (ep (by constructor)) (ep (by constructor)) zN zS ?_ ?_
   ·rw [hw]
    exact zW
   ·rw [hw]; exact Wk.refl _
theorem ubh (t : aj) (p : PlaceD) (ht : c7 t = true) : Pure Tryz.prog 22 [gp t, val p] (.v (.bool (f5 t p))) := by
 refine di Tryz.func22 rfl (fun m => .v) fun G nx => ?_
 simp only [Tryz.ntmps22, List.length_cons, List.length_nil, Nat.reduceAdd, Nat.reduceSub]
 refine cp fun hlt => ?_
 dsimp only at hlt
 have hwl := uhn ht (p.ch, p.ln)
 refine ar fun K1 hK1 => ?_
 refine aw ?_
 try dsimp only [St.put]
 refine af rfl (ip rfl rfl (by simp) ?_)
 try dsimp only [St.put]
 refine af rfl (ip rfl rfl (by simp) ?_)
 refine aa rfl (bf rfl (by constructor)) ?_
 refine av ?_
 dsimp only [St.put]
 refine hK1 _ ?_
 refine ar fun K2 hK2 => ?_
 refine aw ?_
 try dsimp only [St.put]
 first | refine ae rfl (bh rfl rfl) ?_ | refine ae rfl (aq rfl rfl (Enc.len _)) ?_ | refine ae rfl (aq rfl rfl rfl) ?_ | refine ae rfl (bz rfl rfl zG trivial (by first | rfl | assumption)) ?_ | refine ae rfl (ca rfl rfl zG trivial (by rfl)) ?_ | refine ae rfl (cg rfl rfl zG trivial (by simp)) ?_ | refine ae rfl (ax rfl rfl zG trivial (ci (by assumption) rfl)) ?_ | refine ae rfl (ax rfl rfl zG trivial (by assumption)) ?_ | refine ae rfl (cj rfl rfl zG trivial rfl (by assumption) rfl (by decide)) ?_ | refine ae rfl (cd rfl rfl zG (by rfl)) ?_
 try dsimp only [St.put]
 first | refine ae rfl (bh rfl rfl) ?_ | refine ae rfl (aq rfl rfl (Enc.len _)) ?_ | refine ae rfl (aq rfl rfl rfl) ?_ | refine ae rfl (bz rfl rfl zG trivial (by first | rfl | assumption)) ?_ | refine ae rfl (ca rfl rfl zG trivial (by rfl)) ?_ | refine ae rfl (cg rfl rfl zG trivial (by simp)) ?_ | refine ae rfl (ax rfl rfl zG trivial (ci (by assumption) rfl)) ?_ | refine ae rfl (ax rfl rfl zG trivial (by assumption)) ?_ | refine ae rfl (cj rfl rfl zG trivial rfl (by assumption) rfl (by decide)) ?_ | refine ae rfl (cd rfl rfl zG (by rfl)) ?_
 try dsimp only [St.put]
 refine af rfl (bl rfl rfl rfl (ujv t p ht) ?_)
 refine aa rfl (ba rfl (by constructor)) ?_
 refine aa rfl (ou rfl rfl rfl) ?_
 refine aa rfl (ou rfl rfl rfl) ?_
 refine aa rfl (bf rfl (by constructor)) ?_
 refine aa rfl (bf rfl (by constructor)) ?_
 refine av ?_
 dsimp only [St.put]
 refine hK2 _ ?_
 refine ar fun K3 hK3 => ?_
 refine aw ?_
 refine aa rfl (ba rfl (by constructor)) ?_
 refine aa rfl (ba rfl (by constructor)) ?_
 refine er (fun hs => ?_) (fun hs => ?_)
 ·obtain ⟨l, hw⟩ := Option.isSome_iff_exists.1 hs
  first | refine aa rfl (br rfl rfl rfl) ?_ | refine aa rfl (cr rfl rfl) ?_
  try dsimp only [St.put]
  first | refine ae rfl (bh rfl rfl) ?_ | refine ae rfl (aq rfl rfl (Enc.len _)) ?_ | refine ae rfl (aq rfl rfl rfl) ?_ | refine ae rfl (bz rfl rfl zG trivial (by first | rfl | assumption)) ?_ | refine ae rfl (ca rfl rfl zG trivial (by rfl)) ?_ | refine ae rfl (cg rfl rfl zG trivial (by simp)) ?_ | refine ae rfl (ax rfl rfl zG trivial (ci (by assumption) rfl)) ?_ | refine ae rfl (ax rfl rfl zG trivial (by assumption)) ?_ | refine ae rfl (cj rfl rfl zG trivial rfl (by assumption) rfl (by decide)) ?_ | refine ae rfl (cd rfl rfl zG (by rfl)) ?_
  refine aa rfl (ba rfl (by constructor)) ?_
  first | refine aa rfl (bj rfl rfl (List.length_map _)) ?_ | refine aa rfl (bj rfl rfl rfl) ?_ | refine aa rfl (f7 rfl rfl) ?_ | refine aa rfl (gd rfl rfl) ?_ | refine aa rfl (ga rfl rfl) ?_ | refine aa rfl (f9 rfl rfl (by omega)) ?_
  first | refine aa rfl (ir rfl rfl rfl (by omega)) ?_ | refine aa rfl (ru rfl rfl rfl) ?_
  try dsimp only [St.put]
  refine af rfl (bl rfl rfl rfl (pd _ _ _) ?_)
  first | refine aa rfl (cn rfl rfl (by constructor)) ?_ | refine aa rfl (cv rfl rfl (by constructor)) ?_ | refine aa rfl (nt rfl rfl rfl rfl) ?_ | refine aa rfl (nm rfl rfl rfl rfl) ?_
  refine aa rfl (bf rfl (by constructor)) ?_
  refine av ?_
  dsimp only [St.put]
  refine hK3 _ ?_
  refine bc ?_
  refine bx rfl (by constructor) zN zS ?_
  exact vb (by simp [f5, hw])
 ·have hw : ij t (p.ch, p.ln) = none := by simpa using hs
  refine j1 rfl ?_
  refine j1 rfl ?_
  refine j1 rfl ?_
  refine j1 rfl ?_
  refine j1 rfl ?_
  refine j1 rfl ?_
  first | refine aa rfl (cn rfl rfl (by constructor)) ?_ | refine aa rfl (cv rfl rfl (by constructor)) ?_ | refine aa rfl (nt rfl rfl rfl rfl) ?_ | refine aa rfl (nm rfl rfl rfl rfl) ?_
  refine aa rfl (bf rfl (by constructor)) ?_
  refine av ?_
  dsimp only [St.put]
  refine hK3 _ ?_
  refine bc ?_
  refine bx rfl (by constructor) zN zS ?_
  exact vb (by simp [f5, hw])
end Go.Proofs.YtgffhbbcpgdjjaaGreatDoor
namespace Go.AB
open Go Go.RowKit
open Go.AB.Enc (cells)
open Go.PB (bg aj PlaceD bn bq bp)
end Go.AB
namespace Go.Proofs.YtgffhbbcpgdjjaaGreatDoor
set_option maxRecDepth 10000
open Go.RowKit Go.AB
open Go.AB.Enc (cells)
open Go.PB (bg aj PlaceD bn bq bp)
/-! ### Plain editions -/
end Go.Proofs.YtgffhbbcpgdjjaaGreatDoor
namespace Go.AB
open Go Go.RowKit
open Go.AB.Enc (cells)
open Go.PB (bg aj PlaceD bn bq bp)
def ot (t : aj) : C := bif c7 t then .elem [lst t] else .v (.pointer none)
theorem ulc (t : aj) (m : Nat) : (ot t).low m := by
 unfold ot
 cases c7 t
 ·exact .v
 ·exact .elem (ct (co _ _) dj)
end Go.AB
namespace Go.Proofs.YtgffhbbcpgdjjaaGreatDoor
set_option maxRecDepth 10000
open Go.RowKit Go.AB
open Go.AB.Enc (cells)
open Go.PB (bg aj PlaceD bn bq bp)
theorem ueh (t : aj) : Pure Tryz.prog 48 [gp t] (.tup [ot t, .v (.int .i64 (fw t))]) := by
 refine di Tryz.func48 rfl (fun m => .tup (ct (ulc _ _) (ct .v dj))) fun G nx => ?_
 simp only [Tryz.ntmps48, List.length_cons, List.length_nil, Nat.reduceAdd, Nat.reduceSub]
 refine cp fun hlt => ?_
 dsimp only at hlt
 refine ar fun K1 hK1 => ?_
 refine aw ?_
 try dsimp only [St.put]
 refine af rfl (ip rfl rfl (by simp) ?_)
 refine aa rfl (bf rfl (by constructor)) ?_
 refine aa rfl (bf rfl (by constructor)) ?_
 refine av ?_
 dsimp only [St.put]
 refine hK1 _ ?_
 refine ar fun K2 hK2 => ?_
 refine ar fun K3 hK3 => ?_
 refine aw ?_
 try dsimp only [St.put]
 first | refine ae rfl (bh rfl rfl) ?_ | refine ae rfl (aq rfl rfl (Enc.len _)) ?_ | refine ae rfl (aq rfl rfl rfl) ?_ | refine ae rfl (bz rfl rfl zG trivial (by first | rfl | assumption)) ?_ | refine ae rfl (ca rfl rfl zG trivial (by rfl)) ?_ | refine ae rfl (cg rfl rfl zG trivial (by simp)) ?_ | refine ae rfl (ax rfl rfl zG trivial (ci (by assumption) rfl)) ?_ | refine ae rfl (ax rfl rfl zG trivial (by assumption)) ?_ | refine ae rfl (cj rfl rfl zG trivial rfl (by assumption) rfl (by decide)) ?_ | refine ae rfl (cd rfl rfl zG (by rfl)) ?_
 try dsimp only [St.put]
 refine af rfl (bl rfl rfl rfl (uei t) ?_)
 refine aa rfl (bf rfl (by constructor)) ?_
 refine av ?_
 dsimp only [St.put]
 refine hK3 _ ?_
 refine ar fun K4 hK4 => ?_
 refine aw ?_
 refine aa rfl (ba rfl (by constructor)) ?_
 refine aa rfl (fq rfl rfl rfl) ?_
 refine av ?_
 dsimp only [St.put]
 refine hK4 _ ?_
 refine bd rfl (fun hc => ?_) (fun hc => ?_)
 ·have htx : c7 t = false := by
   cases h : c7 t
   ·rfl
   ·simp [fw, h] at hc
  refine ar fun K5 hK5 => ?_
  refine aw ?_
  refine aa rfl (ba rfl (by constructor)) ?_
  refine aa rfl (bf rfl (by constructor)) ?_
  refine aa rfl (bf rfl (by constructor)) ?_
  refine av ?_
  dsimp only [St.put]
  refine hK5 _ ?_
  refine bc ?_
  refine jk rfl (by constructor) (by constructor) zN zS ?_ ?_
  ·simp [ot, htx]
  ·rfl
 ·have htx : c7 t = true := by
   cases h : c7 t
   ·simp [fw, h] at hc
   ·rfl
  refine bi ?_
  refine hK2 _ ?_
  refine ar fun K6 hK6 => ?_
  refine aw ?_
  try dsimp only [St.put]
  first | refine ae rfl (bh rfl rfl) ?_ | refine ae rfl (aq rfl rfl (Enc.len _)) ?_ | refine ae rfl (aq rfl rfl rfl) ?_ | refine ae rfl (bz rfl rfl zG trivial (by first | rfl | assumption)) ?_ | refine ae rfl (ca rfl rfl zG trivial (by rfl)) ?_ | refine ae rfl (cg rfl rfl zG trivial (by simp)) ?_ | refine ae rfl (ax rfl rfl zG trivial (ci (by assumption) rfl)) ?_ | refine ae rfl (ax rfl rfl zG trivial (by assumption)) ?_ | refine ae rfl (cj rfl rfl zG trivial rfl (by assumption) rfl (by decide)) ?_ | refine ae rfl (cd rfl rfl zG (by rfl)) ?_
  refine aa rfl (ie rfl rfl) ?_
  try dsimp only [St.put]
  refine af rfl (ip (cs := [lst t]) rfl rfl (by simp) ?_)
  refine aa rfl (bf rfl (by constructor)) ?_
  refine aa rfl (bf rfl (by constructor)) ?_
  refine av ?_
  dsimp only [St.put]
  refine hK6 _ ?_
  refine bc ?_
  refine jk rfl (by constructor) (by constructor) zN zS ?_ ?_
  ·simp [ot, htx]
  ·exact vi (by simp [fw, htx])
/-! ### Books -/
end Go.Proofs.YtgffhbbcpgdjjaaGreatDoor
namespace Go.AB
open Go Go.RowKit
open Go.AB.Enc (cells)
open Go.PB (bg aj PlaceD bn bq bp)
end Go.AB
namespace Go.Proofs.YtgffhbbcpgdjjaaGreatDoor
set_option maxRecDepth 10000
open Go.RowKit Go.AB
open Go.AB.Enc (cells)
open Go.PB (bg aj PlaceD bn bq bp)
end Go.Proofs.YtgffhbbcpgdjjaaGreatDoor
namespace Go.AB
open Go Go.RowKit Go.Proofs
open Go.AB.Enc (cells)

/-! ### Some names alone -/
def Env.only (E : Env) (p : Nat → Bool) : Env := { E with T := fun k => if p k then E.T k else none }
theorem Env.only_of {E : Env} {p : Nat → Bool} {n : Nat} {t : Nat × Nat × Value} (h : (E.only p).T n = some t) : E.T n = some t ∧ p n = true := by
 simp only [Env.only] at h
 split at h
 ·rename_i hp; exact ⟨h, hp⟩
 ·cases h
theorem Env.only_same {E : Env} {p : Nat → Bool} {n : Nat} (h : p n = true) : (E.only p).T n = E.T n := by simp only [Env.only]; rw [if_pos h]
theorem EvR.only (E : Env) (p : Nat → Bool) {w w' : World} (hc : ∀ b i, i < E.L b → w'.cell? ⟨b, i, none⟩ = w.cell? ⟨b, i, none⟩) : EvR E w (E.only p) w' :=
 ⟨rfl, fun _ => Nat.le_refl _, hc, Nat.le_refl _, fun _ _ ver wv val ht => ⟨ver, wv, val, (Env.only_of ht).1, Nat.le_refl _, fun _ => rfl⟩⟩
theorem SimG.move {E E' : Env} {w w' : World} {G G' : Nat → Option GObj} {nx : Nat} (h : SimG E w G nx) (he : EvR E w E' w') (hnx : E'.nx = E.nx) (hsz : w.heap.size ≤ w'.heap.size) (hL : E'.L = E.L)
  (hT : ∀ n t, E'.T n = some t → E.T n = some t) (hG : ∀ n o, G' n = some o → G n = some o ∧ E'.T n = E.T n) (hh : ∀ n t b, E'.T n = some t → blk t.2.2 = some b → w'.heap[b]? = w.heap[b]?) : SimG E' w' G' nx := by
 have hB := he.B
 refine ⟨hnx.trans h.nx, fun n o ho => ?_, fun n t ht => hnx ▸ h.lt n t (hT n t ht), fun n ver wv val b h1 h2 => ?_, fun n m t t' b h1 h2 => h.ap n m t t' b (hT _ _ h1) (hT _ _ h2), fun b hb => ?_, ?_⟩
 ·obtain ⟨h1, h2⟩ := hG n o ho
  exact (h.obj n o h1).keepr he h2 fun ver wv val b h3 h4 => ⟨hh n _ b (h2.trans h3) h4, by rw [hL]⟩
 ·have := h.tb n ver wv val b (hT n _ h1) h2
  rw [hB]
  exact ⟨this.1, Nat.lt_of_lt_of_le this.2 hsz⟩
 ·rw [hL]; exact h.fresh b (Nat.le_trans hsz hb)
 ·rw [hB]; exact Nat.le_trans h.base hsz
theorem ObjOk.tags {E E' : Env} {w w' : World} {n : Nat} {o : GObj} {ver wv : Nat} {val : Value} (h : ObjOk E w n o) (ht : E.T n = some (ver, wv, val)) (h' : ObjOk E' w' n o) : ∃ val', E'.T n = some (ver, wv, val') := by
 cases o with
 | fact v c => have := h.1; rw [ht] at this; cases this; exact ⟨_, h'.1⟩
 | raw wv o => obtain ⟨b, q, _⟩ := h; obtain ⟨b', q', _⟩ := h'; rw [ht] at q; cases q; exact ⟨_, q'⟩
 | map wv ok f => obtain ⟨b, _, _, q, _⟩ := h; obtain ⟨b', _, _, q', _⟩ := h'; rw [ht] at q; cases q; exact ⟨_, q'⟩
 | box wv cs => obtain ⟨b, _, _, q, _⟩ := h; obtain ⟨b', _, _, q', _⟩ := h'; rw [ht] at q; cases q; exact ⟨_, q'⟩
 | arr v wv tt sz len cs => obtain ⟨b, _, q, _⟩ := h; obtain ⟨b', _, q', _⟩ := h'; rw [ht] at q; cases q; exact ⟨_, q'⟩
 | tip len tt sz => obtain ⟨b, _, q, _⟩ := h; obtain ⟨b', _, q', _⟩ := h'; rw [ht] at q; cases q; exact ⟨_, q'⟩

/-! ### The world behind what only reads -/
theorem um9 {w w' : World} (h1 : w'.os = w.os) (h2 : w'.tape = w.tape) (h3 : w'.output = w.output) (hd : w.drawn ≤ w'.drawn) (hh : ∀ (b : Nat) (o : Obj), w.heap[b]? = some o → w'.heap[b]? = some o) : ∃ q os, w' = Sort.grow (w.drewN q) os := by
 have hsz : w.heap.size ≤ w'.heap.size := by
  rcases Nat.eq_zero_or_pos w.heap.size with h | h
  ·omega
  ·have h4 := hh (w.heap.size - 1) _ (Array.getElem?_eq_getElem (by omega))
   have := (Array.getElem?_eq_some_iff.1 h4).1
   omega
 have e : w'.heap = w.heap ++ (w'.heap.toList.drop w.heap.size).toArray := by
  apply Array.ext_getElem?
  intro k
  rw [Array.getElem?_append]
  split
  ·rename_i hk
   rw [Array.getElem?_eq_getElem hk]
   exact hh k _ (Array.getElem?_eq_getElem hk)
  ·rename_i hk
   have e3 : (w'.heap.toList.drop w.heap.size).toArray[k - w.heap.size]? = w'.heap[k]? := by
    rw [List.getElem?_toArray, List.getElem?_drop, Array.getElem?_toList]
    congr 1
    omega
   exact e3.symm
 refine ⟨w'.drawn - w.drawn, (w'.heap.toList.drop w.heap.size).toArray, ?_⟩
 cases w with
 | mk heap tape drawn os output =>
 cases w' with
 | mk heap' tape' drawn' os' output' =>
  simp only at h1 h2 h3 hd e
  subst h1; subst h2; subst h3
  simp only [Sort.grow, World.drewN, World.mk.injEq]
  exact ⟨e, trivial, by omega, trivial, trivial⟩

theorem unp {P : Program} {g : FuncId} {cs : List C} {G : Nat → Option GObj} {nx : Nat} {r : C} (hp : PC P g cs G nx fun r' G' nx' => r' = r ∧ G' = G ∧ nx' = nx) {E : Env} {w : World} {vs : List Value} (hr : Rs E w cs vs) (hg : SimG E w G nx) :
  Calls P g vs.toArray w fun e w' => ∃ v E', e = .returned v ∧ R E' w' r v ∧ ∃ q os, w' = Sort.grow (w.drewN q) os := by
 have he : EvR E w (E.only fun n => (G n).isSome) w := EvR.only E _ fun _ _ _ => rfl
 have hg2 : SimG (E.only fun n => (G n).isSome) w G nx := hg.move he rfl (Nat.le_refl _) rfl (fun n t ht => (Env.only_of ht).1) (fun n o ho => ⟨ho, Env.only_same (by rw [ho]; rfl)⟩) (fun _ _ _ _ _ => rfl)
 refine (uon (fun e w' ⟨_, v, _, _, _, h, _⟩ => ⟨v, h⟩) (hp _ w vs (hr.evr he) hg2)).mono ?_
 rintro e w' ⟨⟨r', v, E', G', nx', rfl, hev, hrv, hg', h5, h6, h7⟩, hd⟩
 subst h5; subst h6; subst h7
 refine ⟨v, E', rfl, hrv, um9 hev.below.os hev.below.tape hev.below.output hd fun b o hb => ?_⟩
 by_cases ht : ∃ n t, (E.only fun n => (G' n).isSome).T n = some t ∧ blk t.2.2 = some b
 ·obtain ⟨n, ⟨ver, wv, val⟩, ht, hbl⟩ := ht
  obtain ⟨o', ho'⟩ := Option.isSome_iff_exists.1 (Env.only_of ht).2
  obtain ⟨val', hT'⟩ := (hg2.obj n o' ho').tags ht (hg'.obj n o' ho')
  obtain ⟨ver0, wv0, val0, q1, q2, q3⟩ := hev.T n (hg2.lt n _ ht) _ _ _ hT'
  rw [ht] at q1
  cases q1
  exact ((q3 rfl).2 rfl b hbl).trans hb
 ·exact hev.x.oth b o hb fun n t ht' hbl => ht ⟨n, t, ht', hbl⟩

/-! ### Cells that are values -/
def qj : C → Value
 | .v x => x
 | _ => undef
def Plain (cs : List C) : Prop := ∀ c ∈ cs, ∃ x, c = .v x ∧ okV x = true
theorem Plain.rs {E : Env} {w : World} {cs : List C} (h : Plain cs) : Rs E w cs (cs.map qj) := by
 refine ⟨by simp, fun j c v h1 h2 => ?_⟩
 rw [List.getElem?_map, h1] at h2
 cases h2
 obtain ⟨x, rfl, hx⟩ := h c (List.mem_of_getElem? h1)
 exact .v hx
theorem Plain.eq {E : Env} {w : World} {cs : List C} {vs : List Value} (h : Plain cs) (hr : Rs E w cs vs) : vs = cs.map qj := by
 apply List.ext_getElem?
 intro j
 rw [List.getElem?_map]
 cases hc : cs[j]? with
 | none =>
  have := List.getElem?_eq_none_iff.1 hc
  rw [List.getElem?_eq_none (by rw [hr.1]; exact this)]; rfl
 | some c =>
  have hj : j < vs.length := by rw [hr.1]; exact (List.getElem?_eq_some_iff.1 hc).1
  obtain ⟨x, rfl, hx⟩ := h c (List.mem_of_getElem? hc)
  rw [List.getElem?_eq_getElem hj, (hr.2 j _ _ hc (List.getElem?_eq_getElem hj)).v_inv]
  rfl
theorem Plain.one {cs : List C} (h : Plain cs) : ∀ v ∈ cs.map qj, v.oneCell' = true := fun v hv => by
 obtain ⟨c, hc, rfl⟩ := List.mem_map.1 hv
 obtain ⟨x, rfl, hx⟩ := h c hc
 exact udl hx

theorem unf {α : Type} [Inhabited α] (enc : α → List Value) (k : Nat) (hk : ∀ x, (enc x).length = k) (d : Array α) : (Sort.flatK enc k d).toList = (d.toList.map enc).flatten := by
 have hl : ∀ r ∈ d.toList.map enc, r.length = k := fun r hr => by
  obtain ⟨x, _, rfl⟩ := List.mem_map.1 hr
  exact hk x
 have hlen : (d.toList.map enc).flatten.length = d.size * k := by rw [mr hl, List.length_map, Array.length_toList]
 apply List.ext_getElem?
 intro t
 by_cases ht : t < d.size * k
 ·have hkp : 0 < k := Nat.pos_of_ne_zero fun e => by subst e; simp at ht
  have hq : t / k < d.size := by rw [Nat.div_lt_iff_lt_mul hkp]; exact ht
  have hm : t % k < k := Nat.mod_lt _ hkp
  have h1 : d.toList[t / k]? = some d[t / k]! := by rw [Array.getElem?_toList, Array.getElem?_eq_getElem hq, getElem!_pos d _ hq]
  have hlt2 : t % k < (enc d[t / k]!).length := by rw [hk]; exact hm
  have h2 : (enc d[t / k]!)[t % k]? = some (enc d[t / k]!)[t % k]! := by rw [List.getElem?_eq_getElem hlt2, getElem!_pos (enc d[t / k]!) (t % k) hlt2]
  have h3 := u7 hl (bu (f := enc) h1) h2
  rw [Nat.div_add_mod'] at h3
  rw [h3, Array.getElem?_toList, Array.getElem?_eq_getElem (by rw [Sort.size_flatK]; exact ht), ← getElem!_pos (Sort.flatK enc k d) t (by rw [Sort.size_flatK]; exact ht), Sort.get_flatK _ _ _ _ ht]
 ·rw [List.getElem?_eq_none (by rw [Array.length_toList, Sort.size_flatK]; omega), List.getElem?_eq_none (by omega)]

theorem uev {w : World} {g n : Nat} {os : Array Obj} {cur : Array Value} {e : TypeId} {fr : Nat × Nat} (F : Array Value) (hb : w.heap[g]? = some (.cells cur e fr)) :
  (Sort.grow (Sort.putRow id (Sort.ahead w n) g 0 F) os).heap[g]? = some (.cells (Sort.putCells id 0 F cur) e fr) := by
 have hg : g < w.heap.size := (Array.getElem?_eq_some_iff.1 hb).1
 rw [Sort.heap_grow_old _ _ (by simpa using hg)]
 simp [Sort.putRow, Sort.mapBlock, Sort.ahead, Array.getElem?_modify, hb, Sort.onCells]
theorem uak {w : World} {g n k : Nat} {os : Array Obj} (F : Array Value) (hk : k < w.heap.size) (hne : k ≠ g) : (Sort.grow (Sort.putRow id (Sort.ahead w n) g 0 F) os).heap[k]? = w.heap[k]? := by
 rw [Sort.heap_grow_old _ _ (by simpa using hk)]
 simp [Sort.putRow, Sort.mapBlock, Sort.ahead, Array.getElem?_modify, Ne.symm hne]
theorem uby (cur F : Array Value) (m : Nat) (hm : m = F.size) (h : F.size ≤ cur.size) : (Sort.putCells id 0 F cur).toList.take m = F.toList := by
 subst hm
 apply List.ext_getElem?
 intro j
 by_cases hj : j < F.size
 ·rw [List.getElem?_take_of_lt hj, Array.getElem?_toList, Array.getElem?_toList]
  simp [Sort.putCells, hj, show j < cur.size by omega]
 ·rw [List.getElem?_take_eq_none (by omega), List.getElem?_eq_none (by simp; omega)]

/-- An order of what p holds of. -/
structure Ord3 {β : Type} (p : β → Prop) (cf : β → β → Int) : Prop where
 irrefl : ∀ x, p x → ¬ cf x x < 0
 trans : ∀ x y z, p x → p y → p z → cf x y < 0 → cf y z < 0 → cf x z < 0
 ntrans : ∀ x y z, p x → p y → p z → ¬ cf x y < 0 → ¬ cf y z < 0 → ¬ cf x z < 0

/-- slices.SortFunc of what is the frame's own, by what only reads. -/
theorem ufs {β : Type} [Enc β] {P : Program} {o : Oper} {st : St} {K : St → Prop} {q : Go.Shelf.Ren} (L : SlLaysF0.n6 P q) [Ty P (q.t 24) true (Enc.n β)] {n ver wv m : Nat} {e : TypeId} {xs : List β} {cs : List C} (p : β → Prop) (cf : β → β → Int) {f g : FuncId} [Fun P g] {caps : List C} {fv s x : Operand} {ats : Array TypeId}
  (ho : o.op = .call { callee := .value fv, args := #[s, x], argTypes := ats }) (hf : evC st fv = .fn (.func f) []) (hfq : f = q.f 6) (hs : evC st s = .own n ver m) (hG : st.G n = some (.arr ver wv e (Enc.n β) m cs)) (hcs : cs = dx xs) (hm : m = xs.length) (hx : evC st x = .fn (.func g) caps)
  (hpl : ∀ y, p y → Plain (cells y)) (hxs : ∀ y ∈ xs, p y) (hlen : xs.length < 4611686018427387904)
  (hcf : ∀ a b, p a → p b → PC P g (.agg (cells a) :: .agg (cells b) :: caps) (ms st.G n) st.nx fun r G' nx' => r = .v (.int .i64 (cf a b)) ∧ G' = ms st.G n ∧ nx' = st.nx) (hO : Ord3 p cf)
  (h : ∀ ys : List β, ys.Perm xs → ys.Pairwise (fun a b => ¬ cf b a < 0) → K (St.put { st with G := ay st.G n (.arr ver (wv + 1) e (Enc.n β) m (dx ys)) } o.dst (.tup []))) : EStep P o st K := by
 subst hfq; subst hcs; subst hm
 intro E w a hsim Kr Q hq
 obtain ⟨fs, e1, hfs⟩ := (hf ▸ hsim.ev fv).fn_inv
 have hfs0 : fs = [] := List.eq_nil_of_length_eq_zero hfs.1
 subst hfs0
 obtain ⟨vs, e2, hvs⟩ := (hx ▸ hsim.ev x).fn_inv
 obtain ⟨val, us, hT, hown, hcone, hrs, hL, hsz1⟩ := hsim.g.obj n _ hG
 obtain ⟨e3, q1, ad, cap, e4, h6, h7⟩ := wu (hs ▸ hsim.ev s) hT hown
 unfold Oper.wp
 have hrun : (execOp a.eval o).run P w = .ok (.enter (q.f 6) #[a.eval s, a.eval x]) w := by
  simp only [execOp, ho, resolve, e1]
  have hcf6 := L.f6.enters rfl #[a.eval s, a.eval x] w
  simpa [Deferred.ofValue, invoke] using hcf6
 rw [hrun, e2, e4]
 -- what is changed
 have fin : ∀ (w' : World) (ys : List β), ys.Perm xs → ys.Pairwise (fun a b => ¬ cf b a < 0) → Below E.B w w' → (∀ k, k < w.heap.size → blk val ≠ some k → w'.heap[k]? = w.heap[k]?) →
   (∀ b (o : Obj), blk val = some b → w.heap[b]? = some o → ∃ o' : Obj, w'.heap[b]? = some o' ∧ o'.isCells = o.isCells) → (∃ us', w'.ownsRow E.B e (Enc.n β) val xs.length us' ∧ us' = (dx ys).map qj ∧ Plain (dx ys)) →
   Kr (a.put o.dst (.tuple #[])) w' := by
  intro w' ys hp1 hp2 hb hold hic ⟨us', how', hus, hpy⟩
  have hchg : Chg E w w' ver wv val ver (wv + 1) val 0 := ⟨hb, hold, fun b hb => .inl ⟨hb, by rw [hL b hb]; exact Nat.le_refl _⟩, fun b i hb hi => by rw [hL b hb] at hi; omega, .inr ⟨rfl, rfl, by omega⟩, hic, fun hv => absurd hv (Nat.lt_irrefl _), fun b _ hl => absurd hl (Nat.not_lt_zero _)⟩
  have hev := Ev.chg hsim.g hT hchg
  have hobj : ObjOk (E.chg n (ver, wv + 1, val) 0) w' n (.arr ver (wv + 1) e (Enc.n β) xs.length (dx ys)) :=
   ⟨val, us', by simp [Env.chg], how', fun c hc => by obtain ⟨v, rfl, _⟩ := hpy c hc; rfl, hus ▸ hpy.rs, fun b hb => by simp [Env.chg, hb], hsz1⟩
  exact hq _ _ _ _ hev ((hsim.evd hev (SimG.chg hsim.g hT hchg hobj)).put o.dst (R.undef _ _)) (h ys hp1 hp2)
 by_cases h0 : xs = []
 ·subst h0
  refine (AnyF.slices_SortFunc_none L ad cap _ w).mono ?_
  rintro e' w' ⟨rfl, rfl⟩
  refine fin w' [] List.Perm.nil List.Pairwise.nil (Below.refl _ _) (fun _ _ _ => rfl) (fun b o _ ho => ⟨o, ho, rfl⟩) ⟨us, hown, ?_, fun c hc => by simp [dx] at hc⟩
  exact List.eq_nil_of_length_eq_zero (by rw [hrs.1]; rfl)
 ·obtain ⟨y0, hy0⟩ := List.exists_mem_of_ne_nil xs h0
  letI : Inhabited { y : β // p y } := ⟨⟨y0, hxs y0 hy0⟩⟩
  have hn1 : 1 ≤ xs.length := by cases xs with | nil => exact absurd rfl h0 | cons => simp
  obtain ⟨gb, cap', cur, hval, hgB, hh, hc1, hc2, hc3, hc4⟩ : ∃ gb cap' cur, val = .slice (some ⟨gb, 0, none⟩) xs.length cap' ∧ E.B ≤ gb ∧ w.heap[gb]? = some (.cells cur e (0, 0)) ∧ xs.length ≤ cap' ∧ cap' ≤ maxLen ∧ cur.size = cap' * Enc.n β ∧ us = cur.toList.take (xs.length * Enc.n β) := by
   rcases hown.2 with ⟨_, q0⟩ | ⟨g', c', cu, q2, q3, q4, q5, q6, q7, q8⟩
   ·omega
   ·exact ⟨g', c', cu, q2, q3, q4, q5, q6, q7, q8.symm⟩
  have e5 : ad = some ⟨gb, 0, none⟩ ∧ cap = cap' := by
   have := e4.symm.trans (e3.trans hval)
   simp only [Value.slice.injEq] at this
   exact ⟨this.1, this.2.2⟩
  obtain ⟨rfl, rfl⟩ := e5
  have hgb := (Array.getElem?_eq_some_iff.1 hh).1
  have hpx : Plain (dx xs) := fun c hc => by
   obtain ⟨r, hr, hc⟩ := List.mem_flatten.1 hc
   obtain ⟨y, hy, rfl⟩ := List.mem_map.1 hr
   exact hpl y (hxs y hy) c hc
  have hus := hpx.eq hrs
  -- the row of the elements
  let enc : { y : β // p y } → List Value := fun y => (cells y.1).map qj
  have hk : ∀ y, (enc y).length = Enc.n β := fun y => by simp only [enc, List.length_map, Enc.len]
  have hfl : ∀ ds : List { y : β // p y }, (ds.map enc).flatten = (dx (ds.map (·.1))).map qj := fun ds => by
   induction ds with
   | nil => rfl
   | cons y ds ih =>
    simp only [List.map_cons, List.flatten_cons, ih]
    simp [dx, enc]
  let d : Array { y : β // p y } := (xs.attachWith p hxs).toArray
  have hd : d.toList.map (·.1) = xs := by simp [d]
  have hds : d.size = xs.length := by simp [d]
  have hF : ∀ d' : Array { y : β // p y }, (Sort.flatK enc (Enc.n β) d').toList = (dx (d'.toList.map (·.1))).map qj := fun d' => (unf enc _ hk d').trans (hfl _)
  have hcur : xs.length * Enc.n β ≤ cur.size := by rw [hc3]; exact Nat.mul_le_mul_right _ hc1
  have hH : Sort.HoldsK enc (Enc.n β) w gb 0 d := by
   intro j hj
   rw [Sort.size_flatK, hds] at hj
   have h8 : (Sort.flatK enc (Enc.n β) d).toList = us := by rw [hF, hd, hus]
   have h9 : us[j]? = some (Sort.flatK enc (Enc.n β) d)[j]! := by
    rw [← h8, Array.getElem?_toList, getElem!_pos _ j (by rw [Sort.size_flatK, hds]; exact hj), Array.getElem?_eq_getElem]
   rw [hc4, List.getElem?_take_of_lt hj, Array.getElem?_toList] at h9
   refine ⟨by rw [Nat.zero_add]; exact my hh h9, ?_⟩
   simp [World.frozen?, hh]
  have hcmp : CmpLays P g vs.toArray enc (Enc.n β) (fun a b => cf a.1 b.1) gb 0 d.size w := by
   intro mm os dk hdk y z
   have hW1 : ∀ k, k < w.heap.size → k ≠ gb → (sortWorldK enc (Enc.n β) w gb 0 mm dk os).heap[k]? = w.heap[k]? := fun k hk hne => uak _ hk hne
   have hW2 : w.heap.size ≤ (sortWorldK enc (Enc.n β) w gb 0 mm dk os).heap.size := by
    show _ ≤ (Sort.grow (Sort.putRow id (Sort.ahead w mm) gb 0 _) os).heap.size
    rw [Sort.size_grow, Sort.size_putRow]; exact Nat.le_add_right _ _
   generalize sortWorldK enc (Enc.n β) w gb 0 mm dk os = W at hW1 hW2
   have hLg : E.L gb = 0 := hL gb (by rw [hval]; rfl)
   have he : EvR E w (E.only fun k => decide (k ≠ n)) W := EvR.only E _ fun b i hi => by
    by_cases hbg : b = gb
    ·subst hbg; omega
    ·by_cases hbs : b < w.heap.size
     ·exact World.cell?_of_block (hW1 b hbs hbg)
     ·rw [hsim.g.fresh b (by omega)] at hi; omega
   have hg3 : SimG (E.only fun k => decide (k ≠ n)) W (ms st.G n) st.nx := hsim.g.move he rfl hW2 rfl (fun k t ht => (Env.only_of ht).1) (fun k o' ho' => by
    have hkn : k ≠ n := fun e => by subst e; simp [ms] at ho'
    exact ⟨(mb hkn).symm.trans ho', Env.only_same (decide_eq_true hkn)⟩) (fun k t b ht hb => by
    obtain ⟨h8, h9⟩ := Env.only_of ht
    have hkn : k ≠ n := of_decide_eq_true h9
    refine hW1 b (hsim.g.tb k _ _ _ b h8 hb).2 fun e => ?_
    subst e
    exact hsim.g.ap k n _ _ b h8 hT hkn hb (by show blk val = some b; rw [hval]; rfl))
   have hagg : ∀ y : { y : β // p y }, R (E.only fun k => decide (k ≠ n)) W (.agg (cells y.1)) (.agg (enc y).toArray) := fun y => (hpl y.1 y.2).rs.agg fun c hc => by obtain ⟨v, rfl, _⟩ := hpl y.1 y.2 c hc; rfl
   have hr3 := Rs.cons (hagg y) (Rs.cons (hagg z) (hvs.evr he))
   have hc := unp (hcf y.1 z.1 y.2 z.2) hr3 hg3
   have hargs : (#[.agg (enc y).toArray, .agg (enc z).toArray] ++ vs.toArray : Array Value) = (Value.agg (enc y).toArray :: .agg (enc z).toArray :: vs).toArray := by simp
   rw [hargs]
   refine hc.mono ?_
   rintro e' w' ⟨v, E', rfl, hv, hw⟩
   rw [hv.v_inv]
   exact ⟨rfl, hw⟩
  have hO' : Sort.SWO (ltOf fun a b : { y : β // p y } => cf a.1 b.1) := ⟨fun y => decide_eq_false (hO.irrefl _ y.2), fun y z u h8 h9 => decide_eq_true (hO.trans _ _ _ y.2 z.2 u.2 (of_decide_eq_true h8) (of_decide_eq_true h9)), fun y z u h8 h9 => decide_eq_false (hO.ntrans _ _ _ y.2 z.2 u.2 (of_decide_eq_false h8) (of_decide_eq_false h9))⟩
  have hcall := AnyQ.slices_SortFunc L (Enc.n β) (fun w => Ty.row (P := P) (w := w)) (fun w => Ty.size (P := P) (w := w)) enc hk (fun y => (hpl y.1 y.2).one) (fun a b => cf a.1 b.1) hO' g vs.toArray gb 0 cap d w (fun args w => wj args w) hcmp hH hgb (by rw [hds]; exact hlen)
  rw [hds] at hcall
  refine hcall.mono ?_
  rintro e' w' ⟨rfl, d', nn, os, hperm, hsorted, hw⟩
  have hd's : d'.size = xs.length := hperm.1.trans hds
  have hpm : d'.toList.Perm d.toList := by
   have := hperm.2.2
   rwa [← hds, Array.extract_size, hds, ← hd's, Array.extract_size] at this
  subst hw
  refine fin _ (d'.toList.map (·.1)) (hd ▸ hpm.map _) ?_ ⟨rfl, rfl, rfl, ?_, fun k hk => uak _ (Nat.lt_of_lt_of_le hk hsim.g.base) (by omega)⟩ (fun k hk hne => uak _ hk fun e => hne (by rw [e, hval]; rfl)) (fun b o hb ho => ?_) ⟨_, ⟨?_, .inr ⟨gb, cap, _, hval, hgB, uev _ hh, hc1, hc2, ?_, rfl⟩⟩, ?_, ?_⟩
  ·rw [List.pairwise_map, List.pairwise_iff_getElem]
   intro i j hi hj hij
   rw [Array.length_toList] at hi hj
   have := of_decide_eq_false (hsorted i j (Nat.zero_le _) hij (by omega))
   rw [getElem!_pos d' i hi, getElem!_pos d' j hj] at this
   simpa using this
  ·show _ ≤ (Sort.grow (Sort.putRow id (Sort.ahead w nn) gb 0 _) os).heap.size
   rw [Sort.size_grow, Sort.size_putRow]; exact Nat.le_add_right _ _
  ·rw [hval] at hb
   simp only [blk, Option.some.injEq] at hb
   subst hb
   rw [hh] at ho
   cases ho
   exact ⟨_, uev _ hh, rfl⟩
  ·rw [uby _ _ _ (by rw [Sort.size_flatK, hd's]) (by rw [Sort.size_flatK, hd's]; exact hcur), Array.length_toList, Sort.size_flatK, hd's]
  ·simp only [Sort.putCells, Array.size_mapIdx]; exact hc3
  ·rw [uby _ _ _ (by rw [Sort.size_flatK, hd's]) (by rw [Sort.size_flatK, hd's]; exact hcur)]
   exact hF d'
  ·intro c hc
   obtain ⟨r, hr, hc⟩ := List.mem_flatten.1 hc
   obtain ⟨y, hy, rfl⟩ := List.mem_map.1 hr
   obtain ⟨y', _, rfl⟩ := List.mem_map.1 hy
   exact hpl y'.1 y'.2 c hc
end Go.AB
namespace Go.AB
open Go Go.RowKit
open Go.AB.Enc (cells)
def iw (a b : Int) : Int := bif decide (a < b) then -1 else bif decide (b < a) then 1 else 0
def fj : List Int → List Int → Int
 | [], [] => 0
 | [], _ :: _ => -1
 | _ :: _, [] => 1
 | x :: a, y :: b => bif decide (iw x y = 0) then fj a b else iw x y
theorem uob {a b : Int} : iw a b < 0 ↔ a < b := by
 unfold iw
 by_cases h : a < b
 ·simp [h]
 ·by_cases h2 : b < a <;> simp [h, h2]
theorem cmpI_zero {a b : Int} : iw a b = 0 ↔ a = b := by
 unfold iw
 by_cases h : a < b
 ·simp [h]; omega
 ·by_cases h2 : b < a <;> simp [h, h2] <;> omega
/-- words of the same length, one behind the other -/
def ltW : List Int → List Int → Prop
 | x :: a, y :: b => x < y ∨ x = y ∧ ltW a b
 | _, _ => False
theorem n3 : ∀ {a b : List Int}, a.length = b.length → (fj a b < 0 ↔ ltW a b)
 | [], [], _ => by simp [fj, ltW]
 | x :: a, y :: b, h => by
  simp only [fj, ltW]
  by_cases h0 : iw x y = 0
  ·have := cmpI_zero.1 h0
   subst this
   rw [decide_eq_true h0, cond_true, n3 (by simpa using h)]
   simp
  ·have := mt cmpI_zero.2 h0
   rw [decide_eq_false h0, cond_false, uob]
   constructor
   ·exact .inl
   ·rintro (h1 | ⟨h1, _⟩)
    ·exact h1
    ·exact absurd h1 this
end Go.AB
namespace Go.Proofs.YtgffhbbcpgdjjaaGreatDoor
set_option maxRecDepth 10000
open Go.RowKit Go.AB
open Go.AB.Enc (cells)
theorem ueq (x : Int) : Pure Tryz.prog 98 [.v (.int .i64 x)] (.v (.bool false)) := by
 refine di Tryz.func98 rfl (fun m => .v) fun G nx => ?_
 simp only [Tryz.ntmps98, List.length_cons, List.length_nil, Nat.reduceAdd, Nat.reduceSub]
 refine cp fun hlt => ?_
 dsimp only at hlt
 refine ar fun K1 hK1 => ?_
 refine aw ?_
 refine aa rfl (bf rfl (by constructor)) ?_
 refine av ?_
 dsimp only [St.put]
 refine hK1 _ ?_
 refine ar fun K2 hK2 => ?_
 refine aw ?_
 refine aa rfl (ba rfl (by constructor)) ?_
 refine aa rfl (ba rfl (by constructor)) ?_
 refine aa rfl (fq rfl rfl rfl) ?_
 refine aa rfl (bf rfl (by constructor)) ?_
 refine av ?_
 dsimp only [St.put]
 refine hK2 _ ?_
 refine bc ?_
 refine bx rfl (by constructor) zN zS ?_
 exact vb (by simp)
theorem x4 (x y : Int) : Pure Tryz.prog 87 [.v (.int .i64 x), .v (.int .i64 y)] (.v (.int .i64 (iw x y))) := by
 refine di Tryz.func87 rfl (fun m => .v) fun G nx => ?_
 simp only [Tryz.ntmps87, List.length_cons, List.length_nil, Nat.reduceAdd, Nat.reduceSub]
 refine cp fun hlt => ?_
 dsimp only at hlt
 refine ar fun K1 hK1 => ?_
 refine aw ?_
 refine aa rfl (bf rfl (by constructor)) ?_
 refine av ?_
 dsimp only [St.put]
 refine hK1 _ ?_
 refine ar fun K2 hK2 => ?_
 refine aw ?_
 refine aa rfl (ba rfl (by constructor)) ?_
 try dsimp only [St.put]
 refine af rfl (bl rfl rfl rfl (ueq _) ?_)
 refine aa rfl (bf rfl (by constructor)) ?_
 refine av ?_
 dsimp only [St.put]
 refine hK2 _ ?_
 refine ar fun K3 hK3 => ?_
 refine aw ?_
 refine aa rfl (ba rfl (by constructor)) ?_
 try dsimp only [St.put]
 refine af rfl (bl rfl rfl rfl (ueq _) ?_)
 refine aa rfl (bf rfl (by constructor)) ?_
 refine av ?_
 dsimp only [St.put]
 refine hK3 _ ?_
 refine ar fun K4 hK4 => ?_
 refine ar fun K5 hK5 => ?_
 refine aw ?_
 refine aa rfl (eh (c := false) (ba rfl (by constructor)) (by rfl)) ?_
 refine av ?_
 dsimp only [St.put]
 refine hK5 _ ?_
 refine bd rfl (fun h => by cases h) (fun _ => ?_)
 refine bi ?_
 refine hK4 _ ?_
 refine ar fun K6 hK6 => ?_
 refine ar fun K7 hK7 => ?_
 refine aw ?_
 refine aa rfl (eh (c := false) (ba rfl (by constructor)) (by rfl)) ?_
 refine av ?_
 dsimp only [St.put]
 refine hK7 _ ?_
 refine bd rfl (fun h => by cases h) (fun _ => ?_)
 refine bi ?_
 refine hK6 _ ?_
 refine ar fun K8 hK8 => ?_
 refine ar fun K9 hK9 => ?_
 refine aw ?_
 refine aa rfl (ba rfl (by constructor)) ?_
 refine aa rfl (ba rfl (by constructor)) ?_
 refine aa rfl (c5 rfl rfl rfl) ?_
 refine av ?_
 dsimp only [St.put]
 refine hK9 _ ?_
 refine bd rfl (fun hc => ?_) (fun hc => ?_)
 ·have h1 := of_decide_eq_true hc
  refine ar fun K10 hK10 => ?_
  refine aw ?_
  refine aa rfl (bf rfl (by constructor)) ?_
  refine av ?_
  dsimp only [St.put]
  refine hK10 _ ?_
  refine bc ?_
  refine bx rfl (by constructor) zN zS ?_
  exact vi (by simp [iw, h1])
 ·have h1 := of_decide_eq_false hc
  refine bi ?_
  refine hK8 _ ?_
  refine ar fun K11 hK11 => ?_
  refine ar fun K12 hK12 => ?_
  refine aw ?_
  refine aa rfl (ba rfl (by constructor)) ?_
  refine aa rfl (ba rfl (by constructor)) ?_
  refine aa rfl (im rfl rfl rfl) ?_
  refine av ?_
  dsimp only [St.put]
  refine hK12 _ ?_
  refine bd rfl (fun hc => ?_) (fun hc => ?_)
  ·have h2 := of_decide_eq_true hc
   refine ar fun K13 hK13 => ?_
   refine aw ?_
   refine aa rfl (bf rfl (by constructor)) ?_
   refine av ?_
   dsimp only [St.put]
   refine hK13 _ ?_
   refine bc ?_
   refine bx rfl (by constructor) zN zS ?_
   exact vi (by have h2' : y < x := h2; simp [iw, h1, h2'])
  ·have h2 := of_decide_eq_false hc
   refine bi ?_
   refine hK11 _ ?_
   refine ar fun K14 hK14 => ?_
   refine aw ?_
   refine aa rfl (bf rfl (by constructor)) ?_
   refine av ?_
   dsimp only [St.put]
   refine hK14 _ ?_
   refine bc ?_
   refine bx rfl (by constructor) zN zS ?_
   exact vi (by have h2' : ¬ y < x := h2; simp [iw, h1, h2'])
theorem uf1 {a b : List Int} {k : Nat} {x y : Int} (hx : a[k]? = some x) (hy : b[k]? = some y) : fj (a.drop k) (b.drop k) = bif decide (iw x y = 0) then fj (a.drop (k + 1)) (b.drop (k + 1)) else iw x y := by
 obtain ⟨h1, h2⟩ := List.getElem?_eq_some_iff.1 hx
 obtain ⟨h3, h4⟩ := List.getElem?_eq_some_iff.1 hy
 rw [List.drop_eq_getElem_cons h1, List.drop_eq_getElem_cons h3, h2, h4]; rfl
theorem uoa (a b : List Int) (ha : a.length ≤ 1000) (hb : b.length ≤ 1000) : Pure Tryz.prog 76 [lst a, lst b] (.v (.int .i64 (fj a b))) := by
 refine di Tryz.func76 rfl (fun m => .v) fun G nx => ?_
 simp only [Tryz.ntmps76, List.length_cons, List.length_nil, Nat.reduceAdd, Nat.reduceSub]
 refine cp fun hlt => ?_
 dsimp only at hlt
 refine ar fun K1 hK1 => ?_
 refine aw ?_
 refine aa rfl (bf rfl (by constructor)) ?_
 refine av ?_
 dsimp only [St.put]
 refine hK1 _ ?_
 refine ar fun K2 hK2 => ?_
 refine ar fun K3 hK3 => ?_
 refine aw ?_
 refine aa rfl (ba rfl (by constructor)) ?_
 first | refine aa rfl (bj rfl rfl (List.length_map _)) ?_ | refine aa rfl (bj rfl rfl rfl) ?_ | refine aa rfl (f7 rfl rfl) ?_ | refine aa rfl (gd rfl rfl) ?_ | refine aa rfl (ga rfl rfl) ?_ | refine aa rfl (f9 rfl rfl (by omega)) ?_
 refine aa rfl (ba rfl (by constructor)) ?_
 refine av ?_
 dsimp only [St.put]
 refine hK3 _ ?_
 refine cb ?_
 refine dh 12 ?_
 refine zQ ?_
 refine du (G) zX ?_
 dsimp only
 refine dz (X := Nat) (fun k => k ≤ a.length ∧ k ≤ b.length ∧ fj a b = fj (a.drop k) (b.drop k)) (fun k => a.length - k) (fun k => [(5, .any), (6, .any), (7, .any), (8, .any), (11, .v (.int .i64 (k : Int)))]) (fun k G' => G') 0 rfl ?_ ?_ (fun _ _ h => h) ?_ ?_ ?_
 ·exact ⟨Nat.zero_le _, Nat.zero_le _, rfl⟩
 ·exact zF
 ·rintro k hI
  exact zL
 ·exact fun _ _ _ _ h => .inl h
 ·rintro k hI
  dsimp only at hI ⊢
  refine ar fun K4 hK4 => ?_
  refine aw ?_
  refine aa rfl (c5 rfl rfl rfl) ?_
  refine av ?_
  dsimp only [St.put]
  refine hK4 _ ?_
  refine ar fun K5 hK5 => ?_
  refine bd rfl (fun hc => ?_) (fun hc => ?_)
  ·replace hc := of_decide_eq_true hc
   obtain ⟨x, hx⟩ : ∃ x, a[k]? = some x := d8 (by omega)
   refine bi ?_
   refine hK5 _ ?_
   refine ar fun K6 hK6 => ?_
   refine cb ?_
   refine ar fun K7 hK7 => ?_
   refine aw ?_
   refine aa rfl (ba rfl (by constructor)) ?_
   try dsimp only [St.put]
   first | refine aa rfl (bk rfl rfl rfl rfl (bu (by assumption)) (Enc.len _)) ?_ | refine aa rfl (bk rfl rfl rfl rfl (by assumption) rfl) ?_ | refine aa rfl (g4 rfl rfl rfl (by first | exact g6 _ | exact rfl) (by omega)) ?_ | refine aa rfl (bk rfl rfl rfl (by omega) (bu (by assumption)) (Enc.len _)) ?_
   try dsimp only [St.put]
   first | refine ae rfl (bh rfl rfl) ?_ | refine ae rfl (aq rfl rfl (Enc.len _)) ?_ | refine ae rfl (aq rfl rfl rfl) ?_ | refine ae rfl (bz rfl rfl zG trivial (by first | rfl | assumption)) ?_ | refine ae rfl (ca rfl rfl zG trivial (by rfl)) ?_ | refine ae rfl (cg rfl rfl zG trivial (by simp)) ?_ | refine ae rfl (ax rfl rfl zG trivial (ci (by assumption) rfl)) ?_ | refine ae rfl (ax rfl rfl zG trivial (by assumption)) ?_ | refine ae rfl (cj rfl rfl zG trivial rfl (by assumption) rfl (by decide)) ?_ | refine ae rfl (cd rfl rfl zG (by rfl)) ?_
   refine aa rfl (bf rfl (by constructor)) ?_
   refine aa rfl (bf rfl (by constructor)) ?_
   refine av ?_
   dsimp only [St.put]
   refine hK7 _ ?_
   refine ar fun K8 hK8 => ?_
   refine ar fun K9 hK9 => ?_
   refine aw ?_
   refine aa rfl (ba rfl (by constructor)) ?_
   refine aa rfl (ba rfl (by constructor)) ?_
   first | refine aa rfl (bj rfl rfl (List.length_map _)) ?_ | refine aa rfl (bj rfl rfl rfl) ?_ | refine aa rfl (f7 rfl rfl) ?_ | refine aa rfl (gd rfl rfl) ?_ | refine aa rfl (ga rfl rfl) ?_ | refine aa rfl (f9 rfl rfl (by omega)) ?_
   refine aa rfl (kx rfl rfl rfl) ?_
   refine av ?_
   dsimp only [St.put]
   refine hK9 _ ?_
   refine bd rfl (fun hc => ?_) (fun hc => ?_)
   ·replace hc := of_decide_eq_true hc
    refine ar fun K10 hK10 => ?_
    refine aw ?_
    refine aa rfl (bf rfl (by constructor)) ?_
    refine av ?_
    dsimp only [St.put]
    refine hK10 _ ?_
    refine bc ?_
    refine bx rfl (by constructor) zN zS ?_
    exact vi (by
     rw [hI.2.2, List.drop_of_length_le (show b.length ≤ k by omega)]
     obtain ⟨h1, h2⟩ := List.getElem?_eq_some_iff.1 hx
     rw [List.drop_eq_getElem_cons h1]; rfl)
   ·replace hc := of_decide_eq_false hc
    obtain ⟨y, hy⟩ : ∃ x, b[k]? = some x := d8 (by omega)
    refine bi ?_
    refine hK8 _ ?_
    refine ar fun K11 hK11 => ?_
    refine aw ?_
    refine aa rfl (ba rfl (by constructor)) ?_
    refine aa rfl (ba rfl (by constructor)) ?_
    try dsimp only [St.put]
    first | refine aa rfl (bk rfl rfl rfl rfl (bu (by assumption)) (Enc.len _)) ?_ | refine aa rfl (bk rfl rfl rfl rfl (by assumption) rfl) ?_ | refine aa rfl (g4 rfl rfl rfl (by first | exact g6 _ | exact rfl) (by omega)) ?_ | refine aa rfl (bk rfl rfl rfl (by omega) (bu (by assumption)) (Enc.len _)) ?_
    try dsimp only [St.put]
    first | refine ae rfl (bh rfl rfl) ?_ | refine ae rfl (aq rfl rfl (Enc.len _)) ?_ | refine ae rfl (aq rfl rfl rfl) ?_ | refine ae rfl (bz rfl rfl zG trivial (by first | rfl | assumption)) ?_ | refine ae rfl (ca rfl rfl zG trivial (by rfl)) ?_ | refine ae rfl (cg rfl rfl zG trivial (by simp)) ?_ | refine ae rfl (ax rfl rfl zG trivial (ci (by assumption) rfl)) ?_ | refine ae rfl (ax rfl rfl zG trivial (by assumption)) ?_ | refine ae rfl (cj rfl rfl zG trivial rfl (by assumption) rfl (by decide)) ?_ | refine ae rfl (cd rfl rfl zG (by rfl)) ?_
    refine aa rfl (bf rfl (by constructor)) ?_
    refine av ?_
    dsimp only [St.put]
    refine hK11 _ ?_
    refine ar fun K12 hK12 => ?_
    refine aw ?_
    refine aa rfl (ba rfl (by constructor)) ?_
    refine aa rfl (ba rfl (by constructor)) ?_
    try dsimp only [St.put]
    refine af rfl (bl rfl rfl rfl (x4 x y) ?_)
    refine aa rfl (bf rfl (by constructor)) ?_
    refine av ?_
    dsimp only [St.put]
    refine hK12 _ ?_
    refine ar fun K13 hK13 => ?_
    refine aw ?_
    refine aa rfl (ba rfl (by constructor)) ?_
    refine aa rfl (fq rfl rfl rfl) ?_
    refine av ?_
    dsimp only [St.put]
    refine hK13 _ ?_
    refine bd rfl (fun hc => ?_) (fun hc => ?_)
    ·have h1 : iw x y ≠ 0 := j8 hc
     have hst := uf1 hx hy
     rw [decide_eq_false h1] at hst
     refine ar fun K14 hK14 => ?_
     refine aw ?_
     refine aa rfl (ba rfl (by constructor)) ?_
     refine aa rfl (bf rfl (by constructor)) ?_
     refine av ?_
     dsimp only [St.put]
     refine hK14 _ ?_
     refine bc ?_
     refine bx rfl (by constructor) zN zS ?_
     exact vi (hI.2.2.trans hst).symm
    ·have h1 : iw x y = 0 := iy hc
     have hst := uf1 hx hy
     rw [decide_eq_true h1] at hst
     refine bi ?_
     refine hK6 _ ?_
     refine aw ?_
     first | refine aa rfl (cm rfl rfl rfl (by omega)) ?_ | refine aa rfl (il rfl rfl rfl) ?_
     refine aa rfl (ba rfl (by constructor)) ?_
     refine av ?_
     dsimp only [St.put]
     exact ⟨k + 1, by omega, ⟨by omega, by omega, hI.2.2.trans hst⟩, ⟨⟨rfl, rfl⟩, zF, zB, zN, zX⟩⟩
  ·replace hc := of_decide_eq_false hc
   have hdr := hI.2.2
   rw [List.drop_of_length_le (show a.length ≤ k by omega)] at hdr
   refine dq ?_
   refine hK2 _ ?_
   refine ar fun K15 hK15 => ?_
   refine ar fun K16 hK16 => ?_
   refine aw ?_
   refine aa rfl (ba rfl (by constructor)) ?_
   first | refine aa rfl (bj rfl rfl (List.length_map _)) ?_ | refine aa rfl (bj rfl rfl rfl) ?_ | refine aa rfl (f7 rfl rfl) ?_ | refine aa rfl (gd rfl rfl) ?_ | refine aa rfl (ga rfl rfl) ?_ | refine aa rfl (f9 rfl rfl (by omega)) ?_
   refine aa rfl (ba rfl (by constructor)) ?_
   first | refine aa rfl (bj rfl rfl (List.length_map _)) ?_ | refine aa rfl (bj rfl rfl rfl) ?_ | refine aa rfl (f7 rfl rfl) ?_ | refine aa rfl (gd rfl rfl) ?_ | refine aa rfl (ga rfl rfl) ?_ | refine aa rfl (f9 rfl rfl (by omega)) ?_
   refine aa rfl (c5 rfl rfl rfl) ?_
   refine av ?_
   dsimp only [St.put]
   refine hK16 _ ?_
   refine bd rfl (fun hc => ?_) (fun hc => ?_)
   ·replace hc := of_decide_eq_true hc
    refine ar fun K17 hK17 => ?_
    refine aw ?_
    refine aa rfl (bf rfl (by constructor)) ?_
    refine av ?_
    dsimp only [St.put]
    refine hK17 _ ?_
    refine bc ?_
    refine bx rfl (by constructor) zN zS ?_
    exact vi (by
     rw [hdr]
     cases hb : b.drop k with
     | nil => have := congrArg List.length hb; simp at this; omega
     | cons z l => rfl)
   ·replace hc := of_decide_eq_false hc
    refine bi ?_
    refine hK15 _ ?_
    refine ar fun K18 hK18 => ?_
    refine aw ?_
    refine aa rfl (bf rfl (by constructor)) ?_
    refine av ?_
    dsimp only [St.put]
    refine hK18 _ ?_
    refine bc ?_
    refine bx rfl (by constructor) zN zS ?_
    exact vi (by rw [hdr, List.drop_of_length_le (show b.length ≤ k by omega)]; rfl)
end Go.Proofs.YtgffhbbcpgdjjaaGreatDoor
namespace Go.AB
open Go Go.RowKit
open Go.AB.Enc (cells)
open Go.PB (bg aj PlaceD bn bq bp)
/-- so many words of a line -/
def uj (p : L2) (k : Nat) : List PlaceD := (List.range k).map fun (i : Nat) => ⟨p.1, p.2, (i : Int)⟩
theorem umb (p : L2) (k : Nat) : (uj p k).length = k := by simp [uj]
def nv (t : aj) (f : L2 → Option L2) (p : L2) : List PlaceD := bif (f p).isSome then uj p ((ij t p).getD []).length else []
def pc (t : aj) (f : L2 → Option L2) (l : List L2) : List PlaceD := (l.map (nv t f)).flatten
def m9 (t : aj) (f : L2 → Option L2) : List PlaceD := pc t f (ow t)
theorem ul9 {t : aj} (ht : c7 t = true) (f : L2 → Option L2) (p : L2) : (nv t f p).length ≤ 10 := by
 unfold nv
 cases (f p).isSome
 ·exact Nat.zero_le _
 ·rw [cond_true, umb]
  cases h : ij t p with
  | none => exact Nat.zero_le _
  | some l => have := ta ht h; simp only [Option.getD_some]; omega
theorem uhp {t : aj} (ht : c7 t = true) (f : L2 → Option L2) (l : List L2) : (pc t f l).length ≤ 10 * l.length := by
 induction l with
 | nil => exact Nat.zero_le _
 | cons p l ih =>
  have h1 := ul9 ht f p
  have : (pc t f (p :: l)).length = (nv t f p).length + (pc t f l).length := by simp [pc]
  rw [this, List.length_cons]
  omega
theorem ulz {t : aj} {f : L2 → Option L2} {q : PlaceD} : q ∈ m9 t f ↔ f5 t q = true ∧ (f (q.ch, q.ln)).isSome = true := by
 unfold m9 pc
 rw [List.mem_flatten]
 constructor
 ·rintro ⟨l, hl, hq⟩
  obtain ⟨p, hp, rfl⟩ := List.mem_map.1 hl
  obtain ⟨ws, hw⟩ := mem_lines.1 hp
  unfold nv at hq
  cases hf : (f p).isSome with
  | false => rw [hf] at hq; simp at hq
  | true =>
   rw [hf, cond_true, hw, Option.getD_some] at hq
   obtain ⟨i, hi, rfl⟩ := List.mem_map.1 hq
   rw [List.mem_range] at hi
   exact ⟨placeB_true.2 ⟨ws, hw, by dsimp only; omega, by dsimp only; omega⟩, hf⟩
 ·rintro ⟨h1, h2⟩
  obtain ⟨ws, hw, h3, h4⟩ := placeB_true.1 h1
  refine ⟨_, List.mem_map.2 ⟨(q.ch, q.ln), mem_lines.2 ⟨ws, hw⟩, rfl⟩, ?_⟩
  unfold nv
  rw [h2, cond_true, hw, Option.getD_some]
  refine List.mem_map.2 ⟨q.wd.toNat, List.mem_range.2 (by omega), ?_⟩
  have : ((q.wd.toNat : Nat) : Int) = q.wd := by omega
  rw [this]
/-- the numbers of a place -/
def dl (q : PlaceD) : List Int := [q.ch, q.ln, q.wd]
theorem umv {a b : PlaceD} (h : dl a = dl b) : a = b := by
 obtain ⟨a1, a2, a3⟩ := a
 obtain ⟨b1, b2, b3⟩ := b
 simp only [dl, List.cons.injEq, and_true] at h
 obtain ⟨rfl, rfl, rfl⟩ := h
 rfl
theorem po : ∀ a : List Int, ¬ ltW a a
 | [] => by simp [ltW]
 | x :: a => by simp only [ltW]; rintro (h | ⟨_, h⟩); omega; exact po a h
theorem r6 : ∀ {a b c : List Int}, ltW a b → ltW b c → ltW a c
 | [], _, _, h, _ => by simp [ltW] at h
 | _ :: _, [], _, h, _ => by simp [ltW] at h
 | _ :: _, _ :: _, [], _, k => by simp [ltW] at k
 | x :: a, y :: b, z :: c, h, k => by
  simp only [ltW] at h k ⊢
  rcases h with h | ⟨h1, h2⟩
  ·rcases k with k | ⟨k1, _⟩
   ·exact .inl (by omega)
   ·exact .inl (by omega)
  ·rcases k with k | ⟨k1, k2⟩
   ·exact .inl (by omega)
   ·exact .inr ⟨by omega, r6 h2 k2⟩
theorem uaa : ∀ {a b : List Int}, a.length = b.length → ¬ ltW a b → ¬ ltW b a → a = b
 | [], [], _, _, _ => rfl
 | x :: a, y :: b, hl, h, k => by
  simp only [ltW, not_or, not_and] at h k
  have hxy : x = y := by omega
  subst hxy
  rw [uaa (by simpa using hl) (h.2 rfl) (k.2 rfl)]
/-! ### What is next to something -/
end Go.AB
namespace Go.AB
open Go Go.RowKit
open Go.AB.Enc (cells)
open Go.PB (bg aj PlaceD bn bq bp)
theorem unl {α : Type} {q : α → Bool} {l : List α} {k : Nat} {x : α} (hx : l[k]? = some x) (h : ∀ y ∈ l.take k, q y = false) (hq : q x = true) : l.findIdx q = k := by
 obtain ⟨h1, h2⟩ := List.getElem?_eq_some_iff.1 hx
 rw [List.findIdx_eq h1]
 exact ⟨by rw [h2]; exact hq, fun j hj => h _ (List.mem_of_getElem? (i := j) (by rw [List.getElem?_take_of_lt hj, List.getElem?_eq_getElem (by omega)]))⟩
end Go.AB
namespace Go.Proofs.YtgffhbbcpgdjjaaGreatDoor
set_option maxRecDepth 10000
open Go.RowKit Go.AB
open Go.AB.Enc (cells)
open Go.PB (bg aj PlaceD bn bq bp)
/-! ### What is beside something -/
end Go.Proofs.YtgffhbbcpgdjjaaGreatDoor
namespace Go.AB
open Go Go.RowKit
open Go.AB.Enc (cells)
section
variable {P : Program} {o : Oper} {st : St} {K : St → Prop}
/-- Whether a slice is nil: it is not, if something is in it. -/
theorem ufw {t t' e : TypeId} [Elt P t e] {x : Operand} {rows : List (List C)} {tok : Tok} (ho : o.op = .binOp .eql t x (.const (.slice none 0 0)) t') (hx : evC st x = .list rows tok) (h : ∀ b : Bool, (rows ≠ [] → b = false) → K (st.put o.dst (.v (.bool b)))) : EStep P o st K :=
 ld fun E w a hsim => by
  have hr := hx ▸ hsim.ev x
  obtain ⟨ad, cap, _, _, hv, h1, _, _, _, _, _, h7, _⟩ := R.list_inv hr
  have q1 := Elt.spec (P := P) (t := t) (e := e)
  refine ⟨.bool ad.isNone, w, E, st.G, st.nx, .v (.bool ad.isNone), ?_, Ev.refl E w, .v rfl, hsim.g, h _ fun hne => ?_⟩
  ·have hq := run_equal_slice_nil (P := P) w t e ad rows.length cap q1
   have he2 : a.eval (.const (.slice none 0 0)) = .slice none 0 0 := rfl
   simp [execOp, ho, hv, he2, eqGuard, binOp, hq]
  ·obtain ⟨b, off, rfl, _⟩ := h7.resolve_left hne
   rfl
end
section
variable {ρ : Option Nat} {P : Program} {st : St} {Q : Exit → St → Prop}
end
end Go.AB
namespace Go.Proofs.YtgffhbbcpgdjjaaGreatDoor
open Go.Shelf
def srt_Place_ren : Go.Shelf.Ren := ⟨fun | 6 => 89 | 15 => 100 | 14 => 99 | 28 => 110 | 29 => 111 | 20 => 102 | 21 => 103 | 22 => 104 | 23 => 105 | 24 => 106 | 25 => 107 | 26 => 108 | 27 => 109 | 46 => 112 | 47 => 113 | 48 => 114 | 49 => 115 | 50 => 116 | 57 => 117 | n => n, fun | 22 => 36 | 24 => 41 | 25 => 139 | 3 => 3 | 39 => 166 | 0 => 0 | 53 => 81 | 55 => 178 | 4 => 4 | 46 => 170 | 45 => 169 | 50 => 174 | 5 => 5 | 9 => 9 | 66 => 179 | 70 => 183 | 76 => 185 | 77 => 90 | n => n, fun | n => n⟩
theorem ub7 : Go.Proofs.SlLaysF0.n6 Tryz.prog srt_Place_ren := {
 mixed := by kernel_rfl
 f6 := ⟨Tryz.f89.name, by decide, Tryz.func89.trans (congrArg some (by kernel_rfl))⟩
 f14 := ⟨Tryz.f99.name, by decide, Tryz.func99.trans (congrArg some (by kernel_rfl))⟩
 f15 := Tryz.func100.trans (congrArg some (by kernel_rfl))
 f20 := ⟨Tryz.f102.name, by decide, Tryz.func102.trans (congrArg some (by kernel_rfl))⟩
 f21 := ⟨Tryz.f103.name, by decide, Tryz.func103.trans (congrArg some (by kernel_rfl))⟩
 f22 := ⟨Tryz.f104.name, by decide, Tryz.func104.trans (congrArg some (by kernel_rfl))⟩
 f23 := ⟨Tryz.f105.name, by decide, Tryz.func105.trans (congrArg some (by kernel_rfl))⟩
 f24 := ⟨Tryz.f106.name, by decide, Tryz.func106.trans (congrArg some (by kernel_rfl))⟩
 f25 := ⟨Tryz.f107.name, by decide, Tryz.func107.trans (congrArg some (by kernel_rfl))⟩
 f26 := ⟨Tryz.f108.name, by decide, Tryz.func108.trans (congrArg some (by kernel_rfl))⟩
 f27 := ⟨Tryz.f109.name, by decide, Tryz.func109.trans (congrArg some (by kernel_rfl))⟩
 f28 := Tryz.func110.trans (congrArg some (by kernel_rfl))
 f29 := Tryz.func111.trans (congrArg some (by kernel_rfl))
 f46 := ⟨Tryz.f112.name, by decide, Tryz.func112.trans (congrArg some (by kernel_rfl))⟩
 f47 := Tryz.func113.trans (congrArg some (by kernel_rfl))
 f48 := Tryz.func114.trans (congrArg some (by kernel_rfl))
 f49 := ⟨Tryz.f115.name, by decide, Tryz.func115.trans (congrArg some (by kernel_rfl))⟩
 f50 := ⟨Tryz.f116.name, by decide, Tryz.func116.trans (congrArg some (by kernel_rfl))⟩
 f57 := ⟨Tryz.f117.name, by decide, Tryz.func117.trans (congrArg some (by kernel_rfl))⟩
 t0 := Tryz.underlying0
 a0 := Tryz.isAgg0
 z0 := Tryz.sizeOf0
 v0 := Tryz.zeroValue0
 t3 := Tryz.underlying3
 a3 := Tryz.isAgg3
 z3 := Tryz.sizeOf3
 v3 := Tryz.zeroValue3
 t4 := Tryz.underlying4
 a4 := Tryz.isAgg4
 z4 := Tryz.sizeOf4
 v4 := Tryz.zeroValue4
 t5 := Tryz.underlying5
 a5 := Tryz.isAgg5
 z5 := Tryz.sizeOf5
 v5 := Tryz.zeroValue5
 t9 := Tryz.underlying9
 a9 := Tryz.isAgg9
 z9 := Tryz.sizeOf9
 v9 := Tryz.zeroValue9
 t22 := Tryz.underlying36
 a22 := Tryz.isAgg36
 z22 := Tryz.sizeOf36
 v22 := Tryz.zeroValue36
 t25 := Tryz.underlying139
 a25 := Tryz.isAgg139
 z25 := Tryz.sizeOf139
 v25 := Tryz.zeroValue139
 t39 := Tryz.underlying166
 a39 := Tryz.isAgg166
 z39 := Tryz.sizeOf166
 v39 := Tryz.zeroValue166
 t45 := Tryz.underlying169
 a45 := Tryz.isAgg169
 z45 := Tryz.sizeOf169
 v45 := Tryz.zeroValue169
 t46 := Tryz.underlying170
 a46 := Tryz.isAgg170
 z46 := Tryz.sizeOf170
 v46 := Tryz.zeroValue170
 t50 := Tryz.underlying174
 a50 := Tryz.isAgg174
 z50 := Tryz.sizeOf174
 v50 := Tryz.zeroValue174
 t53 := Tryz.underlying81
 a53 := Tryz.isAgg81
 z53 := Tryz.sizeOf81
 v53 := Tryz.zeroValue81
 t55 := Tryz.underlying178
 a55 := Tryz.isAgg178
 z55 := Tryz.sizeOf178
 v55 := Tryz.zeroValue178
 t66 := Tryz.underlying179
 a66 := Tryz.isAgg179
 z66 := Tryz.sizeOf179
 v66 := Tryz.zeroValue179
 t70 := Tryz.underlying183
 a70 := Tryz.isAgg183
 z70 := Tryz.sizeOf183
 v70 := Tryz.zeroValue183
 t76 := Tryz.underlying185
 a76 := Tryz.isAgg185
 z76 := Tryz.sizeOf185
 v76 := Tryz.zeroValue185
 t77 := Tryz.underlying90
 a77 := Tryz.isAgg90
 z77 := Tryz.sizeOf90
 v77 := Tryz.zeroValue90 }
end Go.Proofs.YtgffhbbcpgdjjaaGreatDoor
namespace Go.AB
open Go Go.RowKit
open Go.AB.Enc (cells)
open Go.PB (bg aj PlaceD bn bq bp)
theorem udo {α : Type} [DecidableEq α] : ∀ {l m : List α}, l.Nodup → (∀ x ∈ l, x ∈ m) → l.length ≤ m.length
 | [], _, _, _ => Nat.zero_le _
 | x :: l, m, hn, hs => by
  rw [List.nodup_cons] at hn
  have h1 := hs x (List.mem_cons_self ..)
  have h2 := udo (l := l) (m := m.erase x) hn.2 fun y hy => (List.mem_erase_of_ne fun (e : y = x) => hn.1 (e ▸ hy)).2 (hs y (List.mem_cons_of_mem _ hy))
  rw [List.length_erase_of_mem h1] at h2
  have := List.length_pos_of_mem h1
  simp only [List.length_cons]
  omega
end Go.AB
namespace Go.Proofs.YtgffhbbcpgdjjaaGreatDoor
set_option maxRecDepth 10000
open Go.RowKit Go.AB
open Go.AB.Enc (cells)
open Go.PB (bg aj PlaceD bn bq bp)
end Go.Proofs.YtgffhbbcpgdjjaaGreatDoor
namespace Go.AB
open Go Go.RowKit
open Go.AB.Enc (cells)
open Go.PB (bg aj PlaceD bn bq bp)
end Go.AB
namespace Go.Proofs.YtgffhbbcpgdjjaaGreatDoor
set_option maxRecDepth 10000
open Go.RowKit Go.AB
open Go.AB.Enc (cells)
open Go.PB (bg aj PlaceD bn bq bp)
end Go.Proofs.YtgffhbbcpgdjjaaGreatDoor
namespace Go.AB
open Go Go.RowKit
open Go.AB.Enc (cells)
open Go.PB (bg aj PlaceD bn bq bp)
theorem ubr (t : aj) (f : L2 → Option L2) : (m9 t f).Pairwise fun a b => ltW (dl a) (dl b) := by
 unfold m9 pc
 rw [List.pairwise_flatten]
 constructor
 ·intro l hl
  obtain ⟨p, _, rfl⟩ := List.mem_map.1 hl
  unfold nv
  cases (f p).isSome
  ·exact List.Pairwise.nil
  rw [cond_true]
  unfold uj
  rw [List.pairwise_map]
  refine List.Pairwise.imp (fun {a b} h => ?_) List.pairwise_lt_range
  simp only [dl, ltW]
  refine .inr ⟨trivial, .inr ⟨trivial, .inl ?_⟩⟩
  omega
 rw [List.pairwise_map]
 refine List.Pairwise.imp (fun {p q} h => ?_) (ul7 t)
 intro a ha b hb
 unfold nv at ha hb
 cases hp : (f p).isSome with
 | false => rw [hp] at ha; simp at ha
 | true =>
  cases hq : (f q).isSome with
  | false => rw [hq] at hb; simp at hb
  | true =>
   rw [hp, cond_true] at ha
   rw [hq, cond_true] at hb
   obtain ⟨i, _, rfl⟩ := List.mem_map.1 ha
   obtain ⟨j, _, rfl⟩ := List.mem_map.1 hb
   simp only [dl, ltW]
   rcases h with h | ⟨h1, h2⟩
   ·exact .inl h
   exact .inr ⟨h1, .inl h2⟩
end Go.AB
namespace Go.Proofs.YtgffhbbcpgdjjaaGreatDoor
set_option maxRecDepth 10000
open Go.RowKit Go.AB
open Go.AB.Enc (cells)
open Go.PB (bg aj PlaceD bn bq bp)
end Go.Proofs.YtgffhbbcpgdjjaaGreatDoor
namespace Go.AB
open Go Go.RowKit
open Go.PB (bg aj PlaceD bn bq bp)
theorem uhm (t : aj) (f : L2 → Option L2) : (m9 t f).Nodup :=
 (ubr t f).imp fun {a b} h e => by subst e; exact po _ h
theorem uj9 {t : aj} {p : PlaceD} (ht : c7 t = true) (hp : f5 t p = true) : (0 ≤ p.ch ∧ p.ch ≤ 5) ∧ (0 ≤ p.ln ∧ p.ln ≤ 9) ∧ 0 ≤ p.wd ∧ p.wd ≤ 9 := by
 obtain ⟨l, hw, h1, h2⟩ := placeB_true.1 hp
 have hl := ta ht hw
 dsimp only at hl
 omega
end Go.AB
namespace Go.AB
open Go Go.RowKit
open Go.AB.Enc (cells)
open Go.PB (bg aj PlaceD bn bq bp)
/-- What cannot be is no state. -/
theorem vm {ρ : Option Nat} {P : Program} {c : Code} {Q : Exit → St → Prop} {st : St} {n ver wv len : Nat} {tt : TypeId} {cs : List C} (h : st.G n = some (.arr ver wv tt 0 len cs)) : AW ρ P c Q st := fun E w a hs => by
 obtain ⟨_, _, _, _, _, _, _, h1⟩ := hs.g.obj n _ h
 omega
theorem yb (t : aj) : (fl t).map (·.1) = m9 t fun _ => some (1, 1) := by
 have key : ∀ (k n : Nat) (c : bg) (l : List ByteArray), t[k]? = some c → c.lines[n]? = some l → nv t (fun _ => some (1, 1)) ((k : Int), (n : Int)) = (jd k n l).map (·.1) := fun k n c l hc hl => by
  unfold nv
  rw [yl hc hl]
  simp only [Option.isSome_some, cond_true, Option.getD_some]
  unfold uj jd
  apply List.ext_getElem?
  intro i
  rw [List.getElem?_map, List.getElem?_map, List.getElem?_mapIdx]
  by_cases hi : i < l.length
  ·rw [List.getElem?_range hi, List.getElem?_eq_getElem hi]; rfl
  ·rw [List.getElem?_eq_none (by simp; omega), List.getElem?_eq_none (by omega)]; rfl
 unfold m9 pc ow fl j9
 rw [List.map_flatten, qo, List.map_flatten, qo, List.flatten_flatten]
 congr 1
 rw [qo]
 apply List.ext_getElem?
 intro k
 rw [List.getElem?_mapIdx, List.getElem?_mapIdx]
 cases hc : t[k]? with
 | none => rfl
 | some c =>
  simp only [Option.map_some]
  congr 1
  rw [List.map_flatten, qo, qo]
  congr 1
  apply List.ext_getElem?
  intro n
  rw [List.getElem?_mapIdx, List.getElem?_mapIdx]
  cases hl : c.lines[n]? with
  | none => rfl
  | some l => simp only [Option.map_some]; rw [key k n c l hc hl]
def isP (p : PlaceD) (x : PW) : Bool := decide (x.1 = p)
/-- so many places are ahead of a place -/
def rq (t : aj) (p : PlaceD) : Nat := (fl t).findIdx (isP p)
theorem upg (t : aj) : ((fl t).map (·.1)).Nodup := by rw [yb]; exact uhm _ _
theorem allP_mem {t : aj} {p : PlaceD} : p ∈ (fl t).map (·.1) ↔ f5 t p = true := by
 rw [yb, ulz]; simp
theorem zu {t : aj} {p : PlaceD} {k : Nat} {x : PW} (hx : (fl t)[k]? = some x) (hp : x.1 = p) : rq t p = k := by
 refine unl hx (fun y hy => ?_) (by simp [isP, hp])
 obtain ⟨j, hj⟩ := List.getElem?_of_mem hy
 rw [List.getElem?_take] at hj
 split at hj
 ·rename_i hjk
  refine decide_eq_false fun e => ?_
  exact zv hj hx hjk (f := fun z : PW => z.1) (e.trans hp.symm) (upg t)
 ·cases hj
theorem w6 {t : aj} {p : PlaceD} (hp : f5 t p = true) : (m9 t fun _ => some (1, 1))[rq t p]? = some p := by
 obtain ⟨x, hx, h⟩ := List.mem_map.1 (allP_mem.2 hp)
 obtain ⟨k, hk⟩ := List.getElem?_of_mem hx
 rw [zu hk h, ← yb, List.getElem?_map, hk]
 simp [h]
theorem ulj {t : aj} {p q : PlaceD} (hp : f5 t p = true) (hq : f5 t q = true) : rq t p < rq t q ↔ ltW (dl p) (dl q) := by
 obtain ⟨a1, a2⟩ := List.getElem?_eq_some_iff.1 (w6 hp)
 obtain ⟨b1, b2⟩ := List.getElem?_eq_some_iff.1 (w6 hq)
 have hs := List.pairwise_iff_getElem.1 (ubr t fun _ => some (1, 1))
 constructor
 ·intro h
  have := hs _ _ a1 b1 h
  rwa [a2, b2] at this
 ·intro h
  rcases Nat.lt_trichotomy (rq t p) (rq t q) with h1 | h1 | h1
  ·exact h1
  ·have : p = q := by
    have e1 := w6 hp
    rw [h1, w6 hq] at e1
    exact (Option.some.inj e1).symm
   subst this
   exact absurd h (po _)
  ·have := hs _ _ b1 a1 h1
   rw [a2, b2] at this
   exact absurd (r6 h this) (po _)
theorem yc {t : aj} (ht : c7 t = true) : (fl t).length ≤ 600 := by
 have h1 : ((fl t).map (·.1)).length = (m9 t fun _ => some (1, 1)).length := by rw [yb]
 have h2 := uhp ht (fun _ => some (1, 1)) (ow t)
 have h3 := ul8 ht
 unfold m9 at h1
 rw [List.length_map] at h1
 omega
theorem upe {t : aj} (ht : c7 t = true) {x : PW} (hx : x ∈ fl t) : x.2.size ≤ 12 := by
 unfold fl at hx
 obtain ⟨l, hl, h1⟩ := List.mem_flatten.1 hx
 obtain ⟨k, hk, rfl⟩ := List.mem_mapIdx.1 hl
 unfold j9 at h1
 obtain ⟨l2, hl2, h2⟩ := List.mem_flatten.1 h1
 obtain ⟨n, hn, rfl⟩ := List.mem_mapIdx.1 hl2
 unfold jd at h2
 obtain ⟨w, hw, rfl⟩ := List.mem_mapIdx.1 h2
 simp only [c7, Bool.and_eq_true, List.all_eq_true, jl, ke, ko, inB_true] at ht
 have h3 := ((((ht.1.2 _ (List.getElem_mem hk)).2 _ (List.getElem_mem hn)).2 _ (List.getElem_mem hw)).1).2
 dsimp only
 omega
theorem ugy {t : aj} (ht : c7 t = true) : ∀ x ∈ fl t, ∀ E W, Rs E W (clP x) (encP x) := fun x hx E W => by
 have hb := uj9 ht (allP_mem.1 (List.mem_map.2 ⟨x, hx, rfl⟩))
 have hw := upe ht hx
 exact Rs.cons ((Rs.cons (.v (jh (by omega))) (Rs.cons (.v (jh (by omega))) (Rs.cons (.v (jh (by omega))) Rs.nil))).agg (by intro c hc; simp only [List.mem_cons, List.not_mem_nil, or_false] at hc; rcases hc with rfl | rfl | rfl <;> rfl)) (Rs.cons (.v (okV_str.2 (by omega))) Rs.nil)
end Go.AB
namespace Go.Proofs.YtgffhbbcpgdjjaaGreatDoor
set_option maxRecDepth 10000
open Go.RowKit Go.AB
open Go.AB.Enc (cells)
open Go.PB (bg aj PlaceD bn bq bp)
theorem uej (t : aj) (G : Nat → Option GObj) (nx : Nat) : PC Tryz.prog 49 [.elem [lst t]] G nx fun r' G' nx' => r' = .fn (.func 71) [.elem [.elem [lst t]]] ∧ G' = G ∧ nx' = nx := by
 refine ix (G) (nx) Tryz.func49 rfl (.fn (ct (.elem (ct (.elem (ct (co _ _) dj)) dj)) dj)) zN (fun hlt => zH) ?_
 simp only [Tryz.ntmps49, List.length_cons, List.length_nil, Nat.reduceAdd, Nat.reduceSub]
 refine cp fun hlt => ?_
 dsimp only at hlt
 refine ar fun K1 hK1 => ?_
 refine aw ?_
 try dsimp only [St.put]
 refine af rfl (ip rfl rfl (by simp) ?_)
 refine aa rfl (bf rfl (by constructor)) ?_
 refine av ?_
 dsimp only [St.put]
 refine hK1 _ ?_
 refine ar fun K2 hK2 => ?_
 refine aw ?_
 refine aa rfl (pk rfl rfl) ?_
 refine aa rfl (bf rfl (by constructor)) ?_
 refine av ?_
 dsimp only [St.put]
 refine hK2 _ ?_
 refine bc ?_
 refine bx rfl (by constructor) zN zS ?_
 rfl
end Go.Proofs.YtgffhbbcpgdjjaaGreatDoor
namespace Go.AB
open Go Go.RowKit
open Go.AB.Enc (cells)
open Go.PB (bg aj PlaceD bn bq bp)
/-! ### The order of words -/
/-! ### What the functions give -/
def te (t : aj) : Int := bif c7 t then ((fl t).length : Int) else 0
def nj (t : aj) (n : Int) : Int := bif c7 t then (bif inB n 0 (((fl t).length : Int) - 1) then 0 else 2) else 10
def plAt (t : aj) (n : Nat) : PlaceD := (((fl t)[n]?).map (·.1)).getD ⟨0, 0, 0⟩
def oo (t : aj) (n : Int) : PlaceD := bif decide (nj t n = 0) then plAt t n.toNat else ⟨0, 0, 0⟩
def tf (t : aj) (p : PlaceD) : ByteArray := ((ij t (p.ch, p.ln)).getD [])[p.wd.toNat]?.getD ByteArray.empty
theorem upd {t : aj} {x : PW} (hx : x ∈ fl t) : tf t x.1 = x.2 := by
 unfold fl at hx
 obtain ⟨l, hl, h1⟩ := List.mem_flatten.1 hx
 obtain ⟨k, hk, rfl⟩ := List.mem_mapIdx.1 hl
 unfold j9 at h1
 obtain ⟨l2, hl2, h2⟩ := List.mem_flatten.1 h1
 obtain ⟨n, hn, rfl⟩ := List.mem_mapIdx.1 hl2
 unfold jd at h2
 obtain ⟨w, hw, rfl⟩ := List.mem_mapIdx.1 h2
 unfold tf
 dsimp only
 rw [yl (List.getElem?_eq_getElem hk) (List.getElem?_eq_getElem hn)]
 simp [hw]
theorem ucz {t : aj} {k : Nat} {x : PW} (h : (fl t)[k]? = some x) : plAt t k = x.1 := by unfold plAt; rw [h]; rfl
end Go.AB
namespace Go.AB
open Go Go.RowKit
open Go.AB.Enc (cells)
open Go.PB (bg aj PlaceD bn bq bp)
def dn (t : aj) : List PlaceD := (fl t).map (·.1)
def i2 (t : aj) (k : Nat) (ls : List (List ByteArray)) (n : Nat) : List PlaceD := dn (t.take k) ++ (j9 k (ls.take n)).map (·.1)
def ya (t : aj) (k : Nat) (ls : List (List ByteArray)) (n : Nat) (l : List ByteArray) (w : Nat) : List PlaceD := i2 t k ls n ++ (jd k n (l.take w)).map (·.1)
theorem upb (t : aj) (k : Nat) (ls : List (List ByteArray)) : dn (t.take k) = i2 t k ls 0 := by simp [i2, j9]
theorem uo9 (t : aj) (k : Nat) (ls : List (List ByteArray)) (n : Nat) (l : List ByteArray) : i2 t k ls n = ya t k ls n l 0 := by simp [ya, jd]
theorem upc {t : aj} {k n : Nat} {c : bg} (hk : t[k]? = some c) (hn : c.lines.length ≤ n) : i2 t k c.lines n = dn (t.take (k + 1)) := by
 unfold i2 dn
 rw [List.take_of_length_le hn, ubg hk, List.map_append]
theorem qc {t : aj} (ht : c7 t = true) : (dn t).length ≤ 600 := by rw [dn, List.length_map]; exact yc ht
theorem upa {t : aj} (ht : c7 t = true) {k n : Nat} {c : bg} {l : List ByteArray} (hk : t[k]? = some c) (hn : c.lines[n]? = some l) (w : Nat) : (ya t k c.lines n l w).length ≤ 600 := by
 have h1 := (ym hk hn w).length_le
 have h2 := yc ht
 simp only [List.length_append] at h1
 simp only [ya, i2, dn, List.length_append, List.length_map]
 omega
theorem ucy {t : aj} {p : PlaceD} (hp : f5 t p = true) : ∃ (k n w : Nat) (c : bg) (l : List ByteArray), p = ⟨k, n, w⟩ ∧ t[k]? = some c ∧ c.lines[n]? = some l ∧ l[w]? = some (tf t p) := by
 obtain ⟨l, hw, h1, h2⟩ := placeB_true.1 hp
 obtain ⟨k, n, c, hkn, hk, hn⟩ := td hw
 refine ⟨k, n, p.wd.toNat, c, l, ?_, hk, hn, ?_⟩
 ·have e1 : p.ch = (k : Int) := congrArg Prod.fst hkn
  have e2 : p.ln = (n : Int) := congrArg Prod.snd hkn
  obtain ⟨a, b, d⟩ := p
  dsimp only at e1 e2 h1 ⊢
  subst e1; subst e2
  rw [Int.toNat_of_nonneg h1]
 ·unfold tf
  rw [hw, Option.getD_some, List.getElem?_eq_getElem (by omega)]
  rfl
theorem ugz {t : aj} {k : Nat} {x : PW} (hx : (fl t)[k]? = some x) : f5 t x.1 = true ∧ tf t x.1 = x.2 := by
 have hm := List.mem_of_getElem? hx
 exact ⟨allP_mem.1 (List.mem_map.2 ⟨x, hm, rfl⟩), upd hm⟩
theorem ud2 {α : Type} {l : List α} {k : Nat} {x : α} {p : α → Prop} (hx : l[k]? = some x) (hp : p x) (h : ∀ y ∈ l.take k, p y) : ∀ y ∈ l.take (k + 1), p y := fun y hy => by
 rw [List.take_add_one, hx] at hy
 simp only [Option.toList_some, List.mem_append, List.mem_singleton] at hy
 rcases hy with hy | rfl
 ·exact h y hy
 ·exact hp
/-! ### A word in its place -/
end Go.AB
namespace Go.Proofs.YtgffhbbcpgdjjaaGreatDoor
set_option maxRecDepth 10000
open Go.RowKit Go.AB
open Go.AB.Enc (cells)
open Go.PB (bg aj PlaceD bn bq bp)
end Go.Proofs.YtgffhbbcpgdjjaaGreatDoor
namespace Go.AB
/-- a sum -/
def sm : Nat → (Nat → Int) → Int
 | 0, _ => 0
 | n + 1, g => sm n g + g n
theorem tn : ∀ {n : Nat} {g h : Nat → Int}, (∀ i, i < n → g i ≤ h i) → sm n g ≤ sm n h
 | 0, _, _, _ => Int.le_refl _
 | n + 1, g, h, H => by
  have h1 := tn (n := n) fun i hi => H i (by omega)
  have h2 := H n (by omega)
  simp only [sm]; omega
theorem n9 : ∀ {n : Nat} {g h : Nat → Int}, (∀ i, i < n → g i = h i) → sm n g = sm n h
 | 0, _, _, _ => rfl
 | n + 1, g, h, H => by
  have h1 := n9 (n := n) fun i hi => H i (by omega)
  have h2 := H n (by omega)
  simp only [sm]; omega
theorem ri : ∀ (n : Nat) (g h : Nat → Int), sm n (fun i => g i + h i) = sm n g + sm n h
 | 0, _, _ => rfl
 | n + 1, g, h => by have := ri n g h; simp only [sm]; omega
theorem tj : ∀ (n : Nat) (g h : Nat → Int), sm n (fun i => g i - h i) = sm n g - sm n h
 | 0, _, _ => rfl
 | n + 1, g, h => by have := tj n g h; simp only [sm]; omega
theorem v8 : ∀ n : Nat, sm n (fun _ => 0) = 0
 | 0 => rfl
 | n + 1 => by have := v8 n; simp only [sm]; omega
theorem uit {n : Nat} {g : Nat → Int} (H : ∀ i, i < n → 0 ≤ g i) : 0 ≤ sm n g := by
 have := tn (g := fun _ => 0) H
 rwa [v8] at this
theorem tm : ∀ {n k : Nat} (_ : k < n) (v : Int), sm n (fun i => bif decide (i = k) then v else 0) = v
 | 0, _, h, _ => absurd h (Nat.not_lt_zero _)
 | n + 1, k, h, v => by
  simp only [sm]
  by_cases e : n = k
  ·subst e
   rw [n9 (h := fun _ => 0) (fun i hi => by rw [decide_eq_false (by omega)]; rfl), v8, decide_eq_true rfl]
   simp
  ·rw [tm (n := n) (by omega) v, decide_eq_false e]
   simp
/-- pages, each with a first and a second reader, or one of them, or none -/
structure Net where
 nF : Nat
 nr : Nat
 np : Nat
 fr : Nat → Option Nat
 sc : Nat → Option Nat
structure Net.Ok (N : Net) : Prop where
 le : N.nF ≤ N.nr
 fr : ∀ j i, N.fr j = some i → i < N.nF
 sc : ∀ j i, N.sc j = some i → N.nF ≤ i ∧ i < N.nr
def ob (S : Nat → Bool) : Option Nat → Bool
 | none => false
 | some i => S i
def Net.hit (N : Net) (S : Nat → Bool) (j : Nat) : Bool := ob S (N.fr j) || ob S (N.sc j)
/-- who reads a page -/
def Net.by (N : Net) (j i : Nat) : Bool := decide (N.fr j = some i) || decide (N.sc j = some i)
/-- what a set of readers proves -/
def Net.f (N : Net) (R C : Nat → Int) (S : Nat → Bool) : Int := sm N.nr (fun i => bif S i then R i else 0) + sm N.np (fun j => bif N.hit S j then 0 else C j)
section
variable {N : Net} {R C : Nat → Int}
theorem Net.Ok.by_lt (h : N.Ok) {j i : Nat} (hb : N.by j i = true) : i < N.nr := by
 simp only [Net.by, Bool.or_eq_true, decide_eq_true_eq] at hb
 rcases hb with e | e
 ·have := h.fr j i e; have := h.le; omega
 ·exact (h.sc j i e).2
theorem Net.hit_iff {S : Nat → Bool} {j : Nat} : N.hit S j = true ↔ ∃ i, N.by j i = true ∧ S i = true := by
 unfold Net.hit Net.by
 constructor
 ·intro h
  rw [Bool.or_eq_true] at h
  rcases h with h | h
  ·cases e : N.fr j with
   | none => rw [e] at h; cases h
   | some i => rw [e] at h; exact ⟨i, by simp, h⟩
  ·cases e : N.sc j with
   | none => rw [e] at h; cases h
   | some i => rw [e] at h; exact ⟨i, by simp, h⟩
 ·rintro ⟨i, h1, h2⟩
  simp only [Bool.or_eq_true, decide_eq_true_eq] at h1 ⊢
  rcases h1 with e | e
  ·rw [e]; exact .inl h2
  ·rw [e]; exact .inr h2
theorem Net.f_congr (hN : N.Ok) {S S' : Nat → Bool} (h : ∀ i, i < N.nr → S i = S' i) : N.f R C S = N.f R C S' := by
 have h2 : ∀ j, N.hit S j = N.hit S' j := fun j => by
  rw [Bool.eq_iff_iff, Net.hit_iff, Net.hit_iff]
  exact ⟨fun ⟨i, q1, q2⟩ => ⟨i, q1, (h i (hN.by_lt q1)) ▸ q2⟩, fun ⟨i, q1, q2⟩ => ⟨i, q1, (h i (hN.by_lt q1)).symm ▸ q2⟩⟩
 have e1 : sm N.nr (fun i => bif S i then R i else 0) = sm N.nr (fun i => bif S' i then R i else 0) := n9 fun i hi => by rw [h i hi]
 have e2 : sm N.np (fun j => bif N.hit S j then 0 else C j) = sm N.np (fun j => bif N.hit S' j then 0 else C j) := n9 fun j _ => by rw [h2 j]
 unfold Net.f
 rw [e1, e2]
/-- two sets of readers, crossed -/
def mw (nF : Nat) (S T : Nat → Bool) (i : Nat) : Bool := bif decide (i < nF) then S i || T i else S i && T i
def mu (nF : Nat) (S T : Nat → Bool) (i : Nat) : Bool := bif decide (i < nF) then S i && T i else S i || T i
theorem Net.cross (hN : N.Ok) (hC : ∀ j, j < N.np → 0 ≤ C j) (S T : Nat → Bool) : N.f R C (mw N.nF S T) + N.f R C (mu N.nF S T) ≤ N.f R C S + N.f R C T := by
 have h1 : sm N.nr (fun i => bif mw N.nF S T i then R i else 0) + sm N.nr (fun i => bif mu N.nF S T i then R i else 0) = sm N.nr (fun i => bif S i then R i else 0) + sm N.nr (fun i => bif T i then R i else 0) := by
  rw [← ri, ← ri]
  refine n9 fun i _ => ?_
  unfold mw mu
  cases decide (i < N.nF) <;> cases S i <;> cases T i <;> simp
 have h2 : sm N.np (fun j => bif N.hit (mw N.nF S T) j then 0 else C j) + sm N.np (fun j => bif N.hit (mu N.nF S T) j then 0 else C j) ≤ sm N.np (fun j => bif N.hit S j then 0 else C j) + sm N.np (fun j => bif N.hit T j then 0 else C j) := by
  rw [← ri, ← ri]
  refine tn fun j hj => ?_
  have hc := hC j hj
  have e1 : ∀ U V : Nat → Bool, ob (mw N.nF U V) (N.fr j) = (ob U (N.fr j) || ob V (N.fr j)) := fun U V => by
   cases e : N.fr j with
   | none => rfl
   | some i => simp only [ob, mw, decide_eq_true (hN.fr j i e), cond_true]
  have e2 : ∀ U V : Nat → Bool, ob (mu N.nF U V) (N.fr j) = (ob U (N.fr j) && ob V (N.fr j)) := fun U V => by
   cases e : N.fr j with
   | none => rfl
   | some i => simp only [ob, mu, decide_eq_true (hN.fr j i e), cond_true]
  have e3 : ∀ U V : Nat → Bool, ob (mw N.nF U V) (N.sc j) = (ob U (N.sc j) && ob V (N.sc j)) := fun U V => by
   cases e : N.sc j with
   | none => rfl
   | some i => have := hN.sc j i e; simp only [ob, mw, decide_eq_false (show ¬ i < N.nF by omega), cond_false]
  have e4 : ∀ U V : Nat → Bool, ob (mu N.nF U V) (N.sc j) = (ob U (N.sc j) || ob V (N.sc j)) := fun U V => by
   cases e : N.sc j with
   | none => rfl
   | some i => have := hN.sc j i e; simp only [ob, mu, decide_eq_false (show ¬ i < N.nF by omega), cond_false]
  simp only [Net.hit, e1, e2, e3, e4]
  cases ob S (N.fr j) <;> cases ob T (N.fr j) <;> cases ob S (N.sc j) <;> cases ob T (N.sc j) <;> simp <;> omega
 unfold Net.f
 omega
/-- so much less for the readers of a page, and nothing more on it -/
def Net.lessR (N : Net) (R : Nat → Int) (j : Nat) (n : Int) (i : Nat) : Int := bif N.by j i then R i - n else R i
def fa (C : Nat → Int) (j k : Nat) : Int := bif decide (k = j) then 0 else C k
def cnt (S : Nat → Bool) (o : Option Nat) (n : Int) : Int := bif ob S o then n else 0
theorem Net.f_less (hN : N.Ok) {j : Nat} (hj : j < N.np) (n : Int) (S : Nat → Bool) : N.f (N.lessR R j n) (fa C j) S = N.f R C S - cnt S (N.fr j) n - cnt S (N.sc j) n - (bif N.hit S j then 0 else C j) := by
 have h1 : sm N.np (fun k => bif N.hit S k then 0 else fa C j k) = sm N.np (fun k => bif N.hit S k then 0 else C k) - (bif N.hit S j then 0 else C j) := by
  have := tm hj (bif N.hit S j then 0 else C j)
  rw [← this, ← tj]
  refine n9 fun k _ => ?_
  by_cases e : k = j
  ·subst e; simp [fa]
  ·simp [fa, e]
 have h2 : ∀ o : Option Nat, (∀ i, o = some i → i < N.nr) → sm N.nr (fun i => bif decide (o = some i) then (bif S i then n else 0) else 0) = cnt S o n := fun o ho => by
  cases o with
  | none => simp only [cnt, ob, cond_false]; rw [n9 (h := fun _ => 0) (fun i _ => by simp), v8]
  | some k =>
   have := tm (ho k rfl) (bif S k then n else 0)
   rw [n9 (h := fun i => bif decide (i = k) then (bif S k then n else 0) else 0)]
   ·exact this
   ·intro i _
    by_cases e : i = k
    ·subst e; simp
    ·simp [e, Ne.symm e]
 have h3 : sm N.nr (fun i => bif S i then N.lessR R j n i else 0) = sm N.nr (fun i => bif S i then R i else 0) - cnt S (N.fr j) n - cnt S (N.sc j) n := by
  rw [← h2 (N.fr j) (fun i e => by have := hN.fr j i e; have := hN.le; omega), ← h2 (N.sc j) (fun i e => (hN.sc j i e).2), ← tj, ← tj]
  refine n9 fun i _ => ?_
  unfold Net.lessR Net.by
  have hx : ¬ (N.fr j = some i ∧ N.sc j = some i) := fun ⟨q1, q2⟩ => by have := hN.fr j i q1; have := (hN.sc j i q2).1; omega
  by_cases q1 : N.fr j = some i
  ·have q2 : ¬ N.sc j = some i := fun q2 => hx ⟨q1, q2⟩
   cases S i <;> simp [q1, q2]
  ·by_cases q2 : N.sc j = some i
   ·cases S i <;> simp [q1, q2]
   ·cases S i <;> simp [q1, q2]
 unfold Net.f
 rw [h1, h3]
 omega
/-- the least of some numbers, as it is looked for -/
def ma (g : Nat → Int) : Nat → Int
 | 0 => g 0
 | k + 1 => min (ma g k) (g k)
theorem ud0 {g : Nat → Int} : ∀ {k s : Nat}, s < k ∨ s = 0 → ma g k ≤ g s
 | 0, s, h => by
  obtain rfl : s = 0 := by omega
  exact Int.le_refl _
 | k + 1, s, h => by
  by_cases e : s = k
  ·subst e; exact Int.min_le_right _ _
  ·have := ud0 (g := g) (k := k) (s := s) (by omega)
   exact Int.le_trans (Int.min_le_left _ _) this
theorem z7 {g : Nat → Int} : ∀ k : Nat, ∃ s, (s < k ∨ s = 0) ∧ ma g k = g s
 | 0 => ⟨0, .inr rfl, rfl⟩
 | k + 1 => by
  obtain ⟨s, h1, h2⟩ := z7 (g := g) k
  by_cases e : ma g k ≤ g k
  ·exact ⟨s, by omega, by rw [ma, Int.min_eq_left e, h2]⟩
  ·exact ⟨k, by omega, by rw [ma, Int.min_eq_right (by omega)]⟩
/-- a set as a number -/
def qa (S : Nat → Bool) : Nat → Nat
 | 0 => 0
 | n + 1 => qa S n ||| (bif S n then 2 ^ n else 0)
theorem ugc (S : Nat → Bool) : ∀ n, qa S n < 2 ^ n
 | 0 => by simp [qa]
 | n + 1 => by
  have h := ugc S n
  have h2 : 2 ^ n < 2 ^ (n + 1) := Nat.pow_lt_pow_right (by omega) (by omega)
  unfold qa
  refine Nat.or_lt_two_pow (by omega) ?_
  cases S n
  ·exact Nat.two_pow_pos _
  ·exact h2
theorem ugd (S : Nat → Bool) : ∀ n i, (qa S n).testBit i = (decide (i < n) && S i)
 | 0, i => by simp [qa]
 | n + 1, i => by
  have h := ugd S n i
  unfold qa
  rw [Nat.testBit_or, h]
  by_cases e : i = n
  ·subst e
   cases hS : S i <;> simp
  ·have e2 : decide (i < n + 1) = decide (i < n) := by rw [decide_eq_decide]; omega
   rw [e2]
   cases hS : S n
   ·simp
   ·simp only [cond_true, Nat.testBit_two_pow]
    rw [decide_eq_false (Ne.symm e), Bool.or_false]
def Net.most (N : Net) (R C : Nat → Int) : Int := ma (fun s => N.f R C fun i => s.testBit i) (2 ^ N.nr)
theorem Net.most_le (hN : N.Ok) (S : Nat → Bool) : N.most R C ≤ N.f R C S := by
 have h := ud0 (g := fun s => N.f R C fun i => s.testBit i) (k := 2 ^ N.nr) (s := qa S N.nr) (.inl (ugc S _))
 refine Int.le_trans h (Int.le_of_eq (Net.f_congr hN fun i hi => ?_))
 rw [ugd, decide_eq_true hi, Bool.true_and]
theorem Net.most_get (N : Net) (R C : Nat → Int) : ∃ S : Nat → Bool, N.most R C = N.f R C S := by
 obtain ⟨s, _, h⟩ := z7 (g := fun s => N.f R C fun i => s.testBit i) (2 ^ N.nr)
 exact ⟨fun i => s.testBit i, h⟩
def ov (n : Int) (R : Nat → Int) : Option Nat → Int
 | none => n
 | some i => min n (R i)
/-- the most on one page -/
def Net.alone (N : Net) (R C : Nat → Int) (j : Nat) : Int := ov (ov (C j) R (N.fr j)) R (N.sc j)
theorem udz {n m : Int} {o : Option Nat} : m ≤ ov n R o ↔ m ≤ n ∧ ∀ i, o = some i → m ≤ R i := by
 cases o with
 | none => simp [ov]
 | some k => simp only [ov, Int.le_min, Option.some.injEq, forall_eq']
theorem Net.le_alone {j : Nat} {m : Int} : m ≤ N.alone R C j ↔ m ≤ C j ∧ ∀ i, N.by j i = true → m ≤ R i := by
 unfold Net.alone Net.by
 rw [udz, udz]
 simp only [Bool.or_eq_true, decide_eq_true_eq]
 exact ⟨fun ⟨⟨h1, h2⟩, h3⟩ => ⟨h1, fun i hi => hi.elim (h2 i) (h3 i)⟩, fun ⟨h1, h2⟩ => ⟨⟨h1, fun i hi => h2 i (.inl hi)⟩, fun i hi => h2 i (.inr hi)⟩⟩
/-- what remains, and so much less of it -/
theorem Net.less_le (hN : N.Ok) {j : Nat} (hj : j < N.np) {n : Int} (h0 : 0 ≤ n) (hn : n ≤ C j) : n + N.most (N.lessR R j n) (fa C j) ≤ N.most R C := by
 obtain ⟨S, hS⟩ := N.most_get R C
 have h1 := Net.most_le (R := N.lessR R j n) (C := fa C j) hN S
 rw [Net.f_less hN hj] at h1
 rw [hS]
 cases e : N.hit S j
 ·rw [e] at h1
  have e2 := e
  unfold Net.hit at e2
  rw [Bool.or_eq_false_iff] at e2
  simp only [cnt, e2.1, e2.2, cond_false] at h1
  omega
 ·rw [e] at h1
  unfold Net.hit at e
  rw [Bool.or_eq_true] at e
  unfold cnt at h1
  rcases e with q | q
  ·rw [q] at h1
   cases e2 : ob S (N.sc j) <;> rw [e2] at h1 <;> simp only [cond_true, cond_false] at h1 <;> omega
  ·rw [q] at h1
   cases e2 : ob S (N.fr j) <;> rw [e2] at h1 <;> simp only [cond_true, cond_false] at h1 <;> omega
/-- of each page there is a worst number of errors -/
theorem Net.greedy (hN : N.Ok) (hR : ∀ i, i < N.nr → 0 ≤ R i) (hC : ∀ j, j < N.np → 0 ≤ C j) {j : Nat} (hj : j < N.np) : ∃ n : Int, 0 ≤ n ∧ n ≤ N.alone R C j ∧ N.most R C ≤ n + N.most (N.lessR R j n) (fa C j) := by
 -- the largest number that every set allows
 have hcj := hC j hj
 have hal : 0 ≤ N.alone R C j := Net.le_alone.2 ⟨hcj, fun i hi => hR i (hN.by_lt hi)⟩
 have key : ∀ n : Int, 0 ≤ n → n ≤ N.alone R C j → (∀ S, ob S (N.fr j) = true → ob S (N.sc j) = true → N.most R C ≤ N.f R C S - n) → (n = N.alone R C j ∨ ∃ S, ob S (N.fr j) = true ∧ ob S (N.sc j) = true ∧ N.f R C S - n = N.most R C) → N.most R C ≤ n + N.most (N.lessR R j n) (fa C j) := by
  intro n h0 h1 h2 h3
  obtain ⟨S, hS⟩ := N.most_get (N.lessR R j n) (fa C j)
  rw [hS, Net.f_less hN hj]
  have hm := Net.most_le (R := R) (C := C) hN S
  cases e1 : ob S (N.fr j) <;> cases e2 : ob S (N.sc j)
  ·have e : N.hit S j = false := by simp [Net.hit, e1, e2]
   simp only [cnt, e1, e2, e, cond_false]
   -- no reader of the page is in the set
   rcases h3 with h3 | ⟨T, t1, t2, t3⟩
   ·-- as1 much as1 can be: the page itself, or a reader
    by_cases hc : n = C j
    ·omega
    ·have h4 := (Net.le_alone.1 h1).1
     obtain ⟨i, hi, hri⟩ : ∃ i, N.by j i = true ∧ R i = n := by
      refine Classical.byContradiction fun hno => ?_
      have : n + 1 ≤ N.alone R C j := Net.le_alone.2 ⟨by omega, fun i hi => by
       have q1 := (Net.le_alone.1 h1).2 i hi
       have q2 : R i ≠ n := fun q => hno ⟨i, hi, q⟩
       omega⟩
      omega
     -- the set with that reader
     have h5 := Net.most_le (R := R) (C := C) hN (fun k => S k || decide (k = i))
     have h6 : N.f R C (fun k => S k || decide (k = i)) ≤ N.f R C S + R i - C j := by
      have g1 : sm N.nr (fun k => bif (S k || decide (k = i)) then R k else 0) ≤ sm N.nr (fun k => bif S k then R k else 0) + R i := by
       have := tm (hN.by_lt hi) (R i)
       rw [← this, ← ri]
       refine tn fun k hk => ?_
       have := hR k hk
       by_cases q : k = i
       ·subst q; cases S k <;> simp <;> omega
       ·cases S k <;> simp [q]
      have g2 : sm N.np (fun k => bif N.hit (fun k => S k || decide (k = i)) k then 0 else C k) ≤ sm N.np (fun k => bif N.hit S k then 0 else C k) - C j := by
       have := tm hj (C j)
       rw [← this, ← tj]
       refine tn fun k hk => ?_
       have hck := hC k hk
       have mono : N.hit S k = true → N.hit (fun k => S k || decide (k = i)) k = true := fun q => by
        obtain ⟨x, x1, x2⟩ := Net.hit_iff.1 q
        exact Net.hit_iff.2 ⟨x, x1, by simp [x2]⟩
       by_cases q : k = j
       ·subst q
        rw [show N.hit (fun k => S k || decide (k = i)) k = true from Net.hit_iff.2 ⟨i, hi, by simp⟩, e]
        simp
       ·rw [decide_eq_false q]
        cases q1 : N.hit S k
        ·cases N.hit (fun k => S k || decide (k = i)) k <;> simp <;> omega
        ·rw [mono q1]; simp
      unfold Net.f
      dsimp only
      omega
     omega
   ·-- crossed with a set that has both
    have hx := Net.cross (R := R) (C := fa C j) hN (fun k hk => by unfold fa; cases decide (k = j) <;> simp; exact hC k hk) S T
    have hsub : ∀ U : Nat → Bool, N.f R (fa C j) U = N.f R C U - (bif N.hit U j then 0 else C j) := fun U => by
     have := Net.f_less (R := R) (C := C) hN hj 0 U
     have e0 : N.lessR R j 0 = R := by funext i; unfold Net.lessR; cases N.by j i <;> simp
     rw [e0] at this
     rw [this]
     unfold cnt
     cases ob U (N.fr j) <;> cases ob U (N.sc j) <;> simp
    rw [hsub, hsub, hsub, hsub, e, show N.hit T j = true by simp [Net.hit, t1]] at hx
    obtain ⟨a, ha⟩ : ∃ a, N.fr j = some a := by cases q : N.fr j with
     | none => rw [q] at t1; cases t1
     | some a => exact ⟨a, rfl⟩
    obtain ⟨b, hb⟩ : ∃ b, N.sc j = some b := by cases q : N.sc j with
     | none => rw [q] at t2; cases t2
     | some b => exact ⟨b, rfl⟩
    rw [ha] at t1
    rw [hb] at t2
    have hA : N.hit (mw N.nF S T) j = true := by
     simp only [Net.hit, ha, ob, mw, decide_eq_true (hN.fr j a ha), cond_true]
     rw [show T a = true from t1]; simp
    have hB : N.hit (mu N.nF S T) j = true := by
     have := hN.sc j b hb
     simp only [Net.hit, hb, ob, mu, decide_eq_false (show ¬ b < N.nF by omega), cond_false]
     rw [show T b = true from t2]; simp
    rw [hA, hB] at hx
    simp only [cond_true, cond_false] at hx
    have q1 := Net.most_le (R := R) (C := C) hN (mw N.nF S T)
    have q2 := Net.most_le (R := R) (C := C) hN (mu N.nF S T)
    omega
  ·have e : N.hit S j = true := by simp [Net.hit, e2]
   simp only [cnt, e1, e2, e, cond_false, cond_true]
   omega
  ·have e : N.hit S j = true := by simp [Net.hit, e1]
   simp only [cnt, e1, e2, e, cond_false, cond_true]
   omega
  ·have e : N.hit S j = true := by simp [Net.hit, e1]
   simp only [cnt, e1, e2, e, cond_true]
   have := h2 S e1 e2
   omega
 by_cases hb : ∀ S, ob S (N.fr j) = true → ob S (N.sc j) = true → N.most R C ≤ N.f R C S - N.alone R C j
 ·exact ⟨_, hal, Int.le_refl _, key _ hal (Int.le_refl _) hb (.inl rfl)⟩
 ·-- the r8 of those that have both
  have : ∃ m : Int, (∃ S, ob S (N.fr j) = true ∧ ob S (N.sc j) = true ∧ N.f R C S = m) ∧ ∀ S, ob S (N.fr j) = true → ob S (N.sc j) = true → m ≤ N.f R C S := by
   obtain ⟨S0, s1, s2⟩ : ∃ S, ob S (N.fr j) = true ∧ ob S (N.sc j) = true := by
    refine Classical.byContradiction fun hno => hb fun S h1 h2 => absurd ⟨S, h1, h2⟩ hno
   have hlow : ∀ S, ob S (N.fr j) = true → ob S (N.sc j) = true → N.most R C ≤ N.f R C S := fun S _ _ => Net.most_le hN S
   generalize hd : (N.f R C S0 - N.most R C).toNat = d
   induction d using Nat.strongRecOn generalizing S0 with
   | _ d ih =>
    by_cases hmin : ∀ S, ob S (N.fr j) = true → ob S (N.sc j) = true → N.f R C S0 ≤ N.f R C S
    ·exact ⟨_, ⟨S0, s1, s2, rfl⟩, hmin⟩
    ·obtain ⟨S1, hS1⟩ := Classical.not_forall.1 hmin
     obtain ⟨t1, hS2⟩ := Classical.not_imp.1 hS1
     obtain ⟨t2, hS3⟩ := Classical.not_imp.1 hS2
     have hl1 := hlow S1 t1 t2
     have hl0 := hlow S0 s1 s2
     exact ih _ (by omega) S1 t1 t2 rfl
  obtain ⟨m, ⟨S, q1, q2, q3⟩, q4⟩ := this
  have hm := Net.most_le (R := R) (C := C) hN S
  have hlt : m - N.most R C < N.alone R C j := by
   refine Classical.byContradiction fun hno => hb fun T t1 t2 => ?_
   have := q4 T t1 t2
   omega
  exact ⟨m - N.most R C, by omega, by omega, key _ (by omega) (by omega) (fun T t1 t2 => by have := q4 T t1 t2; omega) (.inr ⟨S, q1, q2, by omega⟩)⟩
end
end Go.AB
namespace Go.PB
structure ck where
 id : Int
 miss : Int
 deriving DecidableEq
structure az where
 fr : Int
 to : Int
 fst : Int
 snd : Int
 found : List PlaceD
 well : List PlaceD
 deriving DecidableEq
structure ak where
 text : aj
 firsts : List ck
 seconds : List ck
 pages : List az
 deriving DecidableEq
/-- proofs at work -/
structure dc where
 p : ak
 words : List Int
 all : List (List PlaceD)
 both : List (List PlaceD)
structure ce where
 lo : Int
 hi : Int
 deriving DecidableEq
end Go.PB
namespace Go.AB
open Go Go.RowKit
open Go.AB.Enc (cells)
open Go.PB (bg aj PlaceD bn bq bp ck az ak dc ce)
instance : Enc ck := ⟨fun x => [.v (.int .i64 x.id), .v (.int .i64 x.miss)], 2, fun _ => rfl, fun m x c h => by
 simp only [List.mem_cons, List.not_mem_nil, or_false] at h; rcases h with rfl | rfl <;> exact .v, fun x c h => by
 simp only [List.mem_cons, List.not_mem_nil, or_false] at h; rcases h with rfl | rfl <;> rfl⟩
instance : Enc ce := ⟨fun x => [.v (.int .i64 x.lo), .v (.int .i64 x.hi)], 2, fun _ => rfl, fun m x c h => by
 simp only [List.mem_cons, List.not_mem_nil, or_false] at h; rcases h with rfl | rfl <;> exact .v, fun x c h => by
 simp only [List.mem_cons, List.not_mem_nil, or_false] at h; rcases h with rfl | rfl <;> rfl⟩
instance : Enc az := ⟨fun x => [.v (.int .i64 x.fr), .v (.int .i64 x.to), .v (.int .i64 x.fst), .v (.int .i64 x.snd), lst x.found, lst x.well], 6, fun _ => rfl, fun m x c h => by
 simp only [List.mem_cons, List.not_mem_nil, or_false] at h
 rcases h with rfl | rfl | rfl | rfl | rfl | rfl
 ·exact .v
 ·exact .v
 ·exact .v
 ·exact .v
 ·exact co m _
 ·exact co m _, fun x c h => by
 simp only [List.mem_cons, List.not_mem_nil, or_false] at h; rcases h with rfl | rfl | rfl | rfl | rfl | rfl <;> rfl⟩
instance : Enc ak := ⟨fun x => [lst x.text, lst x.firsts, lst x.seconds, lst x.pages], 4, fun _ => rfl, fun m x c h => by
 simp only [List.mem_cons, List.not_mem_nil, or_false] at h
 rcases h with rfl | rfl | rfl | rfl
 ·exact co m _
 ·exact co m _
 ·exact co m _
 ·exact co m _, fun x c h => by
 simp only [List.mem_cons, List.not_mem_nil, or_false] at h; rcases h with rfl | rfl | rfl | rfl <;> rfl⟩
/-! ### Lines of a text -/
/-- the number of a chapter's first line -/
def gi (t : aj) (k : Nat) : Nat := ((t.take k).map fun c => c.lines.length).sum
theorem ub5 (t : aj) : gi t 0 = 0 := by simp [gi]
theorem ti {t : aj} {k : Nat} {c : bg} (h : t[k]? = some c) : gi t (k + 1) = gi t k + c.lines.length := by
 unfold gi
 rw [List.take_add_one, h]
 simp
def mn (t : aj) : Nat := gi t t.length
/-- the number of the line of a place -/
def qp (t : aj) (q : PlaceD) : Int := q.ln + (gi t q.ch.toNat : Int)
def em (t : aj) (x : az) (q : PlaceD) : Bool := inB (qp t q) x.fr x.to
/-! ### Valid proofs -/
def m5 (a b : PlaceD) : Bool := decide (fj (dl a) (dl b) < 0)
/-- a place of a list may stand where it does -/
def jo (t : aj) (x : az) (l : List PlaceD) (i : Nat) : Bool := match l[i]? with
 | none => true
 | some q => f5 t q && em t x q && (decide (i = 0) || match l[i - 1]? with | none => true | some a => m5 a q)
def d7 (t : aj) (x : az) (l : List PlaceD) (n : Nat) : Bool := (List.range n).all (jo t x l)
theorem ig (t : aj) (x : az) (l : List PlaceD) (n : Nat) : d7 t x l (n + 1) = (d7 t x l n && jo t x l n) := by
 unfold d7
 rw [List.range_succ, List.all_append]
 simp
def io (t : aj) (x : az) (r : Int) (l : List PlaceD) : Bool := (decide (0 ≤ r) || decide (l = [])) && d7 t x l l.length
def gy (r : ck) : Bool := inB r.id 0 9999 && inB r.miss 0 90
def jw (p : ak) : Bool := decide (p.firsts.length ≤ 3) && decide (p.seconds.length ≤ 3) && (p.firsts ++ p.seconds).all gy && decide ((p.firsts ++ p.seconds).map (·.id)).Nodup
def l8 (p : ak) (last : Int) (x : az) : Bool := decide (last < x.fr) && decide (x.fr ≤ x.to) && decide (x.to < (mn p.text : Int)) && inB x.fst (-1) ((p.firsts.length : Int) - 1) && io p.text x x.fst x.found && inB x.snd (-1) ((p.seconds.length : Int) - 1) && io p.text x x.snd x.well
/-- the last line ahead of a page -/
def iu (l : List az) : Nat → Int
 | 0 => -1
 | i + 1 => match l[i]? with | some x => x.to | none => -1
def tz (p : ak) (i : Nat) : Bool := match p.pages[i]? with
 | none => true
 | some x => l8 p (iu p.pages i) x
def ql (p : ak) (n : Nat) : Bool := (List.range n).all (tz p)
theorem uc3 (p : ak) (n : Nat) : ql p (n + 1) = (ql p n && tz p n) := by
 unfold ql
 rw [List.range_succ, List.all_append]
 simp
def gk (p : ak) : Bool := jw p && decide (p.pages.length ≤ 8) && ql p p.pages.length
def dg (p : ak) : Int := bif c7 p.text then (bif gk p then 0 else 90) else 10
/-! ### What is found on a page -/
def et (t : aj) (x : az) : List PlaceD := (dn t).filter fun q => decide (q ∈ x.found) || decide (q ∈ x.well)
def eb (t : aj) (x : az) : List PlaceD := (dn t).filter fun q => decide (q ∈ x.found) && decide (q ∈ x.well)
def fh (t : aj) (x : az) : Nat := ((dn t).filter (em t x)).length
/-! ### Bounds of readers -/
def fy (b : Bool) (x : az) : Int := bif b then x.snd else x.fst
def dp (b : Bool) (x : az) : List PlaceD := bif b then x.well else x.found
def ec (p : ak) (b : Bool) : List ck := bif b then p.seconds else p.firsts
def ez (l : List az) (g : az → Nat) : Nat := (l.map g).sum
theorem th {l : List az} {k : Nat} {x : az} {g : az → Nat} (h : l[k]? = some x) : ez (l.take (k + 1)) g = ez (l.take k) g + g x := by
 unfold ez
 rw [List.take_add_one, h]
 simp
def ib (b : Bool) (i : Int) (x : az) : Nat := bif decide (fy b x = i) then (dp b x).length else 0
def jc (t : aj) (b : Bool) (i : Int) (x : az) : Nat := bif decide (fy b x = i) then (et t x).length else 0
def lp (p : ak) (b : Bool) (i : Nat) : Int := match (ec p b)[i]? with | some r => r.miss | none => 0
def o8 (p : ak) (b : Bool) (i : Nat) : Int := 100 * (ez p.pages (ib b i) : Int) / (100 - lp p b i)
def pp (p : ak) (b : Bool) (i : Nat) : Int := o8 p b i - (ez p.pages (jc p.text b i) : Int)
/-! ### What may remain -/
def c4 (p : ak) : Nat := p.firsts.length + p.seconds.length
def dm (p : ak) (i : Nat) : Int := bif decide (i < p.firsts.length) then pp p false i else pp p true (i - p.firsts.length)
def vj (t : aj) (x : az) : Int := (fh t x : Int) - ((et t x).length : Int)
def jt (p : ak) : Bool := (List.range (c4 p)).all fun i => decide (0 ≤ dm p i)
def cw (p : ak) : Net where
 nF := p.firsts.length
 nr := c4 p
 np := p.pages.length
 fr := fun j => match p.pages[j]? with | some x => (bif decide (0 ≤ x.fst) then some x.fst.toNat else none) | none => none
 sc := fun j => match p.pages[j]? with | some x => (bif decide (0 ≤ x.snd) then some (p.firsts.length + x.snd.toNat) else none) | none => none
end Go.AB
namespace Go.AB
/-- so much on a page is the most of what loses nothing -/
structure Net.Pick (N : Net) (R C : Nat → Int) (j : Nat) (n : Int) : Prop where
 nn : 0 ≤ n
 le : n ≤ N.alone R C j
 ok : N.most R C ≤ n + N.most (N.lessR R j n) (fa C j)
 max : ∀ m, n < m → m ≤ N.alone R C j → ¬ N.most R C ≤ m + N.most (N.lessR R j m) (fa C j)
section
variable {N : Net} {R C : Nat → Int}
theorem Net.Pick.uniq {j : Nat} {n m : Int} (h : N.Pick R C j n) (k : N.Pick R C j m) : n = m := by
 rcases Int.lt_trichotomy n m with q | q | q
 ·exact absurd k.ok (h.max m q k.le)
 ·exact q
 ·exact absurd h.ok (k.max n q h.le)
theorem Net.pick_ex (hN : N.Ok) (hR : ∀ i, i < N.nr → 0 ≤ R i) (hC : ∀ j, j < N.np → 0 ≤ C j) {j : Nat} (hj : j < N.np) : ∃ n, N.Pick R C j n := by
 obtain ⟨n, h1, h2, h3⟩ := Net.greedy hN hR hC hj
 generalize hd : (N.alone R C j - n).toNat = d
 induction d using Nat.strongRecOn generalizing n with
 | _ d ih =>
  by_cases hmax : ∀ m, n < m → m ≤ N.alone R C j → ¬ N.most R C ≤ m + N.most (N.lessR R j m) (fa C j)
  ·exact ⟨n, h1, h2, h3, hmax⟩
  ·obtain ⟨m, hm⟩ := Classical.not_forall.1 hmax
   obtain ⟨q1, hm⟩ := Classical.not_imp.1 hm
   obtain ⟨q2, hm⟩ := Classical.not_imp.1 hm
   exact ih _ (by omega) m (by omega) q2 (Classical.not_not.1 hm) rfl
open Classical in
noncomputable def Net.pick (N : Net) (R C : Nat → Int) (j : Nat) : Int := if h : ∃ n, N.Pick R C j n then h.choose else 0
theorem Net.pick_spec {j : Nat} (h : ∃ n, N.Pick R C j n) : N.Pick R C j (N.pick R C j) := by
 unfold Net.pick
 rw [dif_pos h]
 exact h.choose_spec
theorem Net.pick_eq {j : Nat} {n : Int} (h : N.Pick R C j n) : N.pick R C j = n := (Net.pick_spec ⟨n, h⟩).uniq h
/-- what may remain ahead of a page, by the worst truth -/
noncomputable def Net.room (N : Net) (R C : Nat → Int) : Nat → (Nat → Int) × (Nat → Int)
 | 0 => (R, C)
 | i + 1 => (N.lessR (N.room R C i).1 i (N.pick (N.room R C i).1 (N.room R C i).2 i), fa (N.room R C i).2 i)
/-- the worst truth -/
noncomputable def Net.worst (N : Net) (R C : Nat → Int) (i : Nat) : Int := N.pick (N.room R C i).1 (N.room R C i).2 i
theorem Net.room_succ (i : Nat) : N.room R C (i + 1) = (N.lessR (N.room R C i).1 i (N.worst R C i), fa (N.room R C i).2 i) := rfl
structure Net.RoomOk (N : Net) (R C : Nat → Int) (i : Nat) : Prop where
 rnn : ∀ r, r < N.nr → 0 ≤ (N.room R C i).1 r
 cnn : ∀ j, j < N.np → 0 ≤ (N.room R C i).2 j
 all : N.most (N.room R C i).1 (N.room R C i).2 = N.most R C - sm i (N.worst R C)
 caps : ∀ j, (N.room R C i).2 j = bif decide (j < i) then 0 else C j
 rds : ∀ r, (N.room R C i).1 r = R r - sm i (fun j => bif N.by j r then N.worst R C j else 0)
theorem Net.room_ok (hN : N.Ok) (hR : ∀ i, i < N.nr → 0 ≤ R i) (hC : ∀ j, j < N.np → 0 ≤ C j) : ∀ i, i ≤ N.np → N.RoomOk R C i
 | 0, _ => ⟨hR, hC, by simp [Net.room, sm], fun j => by simp [Net.room], fun r => by simp [Net.room, sm]⟩
 | i + 1, hi => by
  have h := Net.room_ok hN hR hC i (by omega)
  have hp : N.Pick (N.room R C i).1 (N.room R C i).2 i (N.worst R C i) := Net.pick_spec (Net.pick_ex hN h.rnn h.cnn (by omega))
  have hal := Net.le_alone.1 hp.le
  have hle := Net.less_le (R := (N.room R C i).1) (C := (N.room R C i).2) hN (show i < N.np by omega) hp.nn hal.1
  have hok := hp.ok
  refine ⟨fun r hr => ?_, fun j hj => ?_, ?_, fun j => ?_, fun r => ?_⟩
  ·rw [Net.room_succ]
   show 0 ≤ N.lessR _ i _ r
   unfold Net.lessR
   cases hb : N.by i r
   ·exact h.rnn r hr
   ·have := hal.2 r hb
    simp only [cond_true]; omega
  ·rw [Net.room_succ]
   show 0 ≤ fa _ i j
   unfold fa
   cases decide (j = i)
   ·exact h.cnn j hj
   ·exact Int.le_refl _
  ·rw [Net.room_succ]
   have := h.all
   simp only [sm]
   show N.most (N.lessR _ i _) (fa _ i) = _
   omega
  ·rw [Net.room_succ]
   show fa _ i j = _
   unfold fa
   rw [h.caps j]
   by_cases e : j = i
   ·subst e; simp
   ·rw [decide_eq_false e, cond_false, show decide (j < i + 1) = decide (j < i) by rw [decide_eq_decide]; omega]
  ·rw [Net.room_succ]
   show N.lessR _ i _ r = _
   unfold Net.lessR
   rw [h.rds r]
   simp only [sm]
   cases N.by i r <;> simp <;> omega
theorem Net.worst_pick (hN : N.Ok) (hR : ∀ i, i < N.nr → 0 ≤ R i) (hC : ∀ j, j < N.np → 0 ≤ C j) {i : Nat} (hi : i < N.np) : N.Pick (N.room R C i).1 (N.room R C i).2 i (N.worst R C i) := by
 have h := Net.room_ok hN hR hC i (by omega)
 exact Net.pick_spec (Net.pick_ex hN h.rnn h.cnn hi)
end
end Go.AB
namespace Go.AB
open Go Go.RowKit
open Go.AB.Enc (cells)
open Go.PB (bg aj PlaceD bn bq bp ck az ak dc ce)
theorem sumL_sm (g : az → Nat) : ∀ l : List az, ((ez l g : Nat) : Int) = sm l.length (fun j => match l[j]? with | some x => (g x : Int) | none => 0) := by
 intro l
 have key : ∀ k, k ≤ l.length → ((ez (l.take k) g : Nat) : Int) = sm k (fun j => match l[j]? with | some x => (g x : Int) | none => 0) := by
  intro k
  induction k with
  | zero => intro _; rfl
  | succ k ih =>
   intro hk
   have hx : l[k]? = some l[k] := List.getElem?_eq_getElem (by omega)
   rw [th hx]
   simp only [sm, hx]
   have := ih (by omega)
   omega
 have := key l.length (Nat.le_refl _)
 rwa [List.take_length] at this
/-! ### What valid proofs are -/
structure gh (p : ak) : Prop where
 text : c7 p.text = true
 nf : p.firsts.length ≤ 3
 ns : p.seconds.length ≤ 3
 np : p.pages.length ≤ 8
 rd : ∀ r ∈ p.firsts ++ p.seconds, gy r = true
 page : ∀ (j : Nat) (x : az), p.pages[j]? = some x → l8 p (iu p.pages j) x = true
theorem mx {p : ak} (h : dg p = 0) : gh p ∧ gk p = true := by
 unfold dg at h
 cases ht : c7 p.text
 ·rw [ht] at h; simp at h
 ·cases hp : gk p
  ·rw [ht, hp] at h; simp at h
  ·refine ⟨?_, rfl⟩
   unfold gk jw at hp
   simp only [Bool.and_eq_true, decide_eq_true_eq] at hp
   obtain ⟨⟨⟨⟨⟨h1, h2⟩, h3⟩, _⟩, h5⟩, h6⟩ := hp
   refine ⟨ht, h1, h2, h5, fun r hr => List.all_eq_true.1 h3 r hr, fun j x hx => ?_⟩
   have hj := (List.getElem?_eq_some_iff.1 hx).1
   have := List.all_eq_true.1 h6 j (List.mem_range.2 hj)
   unfold tz at this
   rw [hx] at this
   exact this
structure me (p : ak) (last : Int) (x : az) : Prop where
 fr : last < x.fr
 to : x.fr ≤ x.to
 lt : x.to < (mn p.text : Int)
 fst : -1 ≤ x.fst ∧ x.fst ≤ (p.firsts.length : Int) - 1
 snd : -1 ≤ x.snd ∧ x.snd ≤ (p.seconds.length : Int) - 1
 found : io p.text x x.fst x.found = true
 well : io p.text x x.snd x.well = true
theorem pageB_true {p : ak} {last : Int} {x : az} : l8 p last x = true ↔ me p last x := by
 unfold l8
 simp only [Bool.and_eq_true, decide_eq_true_eq, inB_true]
 exact ⟨fun ⟨⟨⟨⟨⟨⟨h1, h2⟩, h3⟩, h4⟩, h5⟩, h6⟩, h7⟩ => ⟨h1, h2, h3, h4, h6, h5, h7⟩, fun h => ⟨⟨⟨⟨⟨⟨h.fr, h.to⟩, h.lt⟩, h.fst⟩, h.found⟩, h.snd⟩, h.well⟩⟩
theorem lz {t : aj} {x : az} {r : Int} {l : List PlaceD} (h : io t x r l = true) {q : PlaceD} (hq : q ∈ l) : f5 t q = true ∧ em t x q = true := by
 unfold io at h
 rw [Bool.and_eq_true] at h
 obtain ⟨i, hi⟩ := List.getElem?_of_mem hq
 have := List.all_eq_true.1 h.2 i (List.mem_range.2 (List.getElem?_eq_some_iff.1 hi).1)
 unfold jo at this
 rw [hi] at this
 simp only [Bool.and_eq_true] at this
 exact this.1
theorem unk {t : aj} {x : az} {r : Int} {l : List PlaceD} (h : io t x r l = true) {i : Nat} {a q : PlaceD} (ha : l[i]? = some a) (hq : l[i + 1]? = some q) : fj (dl a) (dl q) < 0 := by
 unfold io at h
 rw [Bool.and_eq_true] at h
 have := List.all_eq_true.1 h.2 (i + 1) (List.mem_range.2 (List.getElem?_eq_some_iff.1 hq).1)
 unfold jo at this
 rw [hq, Nat.add_sub_cancel, ha] at this
 have h9 : (f5 t q = true ∧ em t x q = true) ∧ fj (dl a) (dl q) < 0 := by simpa [m5] using this
 exact h9.2
theorem ugh {a b c : PlaceD} (h : fj (dl a) (dl b) < 0) (k : fj (dl b) (dl c) < 0) : fj (dl a) (dl c) < 0 := by
 rw [n3 (by rfl)] at h k ⊢
 exact r6 h k
theorem ua9 (a : PlaceD) : ¬ fj (dl a) (dl a) < 0 := by
 rw [n3 (by rfl)]
 exact po _
theorem uil {l : List PlaceD} (h : ∀ (i : Nat) (a q : PlaceD), l[i]? = some a → l[i + 1]? = some q → fj (dl a) (dl q) < 0) : l.Pairwise fun a b => fj (dl a) (dl b) < 0 := by
 rw [List.pairwise_iff_getElem]
 intro i j hi hj hij
 have key : ∀ d (hd : i + 1 + d < l.length), fj (dl l[i]) (dl l[i + 1 + d]) < 0 := by
  intro d
  induction d with
  | zero => intro hd; exact h i _ _ (List.getElem?_eq_getElem hi) (List.getElem?_eq_getElem hd)
  | succ d ih =>
   intro hd
   exact ugh (ih (by omega)) (h (i + 1 + d) _ _ (List.getElem?_eq_getElem (by omega)) (List.getElem?_eq_getElem hd))
 have := key (j - (i + 1)) (by omega)
 simpa [show i + 1 + (j - (i + 1)) = j by omega] using this
theorem xr {t : aj} {x : az} {r : Int} {l : List PlaceD} (h : io t x r l = true) : l.Pairwise fun a b => fj (dl a) (dl b) < 0 := uil fun _ _ _ ha hq => unk h ha hq
/-- lists in order, with the same places -/
theorem v7 : ∀ {l m : List PlaceD}, l.Pairwise (fun a b => fj (dl a) (dl b) < 0) → m.Pairwise (fun a b => fj (dl a) (dl b) < 0) → (∀ q, q ∈ l ↔ q ∈ m) → l = m
 | [], [], _, _, _ => rfl
 | [], b :: m, _, _, h => by have := (h b).2 (List.mem_cons_self ..); cases this
 | a :: l, [], _, _, h => by have := (h a).1 (List.mem_cons_self ..); cases this
 | a :: l, b :: m, h1, h2, h => by
  rw [List.pairwise_cons] at h1 h2
  have hab : a = b := by
   have p1 := (h a).1 (List.mem_cons_self ..)
   have p2 := (h b).2 (List.mem_cons_self ..)
   rw [List.mem_cons] at p1 p2
   rcases p1 with rfl | p1
   ·rfl
   ·rcases p2 with rfl | p2
    ·rfl
    ·exact absurd (ugh (h1.1 b p2) (h2.1 a p1)) (ua9 a)
  subst hab
  rw [v7 h1.2 h2.2 fun q => ?_]
  constructor
  ·intro hq
   have := (h q).1 (List.mem_cons_of_mem _ hq)
   rw [List.mem_cons] at this
   rcases this with rfl | this
   ·exact absurd (h1.1 q hq) (ua9 q)
   ·exact this
  ·intro hq
   have := (h q).2 (List.mem_cons_of_mem _ hq)
   rw [List.mem_cons] at this
   rcases this with rfl | this
   ·exact absurd (h2.1 q hq) (ua9 q)
   ·exact this
/-! ### Pages between readers -/
def tx (p : ak) (j : Nat) (g : az → Int) : Int := match p.pages[j]? with | some x => g x | none => 0
theorem ukm {p : ak} {j : Nat} {x : az} (h : p.pages[j]? = some x) (g : az → Int) : tx p j g = g x := by unfold tx; rw [h]
def d9 (p : ak) (j : Nat) : Int := tx p j (vj p.text)
theorem uln {p : ak} (h : gh p) : (cw p).Ok := by
 refine ⟨Nat.le_add_right _ _, fun j i hi => ?_, fun j i hi => ?_⟩
 ·simp only [cw] at hi ⊢
  cases hx : p.pages[j]? with
  | none => rw [hx] at hi; cases hi
  | some x =>
   rw [hx] at hi
   have hp := (pageB_true.1 (h.page j x hx)).fst
   dsimp only at hi
   by_cases q : 0 ≤ x.fst
   ·rw [decide_eq_true q, cond_true, Option.some.injEq] at hi
    omega
   ·rw [decide_eq_false q] at hi; cases hi
 ·simp only [cw, c4] at hi ⊢
  cases hx : p.pages[j]? with
  | none => rw [hx] at hi; cases hi
  | some x =>
   rw [hx] at hi
   have hp := (pageB_true.1 (h.page j x hx)).snd
   dsimp only at hi
   by_cases q : 0 ≤ x.snd
   ·rw [decide_eq_true q, cond_true, Option.some.injEq] at hi
    omega
   ·rw [decide_eq_false q] at hi; cases hi
/-- the readers of a page, as the program lists them -/
def dw (p : ak) (x : az) : List Int := (bif decide (0 ≤ x.fst) then [x.fst] else []) ++ (bif decide (0 ≤ x.snd) then [(p.firsts.length : Int) + x.snd] else [])
theorem um7 {p : ak} {j : Nat} {x : az} (hx : p.pages[j]? = some x) (S : Nat → Bool) : (cw p).hit S j = (dw p x).any fun k => S k.toNat := by
 simp only [Net.hit, cw, hx, dw, List.any_append]
 congr 1
 ·cases decide (0 ≤ x.fst) <;> simp [ob]
 ·by_cases q : 0 ≤ x.snd
  ·simp [q, ob, show ((p.firsts.length : Int) + x.snd).toNat = p.firsts.length + x.snd.toNat by omega]
  ·simp [q, ob]
theorem unc {p : ak} {last : Int} {x : az} (h : me p last x) : (et p.text x).length ≤ fh p.text x := by
 unfold et fh
 rw [← List.countP_eq_length_filter, ← List.countP_eq_length_filter]
 refine List.countP_mono_left fun q _ hq => ?_
 rw [Bool.or_eq_true, decide_eq_true_eq, decide_eq_true_eq] at hq
 rcases hq with hq | hq
 ·exact (lz h.found hq).2
 ·exact (lz h.well hq).2
theorem uf6 {p : ak} (h : gh p) (j : Nat) : 0 ≤ d9 p j := by
 unfold d9 tx
 cases hx : p.pages[j]? with
 | none => exact Int.le_refl _
 | some x =>
  have := unc (pageB_true.1 (h.page j x hx))
  show 0 ≤ vj p.text x
  unfold vj
  omega
end Go.AB
namespace Go.AB
open Go Go.RowKit
open Go.AB.Enc (cells)
/-- the numbers of a set -/
def xa (n s : Nat) : List Nat := (List.range n).filter fun i => s.testBit i
def fg (n s : Nat) : List Int := (xa n s).map fun i : Nat => (i : Int)
theorem ud3 (n s : Nat) : fg (n + 1) s = fg n s ++ (bif s.testBit n then [(n : Int)] else []) := by
 unfold fg xa
 rw [List.range_succ, List.filter_append, List.map_append]
 cases h : s.testBit n <;> simp [h]
theorem uh (n s : Nat) : (fg n s).length ≤ n := by
 unfold fg xa
 rw [List.length_map]
 have := List.length_filter_le (fun i => s.testBit i) (List.range n)
 rwa [List.length_range] at this
theorem membersL_mem {n s : Nat} {x : Int} : x ∈ fg n s ↔ ∃ i : Nat, x = (i : Int) ∧ i < n ∧ s.testBit i = true := by
 unfold fg xa
 simp only [List.mem_map, List.mem_filter, List.mem_range]
 exact ⟨fun ⟨i, ⟨h1, h2⟩, h3⟩ => ⟨i, h3.symm, h1, h2⟩, fun ⟨i, h3, h1, h2⟩ => ⟨i, ⟨h1, h2⟩, h3.symm⟩⟩
/-- the order of lists: shorter ones first, then by their numbers -/
def i6 (a b : List Int) : Bool := decide (a.length < b.length) || (decide (a.length = b.length) && decide (fj a b < 0))
theorem ugi {a b : List Int} : i6 a b = true ↔ a.length < b.length ∨ (a.length = b.length ∧ ltW a b) := by
 unfold i6
 rw [Bool.or_eq_true, Bool.and_eq_true, decide_eq_true_eq, decide_eq_true_eq, decide_eq_true_eq]
 constructor
 ·rintro (h | ⟨h1, h2⟩)
  ·exact .inl h
  ·exact .inr ⟨h1, (n3 h1).1 h2⟩
 ·rintro (h | ⟨h1, h2⟩)
  ·exact .inl h
  ·exact .inr ⟨h1, (n3 h1).2 h2⟩
theorem ugj (a : List Int) : i6 a a = false := by
 rw [← Bool.not_eq_true, ugi]
 rintro (h | ⟨_, h⟩)
 ·omega
 ·exact po a h
theorem uo0 {a b c : List Int} (h : i6 a b = true) (k : i6 b c = true) : i6 a c = true := by
 rw [ugi] at *
 rcases h with h | ⟨h1, h2⟩
 ·rcases k with k | ⟨k1, _⟩
  ·exact .inl (by omega)
  ·exact .inl (by omega)
 ·rcases k with k | ⟨k1, k2⟩
  ·exact .inl (by omega)
  ·exact .inr ⟨by omega, r6 h2 k2⟩
/-- what is found among the first sets -/
def fk (so : Nat → Bool) (n : Nat) : Nat → Option (List Int)
 | 0 => none
 | k + 1 => match fk so n k with
  | none => bif so k then some (fg n k) else none
  | some b => bif so k && i6 (fg n k) b then some (fg n k) else some b
def n4 (so : Nat → Bool) (n : Nat) : List Int := (fk so n (2 ^ n)).getD []
structure upy (so : Nat → Bool) (n k : Nat) (b : List Int) : Prop where
 get : ∃ s, s < k ∧ so s = true ∧ b = fg n s
 min : ∀ s, s < k → so s = true → i6 (fg n s) b = false
theorem x6 (so : Nat → Bool) (n : Nat) : ∀ k, (fk so n k = none ∧ ∀ s, s < k → so s = false) ∨ ∃ b, fk so n k = some b ∧ upy so n k b
 | 0 => .inl ⟨rfl, fun s h => absurd h (Nat.not_lt_zero _)⟩
 | k + 1 => by
  rcases x6 so n k with ⟨h1, h2⟩ | ⟨b, h1, h2⟩
  ·simp only [fk, h1]
   cases hs : so k
   ·exact .inl ⟨rfl, fun s h => by
     by_cases e : s = k
     ·subst e; exact hs
     ·exact h2 s (by omega)⟩
   ·exact .inr ⟨_, rfl, ⟨k, by omega, hs, rfl⟩, fun s h hso => by
     by_cases e : s = k
     ·subst e; exact ugj _
     ·rw [h2 s (by omega)] at hso; cases hso⟩
  ·simp only [fk, h1]
   right
   cases hs : so k && i6 (fg n k) b
   ·refine ⟨b, rfl, ?_, fun s h hso => ?_⟩
    ·obtain ⟨s, q1, q2, q3⟩ := h2.get
     exact ⟨s, by omega, q2, q3⟩
    ·by_cases e : s = k
     ·subst e
      rw [hso, Bool.true_and] at hs
      exact hs
     ·exact h2.min s (by omega) hso
   ·rw [Bool.and_eq_true] at hs
    refine ⟨_, rfl, ⟨k, by omega, hs.1, rfl⟩, fun s h hso => ?_⟩
    by_cases e : s = k
    ·subst e; exact ugj _
    ·rw [← Bool.not_eq_true]
     intro hb
     have := uo0 hb hs.2
     rw [h2.min s (by omega) hso] at this
     cases this
theorem ugg (so : Nat → Bool) (n : Nat) : (n4 so n).length ≤ n := by
 unfold n4
 rcases x6 so n (2 ^ n) with ⟨h, _⟩ | ⟨b, h, k⟩
 ·rw [h]; exact Nat.zero_le _
 ·rw [h]
  obtain ⟨s, _, _, rfl⟩ := k.get
  exact uh n s
theorem ugf {so : Nat → Bool} {n k : Nat} (h : fk so n k = none) : fk so n (k + 1) = bif so k then some (fg n k) else none := by simp only [fk, h]
theorem ua8 {so : Nat → Bool} {n k : Nat} {b : List Int} (h : fk so n k = some b) : fk so n (k + 1) = bif so k && i6 (fg n k) b then some (fg n k) else some b := by simp only [fk, h]
/-! ### Lists of numbers that are looked up -/
def dd (n : Nat) (R : Nat → Int) : List Int := (List.range n).map R
theorem ju (n : Nat) (R : Nat → Int) : (dd n R).length = n := by simp [dd]
theorem nd {n i : Nat} (R : Nat → Int) (h : i < n) : (dd n R)[i]? = some (R i) := by simp [dd, h]
theorem yw (n : Nat) (R : Nat → Int) : dd (n + 1) R = dd n R ++ [R n] := by
 unfold dd
 rw [List.range_succ, List.map_append]; rfl
theorem yx {n i : Nat} (R : Nat → Int) (v : Int) (h : i < n) : (dd n R).set i v = dd n fun k => bif decide (k = i) then v else R k := by
 apply List.ext_getElem?
 intro k
 rw [List.getElem?_set, ju]
 by_cases hk : k < n
 ·rw [nd (fun k => bif decide (k = i) then v else R k) hk, nd R hk]
  by_cases e : i = k
  ·subst e; rw [if_pos rfl, if_pos h, decide_eq_true rfl]; rfl
  ·rw [if_neg e, decide_eq_false (Ne.symm e)]; rfl
 ·rw [List.getElem?_eq_none (by rw [ju]; omega)]
  rw [if_neg (by omega), List.getElem?_eq_none (by rw [ju]; omega)]
end Go.AB
namespace Go.AB
open Go Go.RowKit
open Go.AB.Enc (cells)
open Go.PB (bg aj PlaceD bn bq bp ck az ak dc ce)
/-! ### All places are in order -/
theorem uo7 (t : aj) : (dn t).Pairwise fun a b => fj (dl a) (dl b) < 0 := by
 unfold dn
 rw [List.pairwise_map, List.pairwise_iff_getElem]
 intro i j hi hj hij
 have h1 := List.getElem?_eq_getElem hi
 have h2 := List.getElem?_eq_getElem hj
 have h := ulj (ugz h1).1 (ugz h2).1
 rw [zu h1 rfl, zu h2 rfl] at h
 rw [n3 (by rfl), ← h]
 omega
theorem allQ_mem {t : aj} {q : PlaceD} : q ∈ dn t ↔ f5 t q = true := allP_mem
theorem xu {t : aj} (f : PlaceD → Bool) : ((dn t).filter f).Pairwise fun a b => fj (dl a) (dl b) < 0 := (uo7 t).filter _
/-- places in order, of a text, are those of all places that are among them -/
theorem uis {t : aj} {l : List PlaceD} (h : l.Pairwise fun a b => fj (dl a) (dl b) < 0) (hp : ∀ q ∈ l, f5 t q = true) : l = (dn t).filter fun q => decide (q ∈ l) :=
 v7 h (xu _) fun q => by
  rw [List.mem_filter, decide_eq_true_eq, allQ_mem]
  exact ⟨fun h => ⟨hp q h, h⟩, fun h => h.2⟩
theorem uar {t : aj} {x : az} {r : Int} {l : List PlaceD} (h : io t x r l = true) : l = (dn t).filter fun q => decide (q ∈ l) := uis (xr h) fun q hq => (lz h hq).1
theorem px {t : aj} {x : az} {r : Int} {l : List PlaceD} (h : io t x r l = true) : l.length ≤ (dn t).length := by
 rw [uar h]
 exact List.length_filter_le _ _
theorem u6 (t : aj) (x : az) : (et t x).length ≤ (dn t).length := List.length_filter_le _ _
theorem ua6 (t : aj) (x : az) : (eb t x).length ≤ (dn t).length := List.length_filter_le _ _
theorem yk (t : aj) (x : az) : fh t x ≤ (dn t).length := List.length_filter_le _ _
/-! ### How great numbers are -/
theorem yz {g : az → Nat} {m : Nat} : ∀ {l : List az}, (∀ x ∈ l, g x ≤ m) → ez l g ≤ l.length * m
 | [], _ => by simp [ez]
 | x :: l, h => by
  have h1 := yz (l := l) fun y hy => h y (List.mem_cons_of_mem _ hy)
  have h2 := h x (List.mem_cons_self ..)
  simp only [ez, List.map_cons, List.sum_cons, List.length_cons] at h1 ⊢
  rw [Nat.succ_mul]
  omega
theorem udc {p : ak} (h : gh p) (b : Bool) (i : Int) : ez p.pages (ib b i) ≤ 4800 := by
 have hq := qc h.text
 have h1 := yz (l := p.pages) (g := ib b i) (m := 600) fun x hx => by
  obtain ⟨j, hj⟩ := List.getElem?_of_mem hx
  have hp := pageB_true.1 (h.page j x hj)
  unfold ib
  cases decide (fy b x = i)
  ·exact Nat.zero_le _
  ·cases b
   ·have := px hp.found
    show x.found.length ≤ 600
    omega
   ·have := px hp.well
    show x.well.length ≤ 600
    omega
 have := h.np
 have h2 : p.pages.length * 600 ≤ 8 * 600 := Nat.mul_le_mul_right _ this
 omega
theorem ucr {p : ak} (h : gh p) (b : Bool) (i : Int) : ez p.pages (jc p.text b i) ≤ 4800 := by
 have hq := qc h.text
 have h1 := yz (l := p.pages) (g := jc p.text b i) (m := 600) fun x hx => by
  have := u6 p.text x
  unfold jc
  cases decide (fy b x = i)
  ·exact Nat.zero_le _
  ·show (et p.text x).length ≤ 600
   omega
 have := h.np
 have h2 : p.pages.length * 600 ≤ 8 * 600 := Nat.mul_le_mul_right _ this
 omega
theorem udy {p : ak} (h : gh p) (b : Bool) (i : Nat) : 0 ≤ lp p b i ∧ lp p b i ≤ 90 := by
 unfold lp
 cases hr : (ec p b)[i]? with
 | none => exact ⟨Int.le_refl _, by show (0 : Int) ≤ 90; omega⟩
 | some r =>
  have hm := List.mem_of_getElem? hr
  have : gy r = true := h.rd r (by
   rw [List.mem_append]
   cases b
   ·exact .inl hm
   ·exact .inr hm)
  unfold gy at this
  rw [Bool.and_eq_true, inB_true, inB_true] at this
  exact this.2
theorem uf8 {p : ak} (h : gh p) (b : Bool) (i : Nat) : 0 ≤ o8 p b i ∧ o8 p b i ≤ 48000 := by
 have h1 := udc h b i
 have h2 := udy h b i
 unfold o8
 have h3 : (0 : Int) < 100 - lp p b i := by omega
 refine ⟨Int.ediv_nonneg (by omega) (by omega), ?_⟩
 have h4 : 100 * ((ez p.pages (ib b i) : Nat) : Int) / (100 - lp p b i) ≤ 100 * ((ez p.pages (ib b i) : Nat) : Int) / 10 := by
  refine Int.le_ediv_of_mul_le (by omega) ?_
  have h5 := Int.ediv_mul_le (100 * ((ez p.pages (ib b i) : Nat) : Int)) (show (100 - lp p b i) ≠ 0 by omega)
  have h6 : 0 ≤ 100 * ((ez p.pages (ib b i) : Nat) : Int) / (100 - lp p b i) := Int.ediv_nonneg (by omega) (by omega)
  have h7 : 100 * ((ez p.pages (ib b i) : Nat) : Int) / (100 - lp p b i) * 10 ≤ 100 * ((ez p.pages (ib b i) : Nat) : Int) / (100 - lp p b i) * (100 - lp p b i) := Int.mul_le_mul_of_nonneg_left (by omega) h6
  omega
 omega
theorem uee {p : ak} (h : gh p) (b : Bool) (i : Nat) : -4800 ≤ pp p b i ∧ pp p b i ≤ 48000 := by
 have h1 := uf8 h b i
 have h2 := ucr h b i
 unfold pp
 omega
theorem umi {p : ak} (h : gh p) (i : Nat) : -4800 ≤ dm p i ∧ dm p i ≤ 48000 := by
 unfold dm
 cases decide (i < p.firsts.length)
 ·exact uee h _ _
 ·exact uee h _ _
theorem uom {p : ak} (h : gh p) (j : Nat) : 0 ≤ d9 p j ∧ d9 p j ≤ 600 := by
 refine ⟨uf6 h j, ?_⟩
 have hq := qc h.text
 unfold d9 tx
 cases hx : p.pages[j]? with
 | none => show (0 : Int) ≤ 600; omega
 | some x =>
  have := yk p.text x
  show vj p.text x ≤ 600
  unfold vj
  omega
/-! ### What is told -/
section
def e8 (p : ak) (n : Int) : Int := bif decide (dg p = 0) then (bif inB n 0 ((p.pages.length : Int) - 1) then 0 else 2) else dg p
def gt (p : ak) (e : Int) : Int := bif decide (e = 0) then (bif jt p then 0 else 8) else e
def kp (p : ak) (b : Bool) (n : Int) : Int := bif decide (dg p = 0) then (bif inB n 0 (((ec p b).length : Int) - 1) then 0 else 2) else dg p
def jf (p : ak) (m : Int) : Int := bif decide (dg p = 0) then (bif decide (m < 0) then 2 else bif jt p then 0 else 8) else dg p
def atE {α : Type} (e : Int) (d v : α) : α := bif decide (e = 0) then v else d
def mi (p : ak) (n : Int) : az := (p.pages[n.toNat]?).getD ⟨0, 0, 0, 0, [], []⟩
def n7 (p : ak) (n : Int) : Int := atE (e8 p n) 0 (fh p.text (mi p n) : Int)
def pv (p : ak) (n : Int) : List PlaceD := atE (e8 p n) [] (et p.text (mi p n))
def p9 (p : ak) (n : Int) : List PlaceD := atE (e8 p n) [] (eb p.text (mi p n))
def o7 (p : ak) (b : Bool) (n : Int) : Int := atE (kp p b n) 0 (o8 p b n.toNat)
def n1 (p : ak) (n : Int) : Int := bif decide (e8 p n = 0) then (bif decide ((eb p.text (mi p n)).length = 0) then 6 else 0) else e8 p n
def ual (x : az) (k : Nat) : ce := ⟨((x.found.length * x.well.length / k : Nat) : Int), (((x.found.length * x.well.length + k - 1) / k : Nat) : Int)⟩
def oy (p : ak) (n : Int) : ce := atE (n1 p n) ⟨0, 0⟩ (ual (mi p n) (eb p.text (mi p n)).length)
def qi (p : ak) (n : Int) : ce := atE (gt p (e8 p n)) ⟨0, 0⟩ ⟨0, (cw p).alone (dm p) (d9 p) n.toNat⟩
def ubv (p : ak) : Int := (cw p).most (dm p) (d9 p)
def rg (p : ak) : ce := atE (gt p (dg p)) ⟨0, 0⟩ ⟨0, ubv p⟩
noncomputable def jq (p : ak) : Nat → Int := (cw p).worst (dm p) (d9 p)
noncomputable def qh (p : ak) : List Int := atE (gt p (dg p)) [] (dd p.pages.length (jq p))
def rf (p : ak) (s : Nat) : Bool := decide ((cw p).f (dm p) (d9 p) (fun i => s.testBit i) = ubv p)
def iq (p : ak) : List Int := n4 (rf p) (c4 p)
def n8 (p : ak) (l : List Int) : List Int := l.filter fun k => decide (k < (p.firsts.length : Int))
def na (p : ak) (l : List Int) : List Int := (l.filter fun k => !decide (k < (p.firsts.length : Int))).map fun k => k - (p.firsts.length : Int)
def li (C : Nat → Int) (l : List Int) (j : Nat) : Int := bif decide ((j : Int) ∈ l) then 0 else C j
def ug0 (p : ak) (l : List Int) : Int := (cw p).most (dm p) (li (d9 p) l)
def vh (p : ak) (m : Int) (s : Nat) : Bool := decide (ug0 p (fg p.pages.length s) ≤ m)
def kh (p : ak) (m : Int) : List Int := atE (jf p m) [] (n4 (vh p m) p.pages.length)
end
theorem uhc (C : Nat → Int) : li C [] = C := by funext j; simp [li]
theorem uhb (C : Nat → Int) (l : List Int) (i : Nat) : li C (l ++ [(i : Int)]) = fa (li C l) i := by
 funext j
 unfold li fa
 by_cases e : j = i
 ·subst e; simp
 ·rw [decide_eq_false e, cond_false]
  congr 1
  rw [decide_eq_decide, List.mem_append, List.mem_singleton]
  constructor
  ·rintro (h | h)
   ·exact h
   ·omega
  ·exact .inl
theorem umd (N : Net) (R : Nat → Int) (j : Nat) : N.lessR R j 0 = R := by
 funext i
 unfold Net.lessR
 cases N.by j i <;> simp
theorem uh5 {p : ak} (h : jt p = true) : ∀ i, i < (cw p).nr → 0 ≤ dm p i := fun i hi => by
 have := List.all_eq_true.1 h i (List.mem_range.2 hi)
 exact of_decide_eq_true this
end Go.AB
namespace Go.AB
open Go Go.RowKit
open Go.AB.Enc (cells)
open Go.PB (bg aj PlaceD bn bq bp ck az ak dc ce)
/-- the same sets of readers, with another order of readers -/
def TurnS (a b : Nat) (S S' : Nat → Bool) : Prop := (∀ i, i < b → S' i = S (a + i)) ∧ ∀ i, i < a → S' (b + i) = S i
theorem TurnS.symm {a b : Nat} {S S' : Nat → Bool} (h : TurnS a b S S') : TurnS b a S' S := ⟨fun i hi => (h.2 i hi).symm, fun i hi => (h.1 i hi).symm⟩
/-! ### Readers who miss less -/
end Go.AB
namespace Go.AB
open Go Go.RowKit
open Go.AB.Enc (cells)
open Go.PB (bg aj PlaceD bn bq bp ck az ak dc ce)
end Go.AB
namespace Go.AB
open Go Go.RowKit
open Go.AB.Enc (cells)
open Go.PB (bg aj PlaceD bn bq bp ck az ak dc ce)
end Go.AB
namespace Go.AB
open Go Go.RowKit
open Go.AB.Enc (cells)
open Go.PB (bg aj PlaceD bn bq bp ck az ak dc ce)
end Go.AB
namespace Go.AB
open Go Go.RowKit
open Go.AB.Enc (cells)
open Go.PB (bg aj PlaceD bn bq bp ck az ak dc ce)
/-- as much as can be on a page, if nothing is lost by it -/
theorem Net.pick_alone {N : Net} {R C : Nat → Int} {j : Nat} (h0 : 0 ≤ N.alone R C j) (h : N.most R C ≤ N.alone R C j + N.most (N.lessR R j (N.alone R C j)) (fa C j)) : N.pick R C j = N.alone R C j :=
 Net.pick_eq ⟨h0, Int.le_refl _, h, fun m h1 h2 => by omega⟩
def m7 : ByteArray := ⟨#[116, 104, 101]⟩
def ja : ByteArray := ⟨#[115, 101, 97]⟩
def xIs : ByteArray := ⟨#[105, 115]⟩
def m8 : ByteArray := ⟨#[111, 108, 100]⟩
def s8 : ByteArray := ⟨#[97, 110, 100]⟩
def exTx : aj := [⟨7, [[m7, ja, xIs, m8], [m8, m7, ja]]⟩, ⟨3, [[ja, s8, ja]]⟩]
def exPg : List az := [⟨0, 0, 0, 0, [⟨0, 0, 0⟩], [⟨0, 0, 0⟩, ⟨0, 0, 3⟩]⟩, ⟨1, 2, 0, -1, [⟨0, 1, 1⟩], []⟩]
def exPr : ak := ⟨exTx, [⟨1, 50⟩, ⟨2, 0⟩], [⟨3, 60⟩], exPg⟩
theorem vt : gt exPr (dg exPr) = 0 := by decide +kernel
theorem xp_words : n7 exPr 1 = 6 ∧ e8 exPr 1 = 0 ∧ n7 exPr 0 = 4 ∧ e8 exPr 0 = 0 := ⟨by decide +kernel, by decide +kernel, by decide +kernel, by decide +kernel⟩
theorem xp_found : pv exPr 0 = [⟨0, 0, 0⟩, ⟨0, 0, 3⟩] ∧ p9 exPr 0 = [⟨0, 0, 0⟩] := ⟨by decide +kernel, by decide +kernel⟩
theorem xp_guess : oy exPr 0 = ⟨2, 2⟩ ∧ n1 exPr 0 = 0 := ⟨by decide +kernel, by decide +kernel⟩
theorem xp_remain : qi exPr 1 = ⟨0, 1⟩ ∧ gt exPr (e8 exPr 1) = 0 ∧ qi exPr 0 = ⟨0, 1⟩ ∧ gt exPr (e8 exPr 0) = 0 := ⟨by decide +kernel, by decide +kernel, by decide +kernel, by decide +kernel⟩
theorem uhe : rg exPr = ⟨0, 1⟩ := by decide +kernel
theorem xp_why : n8 exPr (iq exPr) = [0] ∧ na exPr (iq exPr) = [] := ⟨by decide +kernel, by decide +kernel⟩
theorem xp_bound : o7 exPr false 0 = 4 ∧ kp exPr false 0 = 0 ∧ o7 exPr false 1 = 0 ∧ kp exPr false 1 = 0 ∧ o7 exPr true 0 = 5 ∧ kp exPr true 0 = 0 := ⟨by decide +kernel, by decide +kernel, by decide +kernel, by decide +kernel, by decide +kernel, by decide +kernel⟩
theorem xp_chief : kh exPr 0 = [0, 1] ∧ jf exPr 0 = 0 ∧ kh exPr 1 = [] ∧ jf exPr 1 = 0 := ⟨by decide +kernel, by decide +kernel, by decide +kernel, by decide +kernel⟩
theorem uhd : qh exPr = [1, 0] := by
 have h0 : jq exPr 0 = 1 := by
  have := Net.pick_alone (N := cw exPr) (R := dm exPr) (C := d9 exPr) (j := 0) (by decide +kernel) (by decide +kernel)
  exact this.trans (by decide +kernel)
 have h1 : jq exPr 1 = 0 := by
  have e : jq exPr 1 = (cw exPr).pick ((cw exPr).lessR (dm exPr) 0 1) (fa (d9 exPr) 0) 1 := by
   show (cw exPr).pick ((cw exPr).lessR (dm exPr) 0 (jq exPr 0)) (fa (d9 exPr) 0) 1 = _
   rw [h0]
  have := Net.pick_alone (N := cw exPr) (R := (cw exPr).lessR (dm exPr) 0 1) (C := fa (d9 exPr) 0) (j := 1) (by decide +kernel) (by decide +kernel)
  exact e.trans (this.trans (by decide +kernel))
 unfold qh
 rw [vt]
 show [jq exPr 0, jq exPr 1] = _
 rw [h0, h1]
end Go.AB
namespace Go.AB
open Go Go.RowKit
open Go.AB.Enc (cells)
open Go.PB (bg aj PlaceD bn bq bp ck az ak dc ce)
/-- who is found by one reader alone, so far -/
def gr (F W : List PlaceD) (q : PlaceD) : Bool := decide (q ∈ F) != decide (q ∈ W)
theorem ulf (F : List PlaceD) (q : PlaceD) : gr F [] q = decide (q ∈ F) := by simp [gr]
theorem y5 {l : List PlaceD} (h : l.Pairwise fun a b => fj (dl a) (dl b) < 0) : l.Nodup := h.imp fun {a b} hab e => by
 rw [n3 (by rfl)] at hab
 subst e
 exact po _ hab
theorem uie {l : List PlaceD} (h : l.Nodup) {k : Nat} {q : PlaceD} (hq : l[k]? = some q) : q ∉ l.take k := fun hm => by
 obtain ⟨i, hi⟩ := List.getElem?_of_mem hm
 have hik : i < k := by have := (List.getElem?_eq_some_iff.1 hi).1; rw [List.length_take] at this; omega
 rw [List.getElem?_take_of_lt hik] at hi
 obtain ⟨h1, h2⟩ := List.getElem?_eq_some_iff.1 hi
 obtain ⟨h3, h4⟩ := List.getElem?_eq_some_iff.1 hq
 have := (List.pairwise_iff_getElem.1 h) i k h1 h3 hik
 exact this (h2.trans h4.symm)
/-- the place at hand is in the map if the first reader found it -/
theorem wy {F W : List PlaceD} (hW : W.Nodup) {k : Nat} {q : PlaceD} (hq : W[k]? = some q) : gr F (W.take k) q = decide (q ∈ F) := by
 unfold gr
 rw [decide_eq_false (uie hW hq)]
 cases decide (q ∈ F) <;> rfl
theorem udj {F W : List PlaceD} (hW : W.Nodup) {k : Nat} {q : PlaceD} (hq : W[k]? = some q) (x : PlaceD) : gr F (W.take (k + 1)) x = bif decide (x = q) then !decide (q ∈ F) else gr F (W.take k) x := by
 have hm : decide (x ∈ W.take (k + 1)) = (decide (x ∈ W.take k) || decide (x = q)) := by
  rw [List.take_add_one, hq, Option.toList_some, Bool.eq_iff_iff]
  simp
 by_cases e : x = q
 ·subst e
  unfold gr
  rw [hm, decide_eq_true (rfl : x = x), Bool.or_true, cond_true]
  cases decide (x ∈ F) <;> rfl
 ·unfold gr
  rw [hm, decide_eq_false e, Bool.or_false, cond_false]
/-- what both found so far -/
def m4 (F W : List PlaceD) (k : Nat) : List PlaceD := (W.take k).filter fun q => decide (q ∈ F)
theorem uga {F W : List PlaceD} {k : Nat} {q : PlaceD} (hq : W[k]? = some q) : m4 F W (k + 1) = m4 F W k ++ bif decide (q ∈ F) then [q] else [] := by
 unfold m4
 rw [List.take_add_one, hq, Option.toList_some, List.filter_append]
 cases h : decide (q ∈ F) <;> simp [h]
theorem ugb (F W : List PlaceD) (k : Nat) : (m4 F W k).length ≤ W.length := by
 unfold m4
 have := List.length_filter_le (fun q => decide (q ∈ F)) (W.take k)
 rw [List.length_take] at this
 omega
theorem uor {p : ak} {last : Int} {x : az} (h : me p last x) : m4 x.found x.well x.well.length = eb p.text x := by
 have hs : (m4 x.found x.well x.well.length).Pairwise fun a b => fj (dl a) (dl b) < 0 := by
  unfold m4
  rw [List.take_length]
  exact (xr h.well).filter _
 refine v7 hs (xu _) fun q => ?_
 unfold m4
 rw [List.take_length, List.mem_filter, decide_eq_true_eq]
 show _ ↔ q ∈ (dn p.text).filter _
 rw [List.mem_filter, Bool.and_eq_true, decide_eq_true_eq, decide_eq_true_eq, allQ_mem]
 exact ⟨fun ⟨h1, h2⟩ => ⟨(lz h.well h1).1, h2, h1⟩, fun ⟨_, h2, h3⟩ => ⟨h3, h2⟩⟩
/-- both's places, and those of one alone in any order, put in order: all that are found -/
theorem ugx {p : ak} {last : Int} {x : az} (h : me p last x) {ks s : List PlaceD} (hn : ks.Nodup) (hk : ∀ q, q ∈ ks ↔ gr x.found x.well q = true) (hp : s.Perm (eb p.text x ++ ks)) (hs : s.Pairwise fun a b => ¬ fj (dl b) (dl a) < 0) : s = et p.text x := by
 have hmb : ∀ q, q ∈ eb p.text x ↔ q ∈ x.found ∧ q ∈ x.well := fun q => by
  show q ∈ (dn p.text).filter _ ↔ _
  rw [List.mem_filter, Bool.and_eq_true, decide_eq_true_eq, decide_eq_true_eq, allQ_mem]
  exact ⟨fun h => h.2, fun h2 => ⟨(lz h.well h2.2).1, h2⟩⟩
 have hko : ∀ q, gr x.found x.well q = true ↔ (q ∈ x.found ∧ q ∉ x.well) ∨ (q ∉ x.found ∧ q ∈ x.well) := fun q => by
  unfold gr
  by_cases h1 : q ∈ x.found <;> by_cases h2 : q ∈ x.well <;> simp [h1, h2]
 have hnd : (eb p.text x ++ ks).Nodup := by
  rw [List.nodup_append]
  refine ⟨y5 (xu _), hn, fun a ha b hb e => ?_⟩
  subst e
  have h1 := (hmb a).1 ha
  rcases (hko a).1 ((hk a).1 hb) with h2 | h2
  ·exact h2.2 h1.2
  ·exact h2.1 h1.1
 have hsn : s.Nodup := hp.nodup_iff.2 hnd
 have hs2 : s.Pairwise fun a b => fj (dl a) (dl b) < 0 := by
  have := List.Pairwise.and hs hsn
  refine this.imp fun {a b} hab => ?_
  rw [n3 (by rfl)] at hab ⊢
  refine Classical.byContradiction fun hno => hab.2 ?_
  exact umv (uaa (by rfl) hno hab.1)
 refine v7 hs2 (xu _) fun q => ?_
 rw [hp.mem_iff, List.mem_append, hmb, hk, hko]
 show _ ↔ q ∈ (dn p.text).filter _
 rw [List.mem_filter, Bool.or_eq_true, decide_eq_true_eq, decide_eq_true_eq, allQ_mem]
 constructor
 ·rintro (⟨h1, h2⟩ | ⟨h1, _⟩ | ⟨_, h2⟩)
  ·exact ⟨(lz h.found h1).1, .inl h1⟩
  ·exact ⟨(lz h.found h1).1, .inl h1⟩
  ·exact ⟨(lz h.well h2).1, .inr h2⟩
 ·rintro ⟨_, h1 | h1⟩
  ·by_cases h2 : q ∈ x.well
   ·exact .inl ⟨h1, h2⟩
   ·exact .inr (.inl ⟨h1, h2⟩)
  ·by_cases h2 : q ∈ x.found
   ·exact .inl ⟨h2, h1⟩
   ·exact .inr (.inr ⟨h2, h1⟩)
/-! ### The words of a page, line by line -/
def jr (t : aj) (x : az) (l : List PlaceD) : Nat := (l.filter (em t x)).length
theorem ubt (t : aj) (x : az) {k n : Nat} {c : bg} {l : List ByteArray} (hn : c.lines[n]? = some l) : jr t x (i2 t k c.lines (n + 1)) = jr t x (i2 t k c.lines n) + bif inB ((gi t k : Int) + (n : Int)) x.fr x.to then l.length else 0 := by
 have e : i2 t k c.lines (n + 1) = i2 t k c.lines n ++ (jd k n l).map (·.1) := by
  unfold i2
  rw [ua5 k hn, List.map_append, List.append_assoc]
 unfold jr
 rw [e, List.filter_append, List.length_append]
 congr 1
 have hall : ∀ q ∈ (jd k n l).map (·.1), em t x q = inB ((gi t k : Int) + (n : Int)) x.fr x.to := fun q hq => by
  obtain ⟨y, hy, rfl⟩ := List.mem_map.1 hq
  obtain ⟨w, hw, rfl⟩ := List.mem_mapIdx.1 hy
  show inB (qp t ⟨(k : Int), (n : Int), (w : Int)⟩) x.fr x.to = _
  unfold qp
  dsimp only
  rw [Int.toNat_natCast, Int.add_comm]
 have hlen : ((jd k n l).map (·.1)).length = l.length := by rw [List.length_map]; unfold jd; rw [List.length_mapIdx]
 cases hb : inB ((gi t k : Int) + (n : Int)) x.fr x.to
 ·rw [List.filter_eq_nil_iff.2 fun q hq => by rw [hall q hq, hb]; simp]; rfl
 ·rw [List.filter_eq_self.2 fun q hq => by rw [hall q hq, hb], hlen]; rfl
theorem uho (t : aj) (x : az) : jr t x (dn t) = fh t x := rfl
end Go.AB
namespace Go.AB
open Go Go.RowKit
open Go.AB.Enc (cells)
open Go.PB (bg aj PlaceD bn bq bp ck az ak dc ce)
section
variable {N : Net} {R C : Nat → Int}
end
end Go.AB
namespace Go.PB
structure dr where
 readers : List Int
 pages : List Int
 read : List (List Int)
/-- the reference's: readers and pages alone -/
structure dv where
 readers : List Int
 pages : List Int
end Go.PB
namespace Go.AB
open Go Go.RowKit
open Go.AB.Enc (cells)
open Go.PB (bg aj PlaceD bn bq bp ck az ak dc ce dr dv)
instance : Enc dr := ⟨fun x => [lst x.readers, lst x.pages, lst x.read], 3, fun _ => rfl, fun m x c h => by
 simp only [List.mem_cons, List.not_mem_nil, or_false] at h
 rcases h with rfl | rfl | rfl
 ·exact co m _
 ·exact co m _
 ·exact co m _, fun x c h => by
 simp only [List.mem_cons, List.not_mem_nil, or_false] at h; rcases h with rfl | rfl | rfl <;> rfl⟩
def gq (p : ak) (R C : Nat → Int) : dr := ⟨dd (c4 p) R, dd p.pages.length C, p.pages.map (dw p)⟩
/-- numbers that no sum of takes too far -/
structure Bd (p : ak) (R C : Nat → Int) : Prop where
 r : ∀ i, -1000000 ≤ R i ∧ R i ≤ 1000000
 c : ∀ j, 0 ≤ C j ∧ C j ≤ 1000000
 nr : c4 p ≤ 6
 np : p.pages.length ≤ 8
theorem vk {p : ak} (h : gh p) : Bd p (dm p) (d9 p) := ⟨fun i => by have := umi h i; omega, fun j => by have := uom h j; omega, by have := h.nf; have := h.ns; unfold c4; omega, h.np⟩
/-- what some first readers of a set have -/
def fR (R : Nat → Int) (S : Nat → Bool) (i : Nat) : Int := sm i fun k => bif S k then R k else 0
def fC (p : ak) (C : Nat → Int) (S : Nat → Bool) (j : Nat) : Int := sm j fun k => bif (cw p).hit S k then 0 else C k
theorem ufe (p : ak) (R C : Nat → Int) (S : Nat → Bool) : (cw p).f R C S = fR R S (c4 p) + fC p C S p.pages.length := rfl
theorem y6 {g : Nat → Int} {m : Int} (h : ∀ i, -m ≤ g i ∧ g i ≤ m) : ∀ n : Nat, -(n * m) ≤ sm n g ∧ sm n g ≤ n * m
 | 0 => by simp [sm]
 | n + 1 => by
  have h1 := y6 h n
  have h2 := h n
  have e : ((n + 1 : Nat) : Int) * m = (n : Int) * m + m := by rw [Int.natCast_add, Int.add_mul]; simp
  simp only [sm]
  omega
theorem uas {p : ak} {R C : Nat → Int} (h : Bd p R C) (S : Nat → Bool) (i : Nat) (hi : i ≤ c4 p) : -6000000 ≤ fR R S i ∧ fR R S i ≤ 6000000 := by
 have := y6 (g := fun k => bif S k then R k else 0) (m := 1000000) (fun k => by cases S k; simp; exact h.r k) i
 have := h.nr
 unfold fR
 omega
theorem ufj {p : ak} {R C : Nat → Int} (h : Bd p R C) (S : Nat → Bool) (j : Nat) (hj : j ≤ p.pages.length) : 0 ≤ fC p C S j ∧ fC p C S j ≤ 8000000 := by
 have h1 := y6 (g := fun k => bif (cw p).hit S k then 0 else C k) (m := 1000000) (fun k => by have := h.c k; cases (cw p).hit S k; simp; omega; simp) j
 have h2 := uit (n := j) (g := fun k => bif (cw p).hit S k then 0 else C k) fun k _ => by have := h.c k; cases (cw p).hit S k; exact this.1; exact Int.le_refl _
 have := h.np
 unfold fC
 omega
theorem f_bd {p : ak} {R C : Nat → Int} (h : Bd p R C) (S : Nat → Bool) : -6000000 ≤ (cw p).f R C S ∧ (cw p).f R C S ≤ 14000000 := by
 have h1 := uas h S _ (Nat.le_refl _)
 have h2 := ufj h S _ (Nat.le_refl _)
 rw [ufe]
 omega
theorem ud1 {g : Nat → Int} {a b : Int} (h : ∀ s, a ≤ g s ∧ g s ≤ b) (k : Nat) : a ≤ ma g k ∧ ma g k ≤ b := by
 obtain ⟨s, _, e⟩ := z7 (g := g) k
 rw [e]
 exact h s
theorem udx {p : ak} {R C : Nat → Int} (h : Bd p R C) : -6000000 ≤ (cw p).most R C ∧ (cw p).most R C ≤ 14000000 := ud1 (fun s => f_bd h _) _
end Go.AB
namespace Go.AB
open Go Go.RowKit
open Go.AB.Enc (cells)
section
variable {P : Program} {o : Oper} {st : St} {K : St → Prop}
end
end Go.AB
namespace Go.AB
open Go Go.RowKit Go.Shelf Go.Proofs
open Go.AB.Enc (cells)
section
variable {P : Program} {o : Oper} {st : St} {K : St → Prop}
theorem uk6 {E : Env} {w : World} {v : Value} {n ver len : Nat} (hp : R E w (.own n ver len) v) : ∃ a cap, v = .slice a len cap ∧ n < E.nx ∧ len ≤ cap ∧ cap ≤ maxLen ∧ ∀ ver' wv val, E.T n = some (ver', wv, val) → ver ≤ ver' ∧ (ver = ver' → ∃ m, len ≤ m ∧ val = .slice a m cap) := by
 cases hp with
 | own h1 h2 h3 h4 => exact ⟨_, _, rfl, h1, h2, h3, h4⟩
/-- append of nothing onto an own slice. -/
theorem ulv {t e : TypeId} {sz bytes n ver m : Nat} [AppT P t e sz bytes] {s x : Operand} {tk : Tok} (ho : o.op = .call { callee := .builtin .append, args := #[s, x], argTypes := #[t, t] }) (hs : evC st s = .own n ver m) (hx : evC st x = .list [] tk) : NStep P o st (.own n ver m) := fun E w a hsim => by
 obtain ⟨ht, i, z, hie, hz, h1, h2, h3⟩ := AppT.spec (P := P) (t := t) (e := e) (sz := sz) (bytes := bytes)
 have hown := hs ▸ hsim.ev s
 obtain ⟨ad, cap, e1, q1, q2, q3, q4⟩ := uk6 hown
 obtain ⟨ao, c, _, _, e3, _⟩ := (hx ▸ hsim.ev x).list_inv
 refine ⟨a.eval s, hown, fun w' => ?_⟩
 have hrun := tr (P := P) w' t o.type e i ht hie ad ao m cap c q2
 simp only [execOp, ho, resolve, invoke, builtin, Sem.run_bind, Sem.run_pure, Result.andThen_ok, List.map_toArray, List.map_cons, List.map_nil, e1, e3]
 rw [List.length_nil] at *
 rw [hrun]; rfl
/-- append of data onto an own slice. -/
theorem xx {α : Type} [Enc α] {t e : TypeId} {bytes n ver wv : Nat} [AppT P t e (Enc.n α) bytes] {s x : Operand} {tk : Tok} {rows : List (List C)} {xs : List α} {m : Nat} {cs : List C} (ys : List α) (ho : o.op = .call { callee := .builtin .append, args := #[s, x], argTypes := #[t, t] }) (hs : evC st s = .own n ver m) (hG : st.G n = some (.arr ver wv e (Enc.n α) m cs)) (hc : cs = dx xs) (hm : m = xs.length) (hx : evC st x = .list rows tk) (hy : rows = ys.map cells) (hb : (xs.length + ys.length) * bytes ≤ 140737488355328) (hmax : xs.length + ys.length ≤ 9223372036854775807)
  (h : ∀ v : Nat, K (St.put { st with G := ay st.G n (.arr v wv e (Enc.n α) (xs ++ ys).length (dx (xs ++ ys))) } o.dst (.own n v (xs ++ ys).length))) : EStep P o st K := by
 subst hc; subst hm; subst hy
 by_cases h0 : ys = []
 ·subst h0
  have h1 := h ver
  simp only [List.append_nil] at h1
  have h2 : ay st.G n (.arr ver wv e (Enc.n α) xs.length (dx xs)) = st.G := by
   funext k
   simp only [ay]
   split
   ·rename_i e; rw [e, hG]
   ·rfl
  rw [h2] at h1
  exact SStep.e' (NStep.s (D := fun _ => True) (ulv ho hs hx)) h1
 ·refine un2 ho hs hG hx (ml ys) (by simpa using hb) (by simpa using hmax) (by simpa using h0) ?_
  have h1 := h (ver + 1)
  rw [ue7] at h1
  simpa [dx] using h1
end
end Go.AB
namespace Go.AB
open Go Go.RowKit
open Go.AB.Enc (cells)
open Go.PB (bg aj PlaceD bn bq bp ck az ak dc ce dr dv)
/-- the first of some numbers that is not nought -/
def orN (xs : List Int) : Int := (xs.find? fun x => !decide (x = 0)).getD 0
theorem uk8 {xs : List Int} {k : Nat} {x : Int} (hx : xs[k]? = some x) (hne : x ≠ 0) (h : ∀ y ∈ xs.take k, y = 0) : orN xs = x := by
 unfold orN
 rw [List.find?_eq_some_iff_append.2 ⟨by simpa using hne, xs.take k, xs.drop (k + 1), ?_, fun y hy => by simp [h y hy]⟩]
 ·rfl
 obtain ⟨h1, h2⟩ := List.getElem?_eq_some_iff.1 hx
 rw [← h2, ← List.drop_eq_getElem_cons h1, List.take_append_drop]
theorem ula {xs : List Int} (h : ∀ y ∈ xs, y = 0) : orN xs = 0 := by
 unfold orN
 rw [List.find?_eq_none.2 fun y hy => by simp [h y hy]]
 rfl
theorem ul0 {α : Type} {l : List α} {k : Nat} {x : α} {p : α → Prop} (hx : l[k]? = some x) (hp : p x) (h : ∀ y ∈ l.take k, p y) : ∀ y ∈ l.take (k + 1), p y := fun y hy => by
 rw [List.take_add_one, hx] at hy
 simp only [Option.toList_some, List.mem_append, List.mem_singleton] at hy
 rcases hy with hy | rfl
 ·exact h y hy
 exact hp
def l9 (a b : PlaceD) : Int := fj (dl a) (dl b)
theorem uk9 (a b : PlaceD) : orN [iw a.ch b.ch, iw a.ln b.ln, iw a.wd b.wd] = l9 a b := by
 unfold orN l9 dl
 simp only [fj]
 by_cases h1 : iw a.ch b.ch = 0
 ·by_cases h2 : iw a.ln b.ln = 0
  ·by_cases h3 : iw a.wd b.wd = 0 <;> simp [h1, h2, h3]
  simp [h1, h2]
 simp [h1]
/-- the order of lists, shorter ones first -/
def y9 (a b : List Int) : Int := orN [(a.length : Int) - (b.length : Int), fj a b]
theorem wb (a b : List Int) : decide (y9 a b < 0) = i6 a b := by
 unfold y9 orN i6
 by_cases h1 : (a.length : Int) - (b.length : Int) = 0
 ·have h2 : a.length = b.length := by omega
  have h3 : ¬ a.length < b.length := by omega
  by_cases h4 : fj a b = 0
  ·simp [h2, h4]
  simp [h2, h4]
 have h2 : ¬ a.length = b.length := by omega
 by_cases h3 : a.length < b.length
 ·have : (a.length : Int) - (b.length : Int) < 0 := by omega
  simp [h1, h2, h3, this]
 have : ¬ (a.length : Int) - (b.length : Int) < 0 := by omega
 simp [h1, h2, h3, this]
def mh (t : aj) (k : Nat) : List Int := (List.range k).map fun i => (gi t i : Int)
theorem ub3 (t : aj) (k : Nat) : (mh t k).length = k := by simp [mh]
theorem ub4 {t : aj} {k i : Nat} (h : i < k) : (mh t k)[i]? = some (gi t i : Int) := by simp [mh, h]
theorem uiq (t : aj) (k : Nat) : mh t (k + 1) = mh t k ++ [(gi t k : Int)] := by
 unfold mh
 rw [List.range_succ, List.map_append]; rfl
theorem vz {t : aj} (ht : c7 t = true) (k : Nat) (hk : k ≤ t.length) : gi t k ≤ 60 := by
 obtain ⟨h1, h2, h3⟩ := lj ht
 have key : ∀ k, k ≤ t.length → gi t k ≤ 10 * k := by
  intro k
  induction k with
  | zero => intro _; rw [ub5]; exact Nat.zero_le _
  | succ k ih =>
   intro hk
   have hc : t[k]? = some t[k] := List.getElem?_eq_getElem (by omega)
   rw [ti hc]
   have := ih (by omega)
   have := (h3 _ (g5 hc)).2.1
   omega
 have := key k hk
 omega
end Go.AB
namespace Go.Proofs.YtgffhbbcpgdjjaaGreatDoor
set_option maxRecDepth 10000
open Go.RowKit Go.AB
open Go.AB.Enc (cells)
open Go.PB (bg aj PlaceD bn bq bp ck az ak dc ce dr dv)
theorem uc8 (xs : List Int) : Pure Tryz.prog 75 [lst xs] (.v (.int .i64 (orN xs))) := by
 refine di Tryz.func75 rfl (fun m => .v) fun G nx => ?_
 simp only [Tryz.ntmps75, List.length_cons, List.length_nil, Nat.reduceAdd, Nat.reduceSub]
 refine cp fun hlt => ?_
 dsimp only at hlt
 refine lf 0 (fun hf => ?_)
 replace hf := (fit_lst.1 hf).1
 refine yS fun _ K1 => ?_
 refine yR ?_
 refine yA rfl rfl ?_
 refine yN ?_
 dsimp only [St.put]
 refine K1 _ ?_
 refine yS fun _ K2 => ?_
 refine yR ?_
 refine yA rfl rfl ?_
 refine yN ?_
 dsimp only [St.put]
 refine K2 _ ?_
 refine yS fun _ K3 => ?_
 refine yS fun _ K4 => ?_
 refine yR ?_
 refine yM rfl rfl ?_
 refine aa rfl (bj rfl rfl (List.length_map _)) ?_
 refine yM rfl rfl ?_
 refine yN ?_
 dsimp only [St.put]
 refine K4 _ ?_
 refine cb ?_
 refine dh 9 ?_
 refine zQ ?_
 refine du (G) zX ?_
 dsimp only
 refine dz (X := Nat) (fun k => k ≤ xs.length ∧ ∀ y ∈ xs.take k, y = 0) (fun k => xs.length - k) (fun k => [(4, .any), (5, .any), (8, .v (.int .i64 (k : Int)))]) (fun k G' => G') 0 rfl ?_ ?_ (fun _ _ h => h) ?_ ?_ ?_
 ·exact ⟨by simp, by simp⟩
 ·exact zF
 ·rintro k hI
  exact zL
 ·exact fun _ _ _ _ h => .inl h
 rintro k hI
 dsimp only at hI ⊢
 refine yS fun _ K5 => ?_
 refine yR ?_
 refine aa rfl (c5 rfl rfl rfl) ?_
 refine yN ?_
 dsimp only [St.put]
 refine K5 _ ?_
 refine yS fun _ K6 => ?_
 refine bd rfl (fun hc => ?_) (fun hc => ?_)
 ·replace hc := of_decide_eq_true hc
  obtain ⟨x, hx⟩ : ∃ x, xs[k]? = some x := d8 (by omega)
  refine bi ?_
  refine K6 _ ?_
  refine yS fun _ K7 => ?_
  refine cb ?_
  refine yS fun _ K8 => ?_
  refine yR ?_
  refine aa rfl (bk rfl rfl rfl rfl (bu (by assumption)) (Enc.len _)) ?_
  refine yL rfl rfl rfl ?_
  refine yA rfl rfl ?_
  refine yN ?_
  dsimp only [St.put]
  refine K8 _ ?_
  refine yS fun _ K9 => ?_
  refine yR ?_
  refine yM rfl rfl ?_
  refine yM rfl rfl ?_
  refine aa rfl (fq rfl rfl rfl) ?_
  refine yN ?_
  dsimp only [St.put]
  refine K9 _ ?_
  refine bd rfl (fun hc => ?_) (fun hc => ?_)
  ·replace hc := j8 hc
   refine yS fun _ K10 => ?_
   refine yR ?_
   refine yM rfl rfl ?_
   refine yA rfl rfl ?_
   refine yN ?_
   dsimp only [St.put]
   refine K10 _ ?_
   refine bc ?_
   refine bx rfl (by constructor) zN zS ?_
   exact vi (uk8 hx hc hI.2).symm
  replace hc := iy hc
  refine bi ?_
  refine K7 _ ?_
  refine yR ?_
  refine aa rfl (cm rfl rfl rfl (by omega)) ?_
  refine yM rfl rfl ?_
  refine yN ?_
  dsimp only [St.put]
  exact ⟨k + 1, by omega, ⟨by omega, ul0 hx hc hI.2⟩, ⟨⟨rfl, rfl⟩, zF, zB, zN, zX⟩⟩
 try replace hc := of_decide_eq_false hc
 refine dq ?_
 refine K3 _ ?_
 refine yS fun _ K11 => ?_
 refine yR ?_
 refine yM rfl rfl ?_
 refine yA rfl rfl ?_
 refine yN ?_
 dsimp only [St.put]
 refine K11 _ ?_
 refine bc ?_
 refine bx rfl (by constructor) zN zS ?_
 exact vi (by
  rw [ula]
  have := hI.2
  rwa [g9 (by omega)] at this)
theorem ukz (n lo hi : Int) : Pure Tryz.prog 70 [.v (.int .i64 n), .elem [.v (.int .i64 lo)], .elem [.v (.int .i64 hi)]] (.v (.bool (mj n lo hi))) := by
 refine di Tryz.func70 rfl (fun m => .v) fun G nx => ?_
 simp only [Tryz.ntmps70, List.length_cons, List.length_nil, Nat.reduceAdd, Nat.reduceSub]
 refine cp fun hlt => ?_
 dsimp only at hlt
 refine yS fun _ K1 => ?_
 refine yR ?_
 refine yA rfl rfl ?_
 refine yN ?_
 dsimp only [St.put]
 refine K1 _ ?_
 refine yS fun _ K2 => ?_
 refine yR ?_
 refine yM rfl rfl ?_
 refine yL rfl rfl rfl ?_
 refine aa rfl (c5 rfl rfl rfl) ?_
 refine er (fun hs => ?_) (fun hs => ?_)
 ·try replace hs := of_decide_eq_true hs
  refine yM rfl rfl ?_
  refine yK rfl ?_
  refine yK rfl ?_
  refine yK rfl ?_
  refine aa rfl (cn rfl rfl (by constructor)) ?_
  refine yA rfl rfl ?_
  refine yN ?_
  dsimp only [St.put]
  refine K2 _ ?_
  refine bc ?_
  refine bx rfl (by constructor) zN zS ?_
  exact vb (by simp [mj, hs]; try omega)
 try replace hs := of_decide_eq_false hs
 refine yM rfl rfl ?_
 refine yM rfl rfl ?_
 refine yL rfl rfl rfl ?_
 refine aa rfl (im rfl rfl rfl) ?_
 refine aa rfl (cv rfl rfl (by constructor)) ?_
 refine yA rfl rfl ?_
 refine yN ?_
 dsimp only [St.put]
 refine K2 _ ?_
 refine bc ?_
 refine bx rfl (by constructor) zN zS ?_
 exact vb (by simp [mj, hs]; try omega)
theorem nk (lo hi : Int) (xs : List Int) : Pure Tryz.prog 46 [.v (.int .i64 lo), .v (.int .i64 hi), lst xs] (.v (.bool (xk lo hi xs))) := by
 refine di Tryz.func46 rfl (fun m => .v) fun G nx => ?_
 simp only [Tryz.ntmps46, List.length_cons, List.length_nil, Nat.reduceAdd, Nat.reduceSub]
 refine cp fun hlt => ?_
 dsimp only at hlt
 refine yS fun _ K1 => ?_
 refine yR ?_
 try dsimp only [St.put]
 refine yB rfl rfl rfl ?_
 try dsimp only [St.put]
 refine yB rfl rfl rfl ?_
 refine yA rfl rfl ?_
 refine yN ?_
 dsimp only [St.put]
 refine K1 _ ?_
 refine yS fun _ K2 => ?_
 refine yR ?_
 refine yM rfl rfl ?_
 refine aa rfl (pk rfl rfl) ?_
 try dsimp only [St.put]
 refine af rfl (bl rfl rfl rfl (yg xs (fun n => mj n lo hi) _ _ fun x _ => ukz x lo hi) ?_)
 refine aa rfl (ei rfl rfl) ?_
 refine yA rfl rfl ?_
 refine yN ?_
 dsimp only [St.put]
 refine K2 _ ?_
 refine bc ?_
 refine bx rfl (by constructor) zN zS ?_
 rfl
theorem zm (a b : PlaceD) : Pure Tryz.prog 67 [val a, val b] (.v (.int .i64 (l9 a b))) := by
 refine di Tryz.func67 rfl (fun m => .v) fun G nx => ?_
 simp only [Tryz.ntmps67, List.length_cons, List.length_nil, Nat.reduceAdd, Nat.reduceSub]
 refine cp fun hlt => ?_
 dsimp only at hlt
 refine yS fun _ K1 => ?_
 refine yR ?_
 try dsimp only [St.put]
 refine yB rfl rfl rfl ?_
 try dsimp only [St.put]
 refine yB rfl rfl rfl ?_
 refine yA rfl rfl ?_
 refine yN ?_
 dsimp only [St.put]
 refine K1 _ ?_
 refine yS fun _ K2 => ?_
 refine g8 [(0, none), (1, none), (2, none), (3, none), (5, none), (6, none), (7, none), (8, none), (10, none), (11, none), (12, none), (13, none), (4, none), (9, none), (14, none), (15, none), (16, none), (17, none)] (fun i => [14, 15, 16].contains i) (fun i => [4, 9, 14, 15, 16].contains i) (fun i => [0, 2, 5, 7, 10, 12, 17].contains i) [] (by kernel_rfl) (by kernel_rfl) ?_
 refine ah rfl rfl rfl rfl (br rfl rfl rfl) ?_
 try dsimp only [St.put]
 refine ai rfl rfl rfl rfl (bh rfl rfl) ?_
 refine ah rfl rfl rfl rfl (br rfl rfl rfl) ?_
 try dsimp only [St.put]
 refine ai rfl rfl rfl rfl (bh rfl rfl) ?_
 refine ah rfl rfl rfl rfl (br rfl rfl rfl) ?_
 try dsimp only [St.put]
 refine ai rfl rfl rfl rfl (bh rfl rfl) ?_
 refine ah rfl rfl rfl rfl (br rfl rfl rfl) ?_
 try dsimp only [St.put]
 refine ai rfl rfl rfl rfl (bh rfl rfl) ?_
 refine ah rfl rfl rfl rfl (br rfl rfl rfl) ?_
 try dsimp only [St.put]
 refine ai rfl rfl rfl rfl (bh rfl rfl) ?_
 refine ah rfl rfl rfl rfl (br rfl rfl rfl) ?_
 try dsimp only [St.put]
 refine ai rfl rfl rfl rfl (bh rfl rfl) ?_
 refine j4 ?_
 try dsimp only [St.put]
 refine lg rfl rfl rfl (bl rfl rfl rfl (x4 _ _) ⟨zD, ?_⟩)
 try dsimp only [St.put]
 refine lg rfl rfl rfl (bl rfl rfl rfl (x4 _ _) ⟨zD, ?_⟩)
 try dsimp only [St.put]
 refine gg rfl rfl rfl rfl (bl rfl rfl rfl (x4 _ _) ?_)
 try dsimp only [St.put]
 refine gg rfl rfl rfl rfl (el rfl rfl rfl (by decide) (by decide) zR (by decide) ?_)
 try dsimp only [St.put]
 refine gg rfl rfl rfl rfl (bl rfl rfl rfl (uc8 [iw a.ch b.ch, iw a.ln b.ln, iw a.wd b.wd]) ?_)
 refine eo rfl rfl rfl rfl (bf rfl (by constructor)) ?_
 refine j3 ?_
 dsimp only [St.put]
 refine K2 _ ?_
 refine bc ?_
 refine bx rfl (by constructor) zN zS ?_
 exact vi (uk9 a b)
theorem uku (a b : List Int) (ha : a.length ≤ 1000) (hb : b.length ≤ 1000) : Pure Tryz.prog 57 [lst a, lst b] (.v (.int .i64 (y9 a b))) := by
 refine di Tryz.func57 rfl (fun m => .v) fun G nx => ?_
 simp only [Tryz.ntmps57, List.length_cons, List.length_nil, Nat.reduceAdd, Nat.reduceSub]
 refine cp fun hlt => ?_
 dsimp only at hlt
 refine yS fun _ K1 => ?_
 refine yR ?_
 refine yA rfl rfl ?_
 refine yN ?_
 dsimp only [St.put]
 refine K1 _ ?_
 refine yS fun _ K2 => ?_
 refine yR ?_
 refine yM rfl rfl ?_
 refine aa rfl (bj rfl rfl (List.length_map _)) ?_
 refine yM rfl rfl ?_
 refine aa rfl (bj rfl rfl (List.length_map _)) ?_
 refine aa rfl (ir rfl rfl rfl (by omega)) ?_
 refine yM rfl rfl ?_
 refine yM rfl rfl ?_
 try dsimp only [St.put]
 refine af rfl (bl rfl rfl rfl (uoa a b ha hb) ?_)
 try dsimp only [St.put]
 refine af rfl (el rfl rfl rfl (by decide) (by decide) zR (by decide) ?_)
 try dsimp only [St.put]
 refine af rfl (bl rfl rfl rfl (uc8 [(a.length : Int) - (b.length : Int), fj a b]) ?_)
 refine yA rfl rfl ?_
 refine yN ?_
 dsimp only [St.put]
 refine K2 _ ?_
 refine bc ?_
 refine bx rfl (by constructor) zN zS ?_
 rfl
theorem ukt (t : aj) (q : PlaceD) (ht : c7 t = true) : Pure Tryz.prog 66 [gp t, val q] (.v (.bool (f5 t q))) := by
 refine di Tryz.func66 rfl (fun m => .v) fun G nx => ?_
 simp only [Tryz.ntmps66, List.length_cons, List.length_nil, Nat.reduceAdd, Nat.reduceSub]
 refine cp fun hlt => ?_
 dsimp only at hlt
 obtain ⟨hl1, hl2, hl3⟩ := lj ht
 refine yS fun _ K1 => ?_
 refine yR ?_
 try dsimp only [St.put]
 refine yB rfl rfl rfl ?_
 try dsimp only [St.put]
 refine yB rfl rfl rfl ?_
 refine yA rfl rfl ?_
 refine yN ?_
 dsimp only [St.put]
 refine K1 _ ?_
 refine yS fun _ K2 => ?_
 refine dh 5 ?_
 refine zQ ?_
 refine l5 (X := Bool) (fun b => b = !(ij t (q.ch, q.ln)).isSome) (fun b => [(29, .v (.bool b))]) (fun b G' => G') rfl ?_ (fun _ _ _ _ h => .inl h) ?_ ?_
 ·rintro b hI
  exact zL
 ·refine sk [(0, none), (1, none), (2, none), (3, none), (4, none), (5, none)] (fun _ => false) (fun i => [0, 2, 3, 4].contains i) 19 (rl [6, 19]) (by kernel_rfl) (by kernel_rfl) ?_
  refine ah rfl rfl rfl rfl (br rfl rfl rfl) ?_
  try dsimp only [St.put]
  refine ai rfl rfl rfl rfl (bh rfl rfl) ?_
  refine ah rfl rfl rfl rfl (bj rfl rfl (List.length_map _)) ?_
  refine ah rfl rfl rfl rfl (ir rfl rfl rfl (by omega)) ?_
  refine ah rfl rfl rfl rfl (br rfl rfl rfl) ?_
  try dsimp only [St.put]
  refine ai rfl rfl rfl rfl (bh rfl rfl) ?_
  refine cz ?_
  refine eg [6] (by kernel_rfl) (by simp) ?_
  refine ef ?_ ?_
  ·try dsimp only [St.put]
   refine i7 rfl rfl rfl (el rfl rfl rfl (by decide) (by decide) zR (by decide) ?_)
   refine eg [7] (by kernel_rfl) (by simp) ?_
   refine ef ?_ ?_
   ·try dsimp only [St.put]
    refine i7 rfl rfl rfl (bl rfl rfl rfl (nk _ _ [_]) ?_)
    refine fb [(8, none), (9, none), (10, none), (11, none), (12, none), (13, none), (14, none), (15, none), (16, none), (17, none), (18, none), (19, none), (20, none)] (fun i => [8, 9, 10, 12, 14, 15, 17, 18, 19].contains i) 4 (rl [21, 4]) (by kernel_rfl) ?_
    refine ah rfl rfl rfl rfl (ei rfl rfl) ?_
    refine xM rfl rfl rfl rfl rfl ?_
    refine j5 (fun hs => ?_) (fun hs => ?_)
    ·have h8 : inB q.ch 0 ((t.length : Int) - 1) = false := by rw [gu] at hs; simpa using hs
     refine am rfl rfl rfl ?_
     refine am rfl rfl rfl ?_
     refine am rfl rfl rfl ?_
     refine am rfl rfl rfl ?_
     refine am rfl rfl rfl ?_
     refine am rfl rfl rfl ?_
     refine am rfl rfl rfl ?_
     refine am rfl rfl rfl ?_
     refine am rfl rfl rfl ?_
     refine am rfl rfl rfl ?_
     refine am rfl rfl rfl ?_
     refine cz ?_
     refine eg [21] (by kernel_rfl) (by simp) ?_
     refine ef ?_ ?_
     ·refine gm rfl rfl rfl ?_
      refine eg [22] (by kernel_rfl) (by simp) ?_
      refine ef ?_ ?_
      ·refine gm rfl rfl rfl ?_
       refine fb [(23, none), (24, none)] (fun i => [23, 24].contains i) 0 (rl [25]) (by kernel_rfl) ?_
       refine am rfl rfl rfl ?_
       refine ah rfl rfl rfl rfl (cn rfl rfl (by constructor)) ?_
       refine cz ?_
       dsimp only [St.put]
       refine i3 (by kernel_rfl) ?_
       refine ⟨_, ?_, ⟨⟨rfl, rfl⟩, zF, zB, zN, zX⟩⟩
       rw [vw]
       (simp [h8]; done)
      exact ed
     exact ed
    have h8 : inB q.ch 0 ((t.length : Int) - 1) = true := by rw [gu] at hs; simpa using hs
    have hn1' := h8
    simp only [inB_true] at hn1'
    obtain ⟨c, hcx⟩ : ∃ c, t[q.ch.toNat]? = some c := d8 (by omega)
    have hnl : lm t q.ch = c.lines.length := by simp [lm, hcx]
    have hll := (hl3 c (g5 hcx)).2.1
    have hch : q.ch = ((q.ch.toNat : Nat) : Int) := by omega
    refine ah rfl rfl rfl rfl (br rfl rfl rfl) ?_
    try dsimp only [St.put]
    refine ai rfl rfl rfl rfl (bh rfl rfl) ?_
    refine ah rfl rfl rfl rfl (br rfl rfl rfl) ?_
    try dsimp only [St.put]
    refine ai rfl rfl rfl rfl (bh rfl rfl) ?_
    try dsimp only [St.put]
    refine ah rfl rfl rfl rfl (bk rfl rfl rfl (by omega) (bu (by assumption)) (Enc.len _)) ?_
    refine ah rfl rfl rfl rfl (br rfl rfl rfl) ?_
    try dsimp only [St.put]
    refine ai rfl rfl rfl rfl (bh rfl rfl) ?_
    refine ah rfl rfl rfl rfl (bj rfl rfl (List.length_map _)) ?_
    refine ah rfl rfl rfl rfl (ir rfl rfl rfl (by omega)) ?_
    refine ah rfl rfl rfl rfl (br rfl rfl rfl) ?_
    try dsimp only [St.put]
    refine ai rfl rfl rfl rfl (bh rfl rfl) ?_
    refine cz ?_
    refine eg [21] (by kernel_rfl) (by simp) ?_
    refine ef ?_ ?_
    ·try dsimp only [St.put]
     refine i7 rfl rfl rfl (el rfl rfl rfl (by decide) (by decide) zR (by decide) ?_)
     refine eg [22] (by kernel_rfl) (by simp) ?_
     refine ef ?_ ?_
     ·try dsimp only [St.put]
      refine i7 rfl rfl rfl (bl rfl rfl rfl (nk _ _ [_]) ?_)
      refine fb [(23, none), (24, none)] (fun i => [23, 24].contains i) 0 (rl [25]) (by kernel_rfl) ?_
      refine ah rfl rfl rfl rfl (ei rfl rfl) ?_
      refine ah rfl rfl rfl rfl (cv rfl rfl (by constructor)) ?_
      refine cz ?_
      dsimp only [St.put]
      refine i3 (by kernel_rfl) ?_
      refine ⟨_, ?_, ⟨⟨rfl, rfl⟩, zF, zB, zN, zX⟩⟩
      rw [vw]
      (simp [h8, hnl, gu]; done)
     exact ed
    exact ed
   exact ed
  exact ed
 rintro b hst
 dsimp only at hst ⊢
 refine bd rfl (fun hc => ?_) (fun hc => ?_)
 ·have hw : ij t (q.ch, q.ln) = none := by rw [hc] at hst; simpa using hst.symm
  refine yS fun _ K4 => ?_
  refine yR ?_
  refine yA rfl rfl ?_
  refine yN ?_
  dsimp only [St.put]
  refine K4 _ ?_
  refine bc ?_
  refine bx rfl (by constructor) zN zS ?_
  exact vb (by unfold f5; rw [hw])
 have hw0 : (ij t (q.ch, q.ln)).isSome = true := by rw [hc] at hst; simpa using hst.symm
 obtain ⟨l, hw⟩ := Option.isSome_iff_exists.1 hw0
 obtain ⟨k, n, c, hkn, hk, hn⟩ := td hw
 have hch : q.ch = ((k : Nat) : Int) := congrArg Prod.fst hkn
 have hln : q.ln = ((n : Nat) : Int) := congrArg Prod.snd hkn
 have hwl := ta ht hw
 refine bi ?_
 refine K2 _ ?_
 refine yS fun _ K5 => ?_
 refine g8 [(0, none), (1, none), (2, none), (3, none), (4, none), (5, none), (6, none), (7, none), (8, none), (9, none), (10, none), (11, none), (12, none), (13, none), (14, none), (15, none), (16, none), (17, none)] (fun i => [16].contains i) (fun i => [15, 16].contains i) (fun i => [0, 2, 4, 5, 7, 9, 11, 12, 13, 17].contains i) [] (by kernel_rfl) (by kernel_rfl) ?_
 refine ah rfl rfl rfl rfl (br rfl rfl rfl) ?_
 try dsimp only [St.put]
 refine ai rfl rfl rfl rfl (bh rfl rfl) ?_
 refine ah rfl rfl rfl rfl (br rfl rfl rfl) ?_
 try dsimp only [St.put]
 refine ai rfl rfl rfl rfl (bh rfl rfl) ?_
 try dsimp only [St.put]
 refine ah rfl rfl rfl rfl (bk rfl rfl rfl (by omega) (bu (by assumption)) (Enc.len _)) ?_
 refine ah rfl rfl rfl rfl (br rfl rfl rfl) ?_
 try dsimp only [St.put]
 refine ai rfl rfl rfl rfl (bh rfl rfl) ?_
 refine ah rfl rfl rfl rfl (br rfl rfl rfl) ?_
 try dsimp only [St.put]
 refine ai rfl rfl rfl rfl (bh rfl rfl) ?_
 try dsimp only [St.put]
 refine ah rfl rfl rfl rfl (bk rfl rfl rfl (by omega) (bu (by assumption)) (Enc.len _)) ?_
 try dsimp only [St.put]
 refine ai rfl rfl rfl rfl (bh rfl rfl) ?_
 refine ah rfl rfl rfl rfl (bj rfl rfl (List.length_map _)) ?_
 refine ah rfl rfl rfl rfl (ir rfl rfl rfl (by omega)) ?_
 refine ah rfl rfl rfl rfl (br rfl rfl rfl) ?_
 try dsimp only [St.put]
 refine ai rfl rfl rfl rfl (bh rfl rfl) ?_
 refine j4 ?_
 try dsimp only [St.put]
 refine lg rfl rfl rfl (el rfl rfl rfl (by decide) (by decide) zR (by decide) ⟨zD, ?_⟩)
 try dsimp only [St.put]
 refine gg rfl rfl rfl rfl (bl rfl rfl rfl (nk _ _ [_]) ?_)
 refine eo rfl rfl rfl rfl (bf rfl (by constructor)) ?_
 refine j3 ?_
 dsimp only [St.put]
 refine K5 _ ?_
 refine bc ?_
 refine bx rfl (by constructor) zN zS ?_
 exact vb (by unfold f5; rw [hw, gu])
theorem uky (t : aj) (ht : c7 t = true) : Pure Tryz.prog 65 [gp t] (.tup [lst (mh t t.length), .v (.int .i64 (mn t : Int))]) := by
 refine di Tryz.func65 rfl (fun m => .tup (ct (co _ _) (ct .v dj))) fun G nx => ?_
 simp only [Tryz.ntmps65, List.length_cons, List.length_nil, Nat.reduceAdd, Nat.reduceSub]
 refine cp fun hlt => ?_
 dsimp only at hlt
 obtain ⟨hl1, hl2, hl3⟩ := lj ht
 refine yS fun _ K1 => ?_
 refine yR ?_
 try dsimp only [St.put]
 refine yB rfl rfl rfl ?_
 refine yA rfl rfl ?_
 refine yA rfl rfl ?_
 refine yN ?_
 dsimp only [St.put]
 refine K1 _ ?_
 refine yS fun _ K2 => ?_
 refine yR ?_
 refine yA rfl rfl ?_
 refine yN ?_
 dsimp only [St.put]
 refine K2 _ ?_
 refine qw 4 3 1 rfl (by decide) ?_
 dsimp only [List.set_cons_zero, List.set_cons_succ]
 refine yS fun _ K3 => ?_
 refine yR ?_
 refine yA rfl rfl ?_
 refine yN ?_
 dsimp only [St.put]
 refine K3 _ ?_
 refine yS fun _ K4 => ?_
 refine yS fun _ K5 => ?_
 refine yR ?_
 refine yF rfl rfl rfl rfl ?_
 refine yL rfl rfl rfl ?_
 refine aa rfl (bj rfl rfl (List.length_map _)) ?_
 refine yM rfl rfl ?_
 refine yN ?_
 dsimp only [St.put]
 refine K5 _ ?_
 refine cb ?_
 refine dh 12 ?_
 refine zQ ?_
 refine du (ay G nx (.tip 0 3 1)) zX ?_
 dsimp only
 refine dz (X := Nat) (fun k => k ≤ t.length) (fun k => t.length - k) (fun k => [(4, .list ((mh t k).map cells) (.tip nx)), (5, .v (.int .i64 (gi t k : Int))), (7, .any), (11, .v (.int .i64 (k : Int)))]) (fun k G' => ay G nx (.tip (mh t k).length 3 1)) 0 rfl ?_ ?_ ?_ ?_ ?_ ?_
 ·exact Nat.zero_le _
 ·exact zF
 ·exact zX
 ·rintro k hI
  exact zL
 ·rintro k hI
  exact zH
 rintro k hI
 dsimp only at hI ⊢
 refine yS fun _ K6 => ?_
 refine yR ?_
 refine aa rfl (c5 rfl rfl rfl) ?_
 refine yN ?_
 dsimp only [St.put]
 refine K6 _ ?_
 refine yS fun _ K7 => ?_
 refine bd rfl (fun hc => ?_) (fun hc => ?_)
 ·replace hc := of_decide_eq_true hc
  obtain ⟨c, hcx⟩ : ∃ c, t[k]? = some c := d8 (by omega)
  have hll := (hl3 c (g5 hcx)).2.1
  have hsl := vz ht k (by omega)
  have hst : ((gi t (k + 1) : Nat) : Int) = (gi t k : Int) + (c.lines.length : Int) := by rw [ti hcx]; omega
  have hln := ub3 t k
  refine bi ?_
  refine K7 _ ?_
  refine yS fun _ K8 => ?_
  refine cb ?_
  refine yS fun _ K9 => ?_
  refine yR ?_
  refine aa rfl (bk rfl rfl rfl rfl (bu (by assumption)) (Enc.len _)) ?_
  refine yE rfl rfl rfl ?_
  try dsimp only [St.put]
  refine af rfl (dt rfl ?_)
  try dsimp only [St.put]
  refine af rfl (da rfl rfl rfl zG rfl rfl (by rfl) ?_)
  refine yN ?_
  dsimp only [St.put]
  refine K9 _ ?_
  refine gl (i := 7) rfl zG zC ?_
  dsimp only
  refine yS fun _ K10 => ?_
  refine yR ?_
  refine yM rfl rfl ?_
  refine yM rfl rfl ?_
  try dsimp only [St.put]
  refine af rfl (el rfl rfl rfl (by decide) (by decide) zR (by decide) ?_)
  try dsimp only [St.put]
  refine af rfl (l4 ([(gi t k : Int)]) rfl rfl zG zE rfl rfl zA ?_ zA)
  refine yA rfl rfl ?_
  refine yN ?_
  dsimp only [St.put]
  refine K10 _ ?_
  refine yR ?_
  refine yM rfl rfl ?_
  refine yF rfl rfl rfl rfl ?_
  refine yL rfl rfl rfl ?_
  refine aa rfl (bj rfl rfl (List.length_map _)) ?_
  refine aa rfl (cm rfl rfl rfl (by omega)) ?_
  refine yA rfl rfl ?_
  refine yN ?_
  dsimp only [St.put]
  refine K8 _ ?_
  refine yR ?_
  refine aa rfl (cm rfl rfl rfl (by omega)) ?_
  refine yM rfl rfl ?_
  refine yN ?_
  dsimp only [St.put]
  rw [← hst]
  simp only [← uiq]
  exact ⟨k + 1, by omega, by omega, ⟨⟨rfl, rfl⟩, zF, zB, zN, zX⟩⟩
 replace hc := of_decide_eq_false hc
 obtain rfl : k = t.length := by omega
 refine dq ?_
 refine K4 _ ?_
 refine yS fun _ K11 => ?_
 refine yR ?_
 refine yM rfl rfl ?_
 refine yM rfl rfl ?_
 refine yA rfl rfl ?_
 refine yA rfl rfl ?_
 refine yN ?_
 dsimp only [St.put]
 refine K11 _ ?_
 refine bc ?_
 refine ii rfl (ep (by constructor)) (ep (by constructor)) zN zS ?_ ?_
 ·exact zW
 exact Wk.of_eq (vi rfl)
end Go.Proofs.YtgffhbbcpgdjjaaGreatDoor
namespace Go.AB
open Go Go.RowKit Go.ChangeShapes Go.WideShapes
open Go.AB.Enc (cells)
open Go.PB (bg aj PlaceD bn bq bp)
/-- What is read along a type is a datum. -/
class OpensE (P : Program) (t : TypeId) (α : Type) [Enc α] : Prop where
 n : P.cellsOf t = Enc.n α
 op : ∀ {H : Type} {enc : TypeId × Value → H} {w : World} {base : Nat} {spare : Nat → Bool} {held : Bool} {fuel : Nat} {cs : List Value} {x : DataW H × List MemPlace}, DataW.trod enc P w base spare held fuel t cs = some x → ∃ a : α, Rs (j2 w) w (cells a) cs
def uv (P : Program) (t : TypeId) (k : IntKind) : Bool := match P.underlying t with | some (.int k') => k' == k && P.cellsOf t == 1 | _ => false
def y4 (P : Program) (t : TypeId) : Bool := match P.underlying t with | some .string => P.cellsOf t == 1 | _ => false
def y7 (P : Program) (t e : TypeId) : Bool := match P.underlying t with | some (.slice e') => e' == e && P.cellsOf t == 1 | _ => false
def jv (P : Program) (t : TypeId) (l : List (Nat × TypeId × Nat)) (n : Nat) : Bool := match P.underlying t with
 | some (.struct fs) => (fs.toList.map fun f => (f.offset, f.type, P.cellsOf f.type)) == l && P.cellsOf t == n
 | _ => false
theorem wfI64 {n : Int} (h : (Lit.int .i64 n).wf = true) : okV (.int .i64 n) = true := by
 simp [Lit.wf, IntKind.min, IntKind.max, IntKind.signed, IntKind.bits] at h
 exact jh ⟨by omega, by omega⟩
theorem wfU8 {n : Int} (h : (Lit.int .u8 n).wf = true) : okV (.int .u8 n) = true := by
 simp [Lit.wf, IntKind.min, IntKind.max, IntKind.signed, IntKind.bits] at h
 exact zq ⟨by omega, by omega⟩
section
variable {P : Program} {t e : TypeId}
theorem uag {k : IntKind} (h : uv P t k = true) : P.underlying t = some (.int k) ∧ P.cellsOf t = 1 := by
 unfold uv at h
 split at h
 ·rename_i k' he
  simp only [Bool.and_eq_true, beq_iff_eq] at h
  rw [he, h.1]; exact ⟨rfl, h.2⟩
 ·cases h
theorem ub1 (h : y4 P t = true) : P.underlying t = some .string ∧ P.cellsOf t = 1 := by
 unfold y4 at h
 split at h
 ·rename_i he; exact ⟨he, by simpa using h⟩
 ·cases h
theorem ub8 (h : y7 P t e = true) : P.underlying t = some (.slice e) ∧ P.cellsOf t = 1 := by
 unfold y7 at h
 split at h
 ·rename_i k' he
  simp only [Bool.and_eq_true, beq_iff_eq] at h
  rw [he, h.1]; exact ⟨rfl, h.2⟩
 ·cases h
theorem Rs.single {E : Env} {w : World} {c : C} {v : Value} (h : R E w c v) : Rs E w [c] [v] := Rs.cons h Rs.nil
theorem Rs.single_inv {E : Env} {w : World} {c : C} {v : Value} (h : Rs E w [c] [v]) : R E w c v := h.2 0 c v rfl rfl
theorem OpensE.int (h : uv P t .i64 = true) : OpensE P t Int where
 n := (uag h).2
 op hx := by
  obtain ⟨n, rfl, _, h2⟩ := DataW.trod_int (uag h).1 hx
  exact ⟨n, Rs.single (.v (wfI64 h2))⟩
theorem OpensE.str (h : y4 P t = true) : OpensE P t ByteArray where
 n := (ub1 h).2
 op hx := by
  obtain ⟨s, rfl, _, h2⟩ := DataW.trod_string (ub1 h).1 hx
  exact ⟨s, Rs.single (.v (okV_str.2 (by simpa [maxLen] using h2)))⟩
theorem uir {w : World} {a : Addr} {v : Value} (h : w.cell? a = some v) : a.spot = none := by
 unfold World.cell? at h
 split at h
 ·split at h
  ·cases h
  ·rename_i hs
   cases hsp : a.spot with
   | none => rfl
   | some s => simp [hsp] at hs
 ·cases h
theorem uea {α : Type} {p : Nat → α → Prop} : ∀ (n : Nat), (∀ i, i < n → ∃ x, p i x) → ∃ xs : List α, xs.length = n ∧ ∀ i x, xs[i]? = some x → p i x
 | 0, _ => ⟨[], rfl, fun i x h => by simp at h⟩
 | n + 1, h => by
  obtain ⟨xs, h1, h2⟩ := uea n fun i hi => h i (by omega)
  obtain ⟨y, hy⟩ := h n (by omega)
  refine ⟨xs ++ [y], by simp [h1], fun i x hx => ?_⟩
  by_cases hi : i < xs.length
  ·rw [List.getElem?_append_left hi] at hx; exact h2 i x hx
  ·rw [List.getElem?_append_right (by omega)] at hx
   have hz : i - xs.length = 0 := by
    have := (List.getElem?_eq_some_iff.1 hx).1
    simp at this; omega
   rw [hz] at hx
   simp at hx
   subst hx
   rw [show i = n by omega]; exact hy
theorem ucl {α : Type} [Enc α] {E : Env} {w : World} {b : Nat} : ∀ (xs : List α) (off : Nat), (∀ i x, xs[i]? = some x → ∃ es, Rs E w (cells x) es ∧ ∀ j e, es[j]? = some e → w.cell? ⟨b, off + i * Enc.n α + j, none⟩ = some e) →
  ∃ us, Rs E w (xs.map cells).flatten us ∧ ∀ j u, us[j]? = some u → w.cell? ⟨b, off + j, none⟩ = some u
 | [], off, _ => ⟨[], Rs.nil, by simp⟩
 | x :: xs, off, h => by
  obtain ⟨es, h1, h2⟩ := h 0 x rfl
  obtain ⟨us, h3, h4⟩ := ucl xs (off + Enc.n α) fun i y hy => by
   obtain ⟨fs, k1, k2⟩ := h (i + 1) y (by simpa using hy)
   exact ⟨fs, k1, fun j e he => by rw [← k2 j e he]; congr 2; rw [Nat.add_mul]; omega⟩
  have hl : es.length = Enc.n α := by rw [h1.1]; exact Enc.len x
  refine ⟨es ++ us, by rw [List.map_cons, List.flatten_cons]; exact h1.append h3, fun j u hu => ?_⟩
  by_cases hj : j < es.length
  ·rw [List.getElem?_append_left hj] at hu
   rw [← h2 j u hu]; congr 2; omega
  ·rw [List.getElem?_append_right (by omega)] at hu
   rw [← h4 _ u hu]; congr 2; omega
theorem OpensE.slice {α : Type} [Enc α] [o : OpensE P e α] (h : y7 P t e = true) (hpos : 1 ≤ Enc.n α) : OpensE P t (List α) where
 n := (ub8 h).2
 op {H enc w base spare held fuel cs x} hx := by
  rcases Deep.open_slice (ub8 h).1 hx with ⟨rfl, _⟩ | ⟨a, len, cap, m, n, D, Pl, rfl, hb, hl, hm, hmm, _, hel⟩
  ·refine ⟨[], Rs.single ?_⟩
   exact R.mk_list (rows := []) (sz := 1) (us := []) (Nat.le_refl _) (Nat.zero_le _) (Nat.le_refl _) (by simp) (by simp) Rs.nil (.inl rfl) (by simp) (by simp) (by simp)
  ·have hlm : len ≤ m := by rw [hmm]; split <;> omega
   have hs : 0 < len → a.spot = none := fun h0 => by
    obtain ⟨cs', hc, ht⟩ := hel 0 (by omega)
    obtain ⟨_, hlen, hcell⟩ := World.cells?_some hc
    rw [o.n] at hlen hcell
    have := hcell 0 (by omega)
    rw [List.getElem?_eq_getElem (by omega)] at this
    have := uir this
    simpa [Addr.add] using this
   obtain ⟨xs, h1, h2⟩ := uea (p := fun i (y : α) => ∃ es, Rs (j2 w) w (cells y) es ∧ ∀ j e, es[j]? = some e → w.cell? ⟨a.block, a.off + i * Enc.n α + j, none⟩ = some e) len fun i hi => by
    obtain ⟨cs', hc, ht⟩ := hel i (by omega)
    obtain ⟨y, hy⟩ := o.op ht
    obtain ⟨_, hlen, hcell⟩ := World.cells?_some hc
    rw [o.n] at hlen hcell hc
    have hs' := hs (by omega)
    refine ⟨y, cs', hy, fun j u hj => ?_⟩
    have hj' : j < Enc.n α := by rw [← hlen]; exact (List.getElem?_eq_some_iff.1 hj).1
    have := hcell j hj'
    rw [hj] at this
    rw [← this]
    obtain ⟨ab, ao, asp⟩ := a
    dsimp only at hs'
    subst hs'
    rw [qd, qd]
   subst h1
   refine ⟨xs, Rs.single ?_⟩
   obtain ⟨us, k1, k2⟩ := ucl (E := j2 w) (w := w) (b := a.block) xs a.off h2
   have := R.mk_list (E := j2 w) (w := w) (rows := xs.map cells) (a := some a) (cap := cap) (sz := Enc.n α) (us := us) (tok := .none) (by simpa using hl) hm hpos (ml xs) (fun r hr c hc => by
    obtain ⟨x, _, rfl⟩ := List.mem_map.1 hr
    exact Enc.one x c hc) k1 (by
    by_cases hxs : xs = []
    ·subst hxs; exact .inl rfl
    ·right
     have hs' := hs (List.length_pos_iff.2 hxs)
     obtain ⟨ab, ao, asp⟩ := a
     dsimp only at hs'
     subst hs'
     refine ⟨ab, ao, rfl, ?_, k2⟩
     have h0 : 0 < us.length := by
      rw [k1.1, mr (ml xs), List.length_map]
      exact Nat.mul_pos (List.length_pos_iff.2 hxs) hpos
     have := uf5 (k2 (us.length - 1) _ (List.getElem?_eq_getElem (by omega)))
     dsimp only at this
     show ao + us.length ≤ qu w ab
     omega) (by simp) (by simp) (by simp)
   rw [List.length_map] at this
   exact this
theorem ub2 {l : List (Nat × TypeId × Nat)} {n : Nat} (h : jv P t l n = true) {H : Type} {enc : TypeId × Value → H} {w : World} {base : Nat} {spare : Nat → Bool} {held : Bool} {fuel : Nat} {cs : List Value} {x : DataW H × List MemPlace}
  (hx : DataW.trod enc P w base spare held fuel t cs = some x) : cs.length = n ∧ ∀ p ∈ l, ∃ m y, DataW.trod enc P w base spare held m p.2.1 ((cs.drop p.1).take p.2.2) = some y := by
 unfold jv at h
 split at h
 ·rename_i fs he
  simp only [Bool.and_eq_true, beq_iff_eq] at h
  obtain ⟨xs, m, _, _, hl, hlen, hf⟩ := DataW.trod_struct he hx
  refine ⟨by rw [hl, h.2], fun p hp => ?_⟩
  rw [← h.1] at hp
  obtain ⟨f, hfm, rfl⟩ := List.mem_map.1 hp
  obtain ⟨i, hi⟩ := List.getElem?_of_mem hfm
  have hi' : fs[i]? = some f := by simpa using hi
  have hlt : i < xs.length := by rw [hlen]; exact (Array.getElem?_eq_some_iff.1 hi').1
  exact ⟨m, xs[i], by rw [← List.getElem?_eq_getElem hlt]; exact hf i f hi'⟩
 ·cases h
theorem vy {l : List (Nat × TypeId × Nat)} {n : Nat} (h : jv P t l n = true) : P.cellsOf t = n ∧ ∃ fs, P.underlying t = some (.struct fs) := by
 unfold jv at h
 split at h
 ·rename_i fs he
  simp only [Bool.and_eq_true, beq_iff_eq] at h
  exact ⟨h.2, fs, he⟩
 ·cases h
/-- A struct of one field. -/
theorem OpensE.one {α : Type} [Enc α] [o : OpensE P e α] (h : jv P t [(0, e, Enc.n α)] (Enc.n α) = true) : OpensE P t α where
 n := (vy h).1
 op {H enc w base spare held fuel cs x} hx := by
  obtain ⟨hl, hp⟩ := ub2 h hx
  obtain ⟨m, y, hy⟩ := hp _ (List.mem_cons_self ..)
  obtain ⟨a, ha⟩ := o.op hy
  dsimp only at ha
  rw [List.drop_zero, List.take_of_length_le (by omega)] at ha
  exact ⟨a, ha⟩
/-- A struct, field by field. -/
theorem OpensE.struct {α : Type} [Enc α] {l : List (Nat × TypeId × Nat)} (h : jv P t l (Enc.n α) = true)
  (b : ∀ (w : World) (cs : List Value), cs.length = Enc.n α → (∀ p ∈ l, ∀ (β : Type) (_ : Enc β), OpensE P p.2.1 β → ∃ a : β, Rs (j2 w) w (cells a) ((cs.drop p.1).take p.2.2)) → ∃ a : α, Rs (j2 w) w (cells a) cs) : OpensE P t α where
 n := (vy h).1
 op {H enc w base spare held fuel cs x} hx := by
  obtain ⟨hl, hp⟩ := ub2 h hx
  exact b w cs hl fun p hpl β _ o => let ⟨_, _, hy⟩ := hp p hpl; o.op hy
theorem OpensE.chap {tI tL : TypeId} [oI : OpensE P tI Int] [oL : OpensE P tL (List (List ByteArray))] (h : jv P t [(0, tI, 1), (1, tL, 1)] 2 = true) : OpensE P t bg :=
 .struct (α := bg) h fun w cs hl hp => by
  obtain ⟨a, ha⟩ := hp (0, tI, 1) (by simp) Int inferInstance oI
  obtain ⟨b, hb⟩ := hp (1, tL, 1) (by simp) (List (List ByteArray)) inferInstance oL
  match cs, hl with
  | [u, v], _ => exact ⟨⟨a, b⟩, Rs.cons (Rs.single_inv ha) hb⟩
theorem OpensE.place {tI : TypeId} [oI : OpensE P tI Int] (h : jv P t [(0, tI, 1), (1, tI, 1), (2, tI, 1)] 3 = true) : OpensE P t PlaceD :=
 .struct (α := PlaceD) h fun w cs hl hp => by
  obtain ⟨a, ha⟩ := hp (0, tI, 1) (by simp) Int inferInstance oI
  obtain ⟨b, hb⟩ := hp (1, tI, 1) (by simp) Int inferInstance oI
  obtain ⟨c, hc⟩ := hp (2, tI, 1) (by simp) Int inferInstance oI
  match cs, hl with
  | [u, v, x], _ => exact ⟨⟨a, b, c⟩, Rs.cons (Rs.single_inv ha) (Rs.cons (Rs.single_inv hb) hc)⟩
/-- An argument that is a struct; a number. -/
theorem OpensE.arg {α : Type} [Enc α] [o : OpensE P t α] {l : List (Nat × TypeId × Nat)} {n : Nat} (h : jv P t l n = true) {H : Type} {enc : TypeId × Value → H} {w : World} {base : Nat} {spare : Nat → Bool} {held : Bool} {r : Reach} {b0 : Nat} {v : Value} {d : DataW H} {ps : List MemPlace}
  (hv : Value.okWide P w r b0 t v) (hd : DataW.Trod enc P w base spare held t v d ps) : ∃ a : α, R (j2 w) w (.agg (cells a)) v := by
 obtain ⟨fs, hs⟩ := (vy h).2
 obtain ⟨cs, rfl, _⟩ := okWide_struct hs hv
 obtain ⟨fuel, hf⟩ := hd
 obtain ⟨a, ha⟩ := o.op hf
 exact ⟨a, by simpa [Value.cells] using Rs.agg ha (Enc.one a)⟩
end
theorem ump {P : Program} {f : FuncId} {cs : List C} {v fv : Value} {fc : C} (hp : PureF (.fact fv fc) P f cs (.v v)) {w : World} {args : List Value} (hF : R (j2 w) w fc fv) (hr : Rs (j2 w) w cs args) :
  Calls P f args.toArray w fun e w' => e = .returned v ∧ Below w.heap.size w w' := by
 obtain ⟨E1, v1, g1⟩ := ufc (uph w) hF
 refine (hp _ _ (ng _ _ _) E1 w args (hr.ev v1) g1).mono ?_
 rintro e w' ⟨r, x, E', G', nx', rfl, hev, hx, _, rfl, _⟩
 exact ⟨by rw [hx.v_inv], by have := hev.below; rw [v1.B] at this; exact this⟩
end Go.AB
namespace Go.AB
open Go Go.RowKit Go.ChangeShapes Go.WideShapes
open Go.AB.Enc (cells)
variable {P : Program} {o : Oper} {st : St}
theorem n_rem {xt yt : TypeId} {x y : Operand} {m n : Int} (ho : o.op = .binOp .rem xt x y yt) (hx : evC st x = .v (.int .i64 m)) (hy : evC st y = .v (.int .i64 n)) (hm : 0 ≤ m ∧ m ≤ 9223372036854775807) (hn : 0 < n) : NStep P o st (.v (.int .i64 (m % n))) :=
 kb ho hx hy (jh (by have h1 := Int.emod_nonneg m (b := n) (by omega); have h2 := Int.mul_ediv_add_emod m n; have h3 := Int.mul_nonneg (Int.le_of_lt hn) (Int.ediv_nonneg hm.1 (Int.le_of_lt hn)); omega)) fun w => by
  have h1 : ¬ n = 0 := by omega
  have h2 : m.tmod n = m % n := Int.tmod_eq_emod_of_nonneg hm.1
  simp [eqGuard, binOp, Op.intDiv, h1, h2]
theorem ulu {s d : TypeId} {x : Operand} {k : IntKind} {n : Int} (ho : o.op = .convert s d x) (hx : evC st x = .v (.int k n)) (hs : (P.underlying s).isSome = true) (hd : P.underlying d = some (.int .i64)) (hn : -9223372036854775808 ≤ n ∧ n ≤ 9223372036854775807) : NStep P o st (.v (.int .i64 n)) := fun E w a h => by
 have e1 := (hx ▸ h.ev x).v_inv
 refine ⟨_, .v (jh hn), fun w' => ?_⟩
 have hk : P.intKind d = .i64 := by simp [Program.intKind, hd]
 have hw : IntKind.i64.wrap n = n := by rw [IntKind.wrap_i64]; omega
 have := run_convert_int (P := P) w' s d k n hs (by rw [hk]; exact hd)
 rw [hk, hw] at this
 simp [execOp, ho, e1, this]
theorem OpensE.argU8 {t : TypeId} (h : uv P t .u8 = true) {H : Type} {enc : TypeId × Value → H} {w : World} {base : Nat} {spare : Nat → Bool} {held : Bool} {r : Reach} {b0 : Nat} {v : Value} {d : DataW H} {ps : List MemPlace}
  (hv : Value.okWide P w r b0 t v) (hd : DataW.Trod enc P w base spare held t v d ps) : ∃ a : Int, R (j2 w) w (.v (.int .u8 a)) v := by
 obtain ⟨i, rfl, _, _, wi⟩ := open_int (uag h).1 hv hd
 exact ⟨i, .v (wfU8 wi)⟩
theorem uh3 {n : Int} (h : (C.v (.int .u8 n)).fit) : 0 ≤ n ∧ n ≤ 255 := (okV_int.1 (fit_v.1 h) : _)
end Go.AB
namespace Go.AB
open Go Go.RowKit
open Go.AB.Enc (cells)
variable {P : Program} {o : Oper} {st : St}
theorem zz {xt yt : TypeId} {x y : Operand} {m n : Int} (ho : o.op = .binOp .mul xt x y yt) (hx : evC st x = .v (.int .i64 m)) (hy : evC st y = .v (.int .i64 n)) (hb : -9223372036854775808 ≤ m * n ∧ m * n ≤ 9223372036854775807) : NStep P o st (.v (.int .i64 (m * n))) :=
 kb ho hx hy (jh hb) fun w => by
  have : IntKind.i64.wrap (m * n) = m * n := by rw [IntKind.wrap_i64]; omega
  simp [eqGuard, binOp, Op.intArith, this]
theorem ue {xt yt : TypeId} {x y : Operand} {m n : Int} (ho : o.op = .binOp .quo xt x y yt) (hx : evC st x = .v (.int .i64 m)) (hy : evC st y = .v (.int .i64 n)) (hm : 0 ≤ m ∧ m ≤ 9223372036854775807) (hn : 0 < n) : NStep P o st (.v (.int .i64 (m / n))) := by
 have h3 : 0 ≤ m / n := Int.ediv_nonneg hm.1 (by omega)
 have h4 : m / n ≤ m := Int.ediv_le_self _ hm.1
 exact kb ho hx hy (jh (by omega)) fun w => by
  have h1 : ¬ n = 0 := by omega
  have h2 : m.tdiv n = m / n := Int.tdiv_eq_ediv_of_nonneg hm.1
  have h5 : IntKind.i64.wrap (m / n) = m / n := by rw [IntKind.wrap_i64]; omega
  simp [eqGuard, binOp, Op.intDiv, h1, h2, h5]
theorem uh4 {n : Nat} (h : n ≤ 62) : (2 : Int) ^ n ≤ 4611686018427387904 := by
 have : 2 ^ n ≤ 2 ^ 62 := Nat.pow_le_pow_right (by omega) h
 have h2 : ((2 ^ n : Nat) : Int) = (2 : Int) ^ n := by norm_cast
 rw [← h2]
 have h3 : (2 : Nat) ^ 62 = 4611686018427387904 := by decide
 omega
/-- one, shifted -/
theorem uds {xt yt : TypeId} {x y : Operand} {n : Nat} (ho : o.op = .binOp .shl xt x y yt) (hx : evC st x = .v (.int .i64 1)) (hy : evC st y = .v (.int .i64 (n : Int))) (hn : n ≤ 62) : NStep P o st (.v (.int .i64 ((2 ^ n : Nat) : Int))) := by
 have h0 := uh4 hn
 have h2 : ((2 ^ n : Nat) : Int) = (2 : Int) ^ n := by norm_cast
 have h1 : 0 ≤ ((2 ^ n : Nat) : Int) := Int.natCast_nonneg _
 exact kb ho hx hy (jh (by omega)) fun w => by
  have e1 : ¬ ((n : Int) < 0) := by omega
  have e2 : min (n : Int).toNat IntKind.i64.bits = n := by rw [Int.toNat_natCast]; show min n 64 = n; omega
  have e3 : IntKind.i64.wrap (1 * 2 ^ n) = ((2 ^ n : Nat) : Int) := by rw [Int.one_mul, ← h2, IntKind.wrap_i64]; omega
  simp only [eqGuard, binOp, Op.shift, e1, if_false, e2, e3]
  rfl
/-- a number that is not below 0, shifted back -/
theorem zy {xt yt : TypeId} {x y : Operand} {k : IntKind} {m n : Nat} (ho : o.op = .binOp .shr xt x y yt) (hx : evC st x = .v (.int k (m : Int))) (hy : evC st y = .v (.int .i64 (n : Int))) (hn : n ≤ k.bits) (hm : (m : Int) ≤ hiK k) (hk : loK k ≤ 0) : NStep P o st (.v (.int k ((m / 2 ^ n : Nat) : Int))) := by
 have h4 : m / 2 ^ n ≤ m := Nat.div_le_self _ _
 exact n_int' ho hx hy (okV_int.2 (by obtain ⟨q, hq⟩ : ∃ q, m / 2 ^ n = q := ⟨_, rfl⟩; rw [hq] at h4 ⊢; omega)) fun w => by
  have e1 : ¬ ((n : Int) < 0) := by omega
  have e2 : min (n : Int).toNat k.bits = n := by rw [Int.toNat_natCast]; omega
  have e3 : (m : Int).fdiv (2 ^ n) = ((m / 2 ^ n : Nat) : Int) := by
   have h2 : ((2 ^ n : Nat) : Int) = (2 : Int) ^ n := by norm_cast
   rw [← h2, Int.fdiv_eq_ediv_of_nonneg _ (Int.natCast_nonneg _)]
   norm_cast
  simp only [eqGuard, binOp, Op.shift, e1, if_false, e2, e3]
  rfl
where
 n_int' {op : BinOp} {xt yt : TypeId} {x y : Operand} {k k' : IntKind} {m n : Int} {r : Value} (ho : o.op = .binOp op xt x y yt) (hx : evC st x = .v (.int k m)) (hy : evC st y = .v (.int k' n))
  (h1 : okV r = true) (h : ∀ w, (do eqGuard op xt x y (.int k m) (.int k' n); binOp op xt (.int k m) (.int k' n)).run P w = .ok r w) : NStep P o st (.v r) := fun E w a hs => by
  have e1 := (hx ▸ hs.ev x).v_inv
  have e2 := (hy ▸ hs.ev y).v_inv
  refine ⟨r, .v h1, fun w' => ?_⟩
  have := h w'
  simp only [execOp, ho, e1, e2, Sem.run_bind] at this ⊢
  rw [this]
  rfl
/-- the last bit -/
theorem z6 {xt yt : TypeId} {x y : Operand} {k : IntKind} {m : Nat} (ho : o.op = .binOp .and xt x y yt) (hx : evC st x = .v (.int k (m : Int))) (hy : evC st y = .v (.int k 1)) (hm : m < 2 ^ k.bits) (hb : 2 ≤ k.bits) : NStep P o st (.v (.int k ((m % 2 : Nat) : Int))) := by
 have h2 : m % 2 < 2 := Nat.mod_lt _ (by omega)
 exact kb ho hx hy (okV_int.2 (by cases k <;> simp only [loK, hiK] <;> omega)) fun w => by
  have e1 : (BitVec.ofInt k.bits (m : Int) &&& BitVec.ofInt k.bits 1).toNat = m % 2 := by
   have q1 : (BitVec.ofInt k.bits (m : Int)).toNat = m := by
    rw [show BitVec.ofInt k.bits (m : Int) = BitVec.ofNat k.bits m from BitVec.ofInt_natCast .., BitVec.toNat_ofNat, Nat.mod_eq_of_lt hm]
   have q2 : (BitVec.ofInt k.bits 1).toNat = 1 := by
    rw [show BitVec.ofInt k.bits 1 = BitVec.ofNat k.bits 1 from BitVec.ofInt_natCast k.bits 1, BitVec.toNat_ofNat, Nat.mod_eq_of_lt]
    exact Nat.one_lt_two_pow (by omega)
   rw [BitVec.toNat_and, q1, q2, Nat.and_one_is_mod]
  have e2 : k.wrap ((m % 2 : Nat) : Int) = ((m % 2 : Nat) : Int) := by
   have : m % 2 = 0 ∨ m % 2 = 1 := by omega
   rcases this with h | h <;> rw [h] <;> cases k <;> decide
  simp only [eqGuard, binOp, Op.intBits, e1, e2]
  simp
end Go.AB
namespace Go.AB
open Go Go.RowKit
open Go.AB.Enc (cells)
open Go.PB (bg aj PlaceD bn bq bp ck az ak dc ce dr dv)
theorem ub6 {t : aj} (ht : c7 t = true) (k : Nat) : gi t k ≤ 60 := by
 obtain ⟨_, h2, h3⟩ := lj ht
 have key : ∀ j, j ≤ t.length → gi t j ≤ j * 10 := by
  intro j
  induction j with
  | zero => intro _; rw [ub5]; exact Nat.zero_le _
  | succ j ih =>
   intro hj
   have hc : t[j]? = some t[j] := List.getElem?_eq_getElem (by omega)
   rw [ti hc]
   have := (h3 _ (List.mem_of_getElem? hc)).2.1
   have := ih (by omega)
   omega
 by_cases q : k ≤ t.length
 ·have := key k q; omega
 ·have h1 := key t.length (Nat.le_refl _)
  have e : gi t k = gi t t.length := by
   unfold gi
   rw [List.take_of_length_le (show t.length ≤ k by omega), List.take_of_length_le (Nat.le_refl _)]
  omega
instance decLtW : ∀ a b : List Int, Decidable (ltW a b)
 | [], _ => isFalse (by simp [ltW])
 | _ :: _, [] => isFalse (by simp [ltW])
 | x :: a, y :: b => by
  have := decLtW a b
  unfold ltW
  exact inferInstance
end Go.AB
namespace Go.Proofs.YtgffhbbcpgdjjaaGreatDoor
set_option maxRecDepth 10000
open Go.RowKit Go.AB
open Go.AB.Enc (cells)
open Go.PB (bg aj PlaceD bn bq bp ck az ak dc ce dr dv)
theorem rn (n lo hi : Int) : Pure Tryz.prog 36 [.v (.int .i64 n), .v (.int .i64 lo), .v (.int .i64 hi)] (.v (.bool (inB n lo hi))) := by
 refine di Tryz.func36 rfl (fun m => .v) fun G nx => ?_
 simp only [Tryz.ntmps36, List.length_cons, List.length_nil, Nat.reduceAdd, Nat.reduceSub]
 refine cp fun hlt => ?_
 dsimp only at hlt
 refine ar fun K1 hK1 => ?_
 refine aw ?_
 refine aa rfl (bf rfl (by constructor)) ?_
 refine av ?_
 dsimp only [St.put]
 refine hK1 _ ?_
 refine ar fun K2 hK2 => ?_
 refine aw ?_
 refine aa rfl (ba rfl (by constructor)) ?_
 refine aa rfl (ba rfl (by constructor)) ?_
 refine aa rfl (kx rfl rfl rfl) ?_
 refine er (fun hs => ?_) (fun hs => ?_)
 ·try replace hs := of_decide_eq_true hs
  refine aa rfl (ba rfl (by constructor)) ?_
  refine aa rfl (ba rfl (by constructor)) ?_
  refine aa rfl (ba rfl (by constructor)) ?_
  refine aa rfl (ug rfl rfl rfl) ?_
  first | refine aa rfl (cn rfl rfl (by constructor)) ?_ | refine aa rfl (cv rfl rfl (by constructor)) ?_ | refine aa rfl (nt rfl rfl rfl rfl) ?_ | refine aa rfl (nm rfl rfl rfl rfl) ?_
  refine aa rfl (bf rfl (by constructor)) ?_
  refine av ?_
  dsimp only [St.put]
  refine hK2 _ ?_
  refine bc ?_
  refine bx rfl (by constructor) zN zS ?_
  exact vb (by simp [inB, hs]; try omega)
 ·try replace hs := of_decide_eq_false hs
  refine aa rfl (ba rfl (by constructor)) ?_
  refine j1 rfl ?_
  refine j1 rfl ?_
  refine j1 rfl ?_
  first | refine aa rfl (cn rfl rfl (by constructor)) ?_ | refine aa rfl (cv rfl rfl (by constructor)) ?_ | refine aa rfl (nt rfl rfl rfl rfl) ?_ | refine aa rfl (nm rfl rfl rfl rfl) ?_
  refine aa rfl (bf rfl (by constructor)) ?_
  refine av ?_
  dsimp only [St.put]
  refine hK2 _ ?_
  refine bc ?_
  refine bx rfl (by constructor) zN zS ?_
  exact vb (by simp [inB, hs]; try omega)
theorem uj5 (t : aj) (ht : c7 t = true) : Pure Tryz.prog 79 [gp t] (.v (.int .i64 (mn t : Int))) := by
 refine di Tryz.func79 rfl (fun m => .v) fun G nx => ?_
 simp only [Tryz.ntmps79, List.length_cons, List.length_nil, Nat.reduceAdd, Nat.reduceSub]
 refine cp fun hlt => ?_
 dsimp only at hlt
 obtain ⟨hl1, hl2, hl3⟩ := lj ht
 refine ar fun K1 hK1 => ?_
 refine aw ?_
 try dsimp only [St.put]
 refine af rfl (ip rfl rfl (by simp) ?_)
 refine aa rfl (bf rfl (by constructor)) ?_
 refine av ?_
 dsimp only [St.put]
 refine hK1 _ ?_
 refine ar fun K2 hK2 => ?_
 refine aw ?_
 refine aa rfl (bf rfl (by constructor)) ?_
 refine av ?_
 dsimp only [St.put]
 refine hK2 _ ?_
 refine ar fun K3 hK3 => ?_
 refine ar fun K4 hK4 => ?_
 refine aw ?_
 refine aa rfl (bf rfl (by constructor)) ?_
 refine av ?_
 dsimp only [St.put]
 refine hK4 _ ?_
 refine cb ?_
 refine dh 5 ?_
 refine zQ ?_
 refine du (G) zX ?_
 dsimp only
 refine dz (X := Nat) (fun k => k ≤ t.length) (fun k => t.length - k) (fun k => [(3, .v (.int .i64 ((gi t k : Nat) : Int))), (4, .v (.int .i64 (k : Int)))]) (fun k G' => G') 0 rfl ?_ ?_ (fun _ _ h => h) ?_ ?_ ?_
 ·exact Nat.zero_le _
 ·exact zF
 ·rintro k hI
  exact zL
 ·exact fun _ _ _ _ h => .inl h
 ·rintro k hI
  dsimp only at hI ⊢
  refine ar fun K5 hK5 => ?_
  refine ar fun K6 hK6 => ?_
  refine aw ?_
  refine aa rfl (ba rfl (by constructor)) ?_
  first | refine aa rfl (br rfl rfl rfl) ?_ | refine aa rfl (cr rfl rfl) ?_
  try dsimp only [St.put]
  first | refine ae rfl (bh rfl rfl) ?_ | refine ae rfl (aq rfl rfl (Enc.len _)) ?_ | refine ae rfl (aq rfl rfl rfl) ?_ | refine ae rfl (bz rfl rfl zG trivial (by first | rfl | assumption)) ?_ | refine ae rfl (ca rfl rfl zG trivial (by rfl)) ?_ | refine ae rfl (cg rfl rfl zG trivial (by simp)) ?_ | refine ae rfl (ax rfl rfl zG trivial (ci (by assumption) rfl)) ?_ | refine ae rfl (ax rfl rfl zG trivial (by assumption)) ?_ | refine ae rfl (cj rfl rfl zG trivial rfl (by assumption) rfl (by decide)) ?_ | refine ae rfl (cd rfl rfl zG (by rfl)) ?_
  first | refine aa rfl (bj rfl rfl (List.length_map _)) ?_ | refine aa rfl (bj rfl rfl rfl) ?_ | refine aa rfl (f7 rfl rfl) ?_ | refine aa rfl (gd rfl rfl) ?_ | refine aa rfl (ga rfl rfl) ?_ | refine aa rfl (f9 rfl rfl (by omega)) ?_
  refine aa rfl (c5 rfl rfl rfl) ?_
  refine av ?_
  dsimp only [St.put]
  refine hK6 _ ?_
  refine bd rfl (fun hc => ?_) (fun hc => ?_)
  ·replace hc := of_decide_eq_true hc
   obtain ⟨c, hk⟩ : ∃ x, t[k]? = some x := d8 (by omega)
   have hcl := hl3 c (g5 hk)
   have hst := ub6 ht k
   refine bi ?_
   refine hK5 _ ?_
   refine ar fun K7 hK7 => ?_
   refine cb ?_
   refine aw ?_
   refine aa rfl (ba rfl (by constructor)) ?_
   first | refine aa rfl (br rfl rfl rfl) ?_ | refine aa rfl (cr rfl rfl) ?_
   try dsimp only [St.put]
   first | refine ae rfl (bh rfl rfl) ?_ | refine ae rfl (aq rfl rfl (Enc.len _)) ?_ | refine ae rfl (aq rfl rfl rfl) ?_ | refine ae rfl (bz rfl rfl zG trivial (by first | rfl | assumption)) ?_ | refine ae rfl (ca rfl rfl zG trivial (by rfl)) ?_ | refine ae rfl (cg rfl rfl zG trivial (by simp)) ?_ | refine ae rfl (ax rfl rfl zG trivial (ci (by assumption) rfl)) ?_ | refine ae rfl (ax rfl rfl zG trivial (by assumption)) ?_ | refine ae rfl (cj rfl rfl zG trivial rfl (by assumption) rfl (by decide)) ?_ | refine ae rfl (cd rfl rfl zG (by rfl)) ?_
   refine aa rfl (ba rfl (by constructor)) ?_
   try dsimp only [St.put]
   first | refine aa rfl (bk rfl rfl rfl rfl (bu (by assumption)) (Enc.len _)) ?_ | refine aa rfl (bk rfl rfl rfl rfl (by assumption) rfl) ?_ | refine aa rfl (g4 rfl rfl rfl (by first | exact g6 _ | exact rfl) (by omega)) ?_ | refine aa rfl (bk rfl rfl rfl (by omega) (bu (by assumption)) (Enc.len _)) ?_
   first | refine aa rfl (br rfl rfl rfl) ?_ | refine aa rfl (cr rfl rfl) ?_
   try dsimp only [St.put]
   first | refine ae rfl (bh rfl rfl) ?_ | refine ae rfl (aq rfl rfl (Enc.len _)) ?_ | refine ae rfl (aq rfl rfl rfl) ?_ | refine ae rfl (bz rfl rfl zG trivial (by first | rfl | assumption)) ?_ | refine ae rfl (ca rfl rfl zG trivial (by rfl)) ?_ | refine ae rfl (cg rfl rfl zG trivial (by simp)) ?_ | refine ae rfl (ax rfl rfl zG trivial (ci (by assumption) rfl)) ?_ | refine ae rfl (ax rfl rfl zG trivial (by assumption)) ?_ | refine ae rfl (cj rfl rfl zG trivial rfl (by assumption) rfl (by decide)) ?_ | refine ae rfl (cd rfl rfl zG (by rfl)) ?_
   first | refine aa rfl (bj rfl rfl (List.length_map _)) ?_ | refine aa rfl (bj rfl rfl rfl) ?_ | refine aa rfl (f7 rfl rfl) ?_ | refine aa rfl (gd rfl rfl) ?_ | refine aa rfl (ga rfl rfl) ?_ | refine aa rfl (f9 rfl rfl (by omega)) ?_
   first | refine aa rfl (cm rfl rfl rfl (by omega)) ?_ | refine aa rfl (il rfl rfl rfl) ?_
   refine aa rfl (bf rfl (by constructor)) ?_
   refine av ?_
   dsimp only [St.put]
   refine hK7 _ ?_
   refine aw ?_
   refine aa rfl (ba rfl (by constructor)) ?_
   first | refine aa rfl (cm rfl rfl rfl (by omega)) ?_ | refine aa rfl (il rfl rfl rfl) ?_
   refine aa rfl (bf rfl (by constructor)) ?_
   refine av ?_
   dsimp only [St.put]
   have e := ti hk
   rw [show ((gi t k : Nat) : Int) + (c.lines.length : Int) = ((gi t (k + 1) : Nat) : Int) by rw [e]; rfl]
   exact ⟨k + 1, by omega, by omega, ⟨⟨rfl, rfl⟩, zF, zB, zN, zX⟩⟩
  ·replace hc := of_decide_eq_false hc
   obtain rfl : k = t.length := by omega
   refine dq ?_
   refine hK3 _ ?_
   refine ar fun K8 hK8 => ?_
   refine aw ?_
   refine aa rfl (ba rfl (by constructor)) ?_
   refine aa rfl (bf rfl (by constructor)) ?_
   refine av ?_
   dsimp only [St.put]
   refine hK8 _ ?_
   refine bc ?_
   refine bx rfl (by constructor) zN zS ?_
   rfl
theorem zh (t : aj) (q : PlaceD) (ht : c7 t = true) (hq : f5 t q = true) : Pure Tryz.prog 10 [gp t, val q] (.v (.int .i64 (qp t q))) := by
 refine di Tryz.func10 rfl (fun m => .v) fun G nx => ?_
 simp only [Tryz.ntmps10, List.length_cons, List.length_nil, Nat.reduceAdd, Nat.reduceSub]
 refine cp fun hlt => ?_
 dsimp only at hlt
 obtain ⟨hl1, hl2, hl3⟩ := lj ht
 obtain ⟨kc, kn, kw, c0, l0, hqe, hkc, hkn, _⟩ := ucy hq
 have hkcl := (List.getElem?_eq_some_iff.1 hkc).1
 have hknl := (List.getElem?_eq_some_iff.1 hkn).1
 have hc0 := (hl3 c0 (g5 hkc)).2.1
 subst hqe
 refine ar fun K1 hK1 => ?_
 refine aw ?_
 try dsimp only [St.put]
 refine af rfl (ip rfl rfl (by simp) ?_)
 try dsimp only [St.put]
 refine af rfl (ip rfl rfl (by simp) ?_)
 refine aa rfl (bf rfl (by constructor)) ?_
 refine av ?_
 dsimp only [St.put]
 refine hK1 _ ?_
 refine ar fun K2 hK2 => ?_
 refine aw ?_
 first | refine aa rfl (br rfl rfl rfl) ?_ | refine aa rfl (cr rfl rfl) ?_
 try dsimp only [St.put]
 first | refine ae rfl (bh rfl rfl) ?_ | refine ae rfl (aq rfl rfl (Enc.len _)) ?_ | refine ae rfl (aq rfl rfl rfl) ?_ | refine ae rfl (bz rfl rfl zG trivial (by first | rfl | assumption)) ?_ | refine ae rfl (ca rfl rfl zG trivial (by rfl)) ?_ | refine ae rfl (cg rfl rfl zG trivial (by simp)) ?_ | refine ae rfl (ax rfl rfl zG trivial (ci (by assumption) rfl)) ?_ | refine ae rfl (ax rfl rfl zG trivial (by assumption)) ?_ | refine ae rfl (cj rfl rfl zG trivial rfl (by assumption) rfl (by decide)) ?_ | refine ae rfl (cd rfl rfl zG (by rfl)) ?_
 refine aa rfl (bf rfl (by constructor)) ?_
 refine av ?_
 dsimp only [St.put]
 refine hK2 _ ?_
 refine ar fun K3 hK3 => ?_
 refine ar fun K4 hK4 => ?_
 refine aw ?_
 refine aa rfl (bf rfl (by constructor)) ?_
 refine av ?_
 dsimp only [St.put]
 refine hK4 _ ?_
 refine cb ?_
 refine dh 7 ?_
 refine zQ ?_
 refine du (G) zX ?_
 dsimp only
 refine dz (X := Nat) (fun k => k ≤ kc) (fun k => kc - k) (fun k => [(5, .v (.int .i64 ((kn : Int) + ((gi t k : Nat) : Int)))), (6, .v (.int .i64 (k : Int)))]) (fun k G' => G') 0 rfl ?_ ?_ (fun _ _ h => h) ?_ ?_ ?_
 ·exact Nat.zero_le _
 ·exact zF
 ·rintro k hI
  exact zL
 ·exact fun _ _ _ _ h => .inl h
 ·rintro k hI
  dsimp only at hI ⊢
  refine ar fun K5 hK5 => ?_
  refine ar fun K6 hK6 => ?_
  refine aw ?_
  refine aa rfl (ba rfl (by constructor)) ?_
  first | refine aa rfl (br rfl rfl rfl) ?_ | refine aa rfl (cr rfl rfl) ?_
  try dsimp only [St.put]
  first | refine ae rfl (bh rfl rfl) ?_ | refine ae rfl (aq rfl rfl (Enc.len _)) ?_ | refine ae rfl (aq rfl rfl rfl) ?_ | refine ae rfl (bz rfl rfl zG trivial (by first | rfl | assumption)) ?_ | refine ae rfl (ca rfl rfl zG trivial (by rfl)) ?_ | refine ae rfl (cg rfl rfl zG trivial (by simp)) ?_ | refine ae rfl (ax rfl rfl zG trivial (ci (by assumption) rfl)) ?_ | refine ae rfl (ax rfl rfl zG trivial (by assumption)) ?_ | refine ae rfl (cj rfl rfl zG trivial rfl (by assumption) rfl (by decide)) ?_ | refine ae rfl (cd rfl rfl zG (by rfl)) ?_
  refine aa rfl (c5 rfl rfl rfl) ?_
  refine av ?_
  dsimp only [St.put]
  refine hK6 _ ?_
  refine bd rfl (fun hc => ?_) (fun hc => ?_)
  ·replace hc := of_decide_eq_true hc
   obtain ⟨c, hk⟩ : ∃ x, t[k]? = some x := d8 (by omega)
   have hcl := hl3 c (g5 hk)
   have hst := ub6 ht k
   refine bi ?_
   refine hK5 _ ?_
   refine ar fun K7 hK7 => ?_
   refine cb ?_
   refine aw ?_
   refine aa rfl (ba rfl (by constructor)) ?_
   first | refine aa rfl (br rfl rfl rfl) ?_ | refine aa rfl (cr rfl rfl) ?_
   try dsimp only [St.put]
   first | refine ae rfl (bh rfl rfl) ?_ | refine ae rfl (aq rfl rfl (Enc.len _)) ?_ | refine ae rfl (aq rfl rfl rfl) ?_ | refine ae rfl (bz rfl rfl zG trivial (by first | rfl | assumption)) ?_ | refine ae rfl (ca rfl rfl zG trivial (by rfl)) ?_ | refine ae rfl (cg rfl rfl zG trivial (by simp)) ?_ | refine ae rfl (ax rfl rfl zG trivial (ci (by assumption) rfl)) ?_ | refine ae rfl (ax rfl rfl zG trivial (by assumption)) ?_ | refine ae rfl (cj rfl rfl zG trivial rfl (by assumption) rfl (by decide)) ?_ | refine ae rfl (cd rfl rfl zG (by rfl)) ?_
   refine aa rfl (ba rfl (by constructor)) ?_
   try dsimp only [St.put]
   first | refine aa rfl (bk rfl rfl rfl rfl (bu (by assumption)) (Enc.len _)) ?_ | refine aa rfl (bk rfl rfl rfl rfl (by assumption) rfl) ?_ | refine aa rfl (g4 rfl rfl rfl (by first | exact g6 _ | exact rfl) (by omega)) ?_ | refine aa rfl (bk rfl rfl rfl (by omega) (bu (by assumption)) (Enc.len _)) ?_
   first | refine aa rfl (br rfl rfl rfl) ?_ | refine aa rfl (cr rfl rfl) ?_
   try dsimp only [St.put]
   first | refine ae rfl (bh rfl rfl) ?_ | refine ae rfl (aq rfl rfl (Enc.len _)) ?_ | refine ae rfl (aq rfl rfl rfl) ?_ | refine ae rfl (bz rfl rfl zG trivial (by first | rfl | assumption)) ?_ | refine ae rfl (ca rfl rfl zG trivial (by rfl)) ?_ | refine ae rfl (cg rfl rfl zG trivial (by simp)) ?_ | refine ae rfl (ax rfl rfl zG trivial (ci (by assumption) rfl)) ?_ | refine ae rfl (ax rfl rfl zG trivial (by assumption)) ?_ | refine ae rfl (cj rfl rfl zG trivial rfl (by assumption) rfl (by decide)) ?_ | refine ae rfl (cd rfl rfl zG (by rfl)) ?_
   first | refine aa rfl (bj rfl rfl (List.length_map _)) ?_ | refine aa rfl (bj rfl rfl rfl) ?_ | refine aa rfl (f7 rfl rfl) ?_ | refine aa rfl (gd rfl rfl) ?_ | refine aa rfl (ga rfl rfl) ?_ | refine aa rfl (f9 rfl rfl (by omega)) ?_
   first | refine aa rfl (cm rfl rfl rfl (by omega)) ?_ | refine aa rfl (il rfl rfl rfl) ?_
   refine aa rfl (bf rfl (by constructor)) ?_
   refine av ?_
   dsimp only [St.put]
   refine hK7 _ ?_
   refine aw ?_
   refine aa rfl (ba rfl (by constructor)) ?_
   first | refine aa rfl (cm rfl rfl rfl (by omega)) ?_ | refine aa rfl (il rfl rfl rfl) ?_
   refine aa rfl (bf rfl (by constructor)) ?_
   refine av ?_
   dsimp only [St.put]
   have e := ti hk
   rw [show (kn : Int) + ((gi t k : Nat) : Int) + (c.lines.length : Int) = (kn : Int) + ((gi t (k + 1) : Nat) : Int) by rw [e, Int.natCast_add]; omega]
   exact ⟨k + 1, by omega, by omega, ⟨⟨rfl, rfl⟩, zF, zB, zN, zX⟩⟩
  ·replace hc := of_decide_eq_false hc
   obtain rfl : k = kc := by omega
   refine dq ?_
   refine hK3 _ ?_
   refine ar fun K8 hK8 => ?_
   refine aw ?_
   refine aa rfl (ba rfl (by constructor)) ?_
   refine aa rfl (bf rfl (by constructor)) ?_
   refine av ?_
   dsimp only [St.put]
   refine hK8 _ ?_
   refine bc ?_
   refine bx rfl (by constructor) zN zS ?_
   exact vi (by unfold qp; rw [Int.toNat_natCast])
theorem ucu (a b : List Int) (ha : a.length ≤ 1000) : Pure Tryz.prog 31 [lst a, lst b] (.v (.bool (decide (a = b)))) := by
 refine di Tryz.func31 rfl (fun m => .v) fun G nx => ?_
 simp only [Tryz.ntmps31, List.length_cons, List.length_nil, Nat.reduceAdd, Nat.reduceSub]
 refine cp fun hlt => ?_
 dsimp only at hlt
 refine lf 1 (fun hfb => ?_)
 have hb := (fit_lst.1 hfb).1
 refine ar fun K1 hK1 => ?_
 refine aw ?_
 refine aa rfl (bf rfl (by constructor)) ?_
 refine av ?_
 dsimp only [St.put]
 refine hK1 _ ?_
 refine ar fun K2 hK2 => ?_
 refine ar fun K3 hK3 => ?_
 refine aw ?_
 refine aa rfl (ba rfl (by constructor)) ?_
 first | refine aa rfl (bj rfl rfl (List.length_map _)) ?_ | refine aa rfl (bj rfl rfl rfl) ?_ | refine aa rfl (f7 rfl rfl) ?_ | refine aa rfl (gd rfl rfl) ?_ | refine aa rfl (ga rfl rfl) ?_ | refine aa rfl (f9 rfl rfl (by omega)) ?_
 refine aa rfl (ba rfl (by constructor)) ?_
 first | refine aa rfl (bj rfl rfl (List.length_map _)) ?_ | refine aa rfl (bj rfl rfl rfl) ?_ | refine aa rfl (f7 rfl rfl) ?_ | refine aa rfl (gd rfl rfl) ?_ | refine aa rfl (ga rfl rfl) ?_ | refine aa rfl (f9 rfl rfl (by omega)) ?_
 refine aa rfl (fq rfl rfl rfl) ?_
 refine av ?_
 dsimp only [St.put]
 refine hK3 _ ?_
 refine bd rfl (fun hc => ?_) (fun hc => ?_)
 ·try replace hc := of_decide_eq_true hc
  refine ar fun K4 hK4 => ?_
  refine aw ?_
  refine aa rfl (bf rfl (by constructor)) ?_
  refine av ?_
  dsimp only [St.put]
  refine hK4 _ ?_
  refine bc ?_
  refine bx rfl (by constructor) zN zS ?_
  exact vb (by
   have : a ≠ b := fun e => by subst e; simp at hc
   simp [this])
 ·have hl : a.length = b.length := by
   have := iy hc
   omega
  refine bi ?_
  refine hK2 _ ?_
  refine ar fun K5 hK5 => ?_
  refine ar fun K6 hK6 => ?_
  refine aw ?_
  refine aa rfl (bf rfl (by constructor)) ?_
  refine av ?_
  dsimp only [St.put]
  refine hK6 _ ?_
  refine cb ?_
  refine dh 6 ?_
  refine zQ ?_
  refine du (G) zX ?_
  dsimp only
  refine dz (X := Nat) (fun k => k ≤ a.length ∧ a.take k = b.take k) (fun k => a.length - k) (fun k => [(5, .v (.int .i64 (k : Int)))]) (fun k G' => G') 0 rfl ?_ ?_ (fun _ _ h => h) ?_ ?_ ?_
  ·exact ⟨Nat.zero_le _, by simp⟩
  ·exact zF
  ·rintro k hI
   exact zL
  ·exact fun _ _ _ _ h => .inl h
  ·rintro k hI
   dsimp only at hI ⊢
   refine ar fun K7 hK7 => ?_
   refine ar fun K8 hK8 => ?_
   refine aw ?_
   refine aa rfl (ba rfl (by constructor)) ?_
   refine aa rfl (ba rfl (by constructor)) ?_
   first | refine aa rfl (bj rfl rfl (List.length_map _)) ?_ | refine aa rfl (bj rfl rfl rfl) ?_ | refine aa rfl (f7 rfl rfl) ?_ | refine aa rfl (gd rfl rfl) ?_ | refine aa rfl (ga rfl rfl) ?_ | refine aa rfl (f9 rfl rfl (by omega)) ?_
   refine aa rfl (c5 rfl rfl rfl) ?_
   refine av ?_
   dsimp only [St.put]
   refine hK8 _ ?_
   refine bd rfl (fun hc => ?_) (fun hc => ?_)
   ·replace hc := of_decide_eq_true hc
    obtain ⟨x, hx⟩ : ∃ x, a[k]? = some x := d8 (by omega)
    obtain ⟨y, hy⟩ : ∃ y, b[k]? = some y := d8 (by omega)
    refine bi ?_
    refine hK7 _ ?_
    refine ar fun K9 hK9 => ?_
    refine cb ?_
    refine ar fun K10 hK10 => ?_
    refine g8 [(0, none), (1, none), (2, none), (3, none), (4, none), (5, none), (6, none), (7, none), (8, none)] (fun i => [].contains i) (fun i => [].contains i) (fun i => [0, 1, 2, 4, 5, 6, 8].contains i) [] (by kernel_rfl) (by kernel_rfl) ?_
    refine ah rfl rfl rfl rfl (ba rfl (by constructor)) ?_
    refine ah rfl rfl rfl rfl (ba rfl (by constructor)) ?_
    try dsimp only [St.put]
    first | refine ah rfl rfl rfl rfl (bk rfl rfl rfl rfl (bu (by assumption)) (Enc.len _)) ?_ | refine ah rfl rfl rfl rfl (bk rfl rfl rfl rfl (by assumption) rfl) ?_ | refine ah rfl rfl rfl rfl (g4 rfl rfl rfl (by first | exact g6 _ | exact rfl) (by omega)) ?_ | refine ah rfl rfl rfl rfl (bk rfl rfl rfl (by omega) (bu (by assumption)) (Enc.len _)) ?_
    try dsimp only [St.put]
    first | refine ai rfl rfl rfl rfl (bh rfl rfl) ?_ | refine ai rfl rfl rfl rfl (aq rfl rfl (Enc.len _)) ?_ | refine ai rfl rfl rfl rfl (aq rfl rfl rfl) ?_ | refine ai rfl rfl rfl rfl (bz rfl rfl zG (by simp) (by first | rfl | assumption)) ?_ | refine ai rfl rfl rfl rfl (ca rfl rfl zG (by simp) (by rfl)) ?_ | refine ai rfl rfl rfl rfl (cg rfl rfl zG (by simp) (by simp)) ?_ | refine ai rfl rfl rfl rfl (ax rfl rfl zG (by simp) (ci (by assumption) rfl)) ?_ | refine ai rfl rfl rfl rfl (ax rfl rfl zG (by simp) (by assumption)) ?_ | refine ai rfl rfl rfl rfl (cj rfl rfl zG (by simp) rfl (by assumption) rfl (by decide)) ?_ | refine ai rfl rfl rfl rfl (cd rfl rfl zG (by rfl)) ?_
    refine ah rfl rfl rfl rfl (ba rfl (by constructor)) ?_
    refine ah rfl rfl rfl rfl (ba rfl (by constructor)) ?_
    try dsimp only [St.put]
    first | refine ah rfl rfl rfl rfl (bk rfl rfl rfl rfl (bu (by assumption)) (Enc.len _)) ?_ | refine ah rfl rfl rfl rfl (bk rfl rfl rfl rfl (by assumption) rfl) ?_ | refine ah rfl rfl rfl rfl (g4 rfl rfl rfl (by first | exact g6 _ | exact rfl) (by omega)) ?_ | refine ah rfl rfl rfl rfl (bk rfl rfl rfl (by omega) (bu (by assumption)) (Enc.len _)) ?_
    try dsimp only [St.put]
    first | refine ai rfl rfl rfl rfl (bh rfl rfl) ?_ | refine ai rfl rfl rfl rfl (aq rfl rfl (Enc.len _)) ?_ | refine ai rfl rfl rfl rfl (aq rfl rfl rfl) ?_ | refine ai rfl rfl rfl rfl (bz rfl rfl zG (by simp) (by first | rfl | assumption)) ?_ | refine ai rfl rfl rfl rfl (ca rfl rfl zG (by simp) (by rfl)) ?_ | refine ai rfl rfl rfl rfl (cg rfl rfl zG (by simp) (by simp)) ?_ | refine ai rfl rfl rfl rfl (ax rfl rfl zG (by simp) (ci (by assumption) rfl)) ?_ | refine ai rfl rfl rfl rfl (ax rfl rfl zG (by simp) (by assumption)) ?_ | refine ai rfl rfl rfl rfl (cj rfl rfl zG (by simp) rfl (by assumption) rfl (by decide)) ?_ | refine ai rfl rfl rfl rfl (cd rfl rfl zG (by rfl)) ?_
    refine ah rfl rfl rfl rfl (fq rfl rfl rfl) ?_
    refine cz ?_
    dsimp only [St.put]
    refine hK10 _ ?_
    refine bd rfl (fun hc => ?_) (fun hc => ?_)
    ·have hxy := j8 hc
     refine ar fun K11 hK11 => ?_
     refine aw ?_
     refine aa rfl (bf rfl (by constructor)) ?_
     refine av ?_
     dsimp only [St.put]
     refine hK11 _ ?_
     refine bc ?_
     refine bx rfl (by constructor) zN zS ?_
     exact vb (by simp [udq hx hy hxy])
    ·have hxy := iy hc
     refine bi ?_
     refine hK9 _ ?_
     refine aw ?_
     refine aa rfl (ba rfl (by constructor)) ?_
     first | refine aa rfl (cm rfl rfl rfl (by omega)) ?_ | refine aa rfl (il rfl rfl rfl) ?_
     refine aa rfl (bf rfl (by constructor)) ?_
     refine av ?_
     dsimp only [St.put]
     exact ⟨k + 1, by omega, ⟨by omega, ubw hI.2 hx (hxy ▸ hy)⟩, ⟨⟨rfl, rfl⟩, zF, zB, zN, zX⟩⟩
   ·replace hc := of_decide_eq_false hc
    refine dq ?_
    refine hK5 _ ?_
    refine ar fun K12 hK12 => ?_
    refine aw ?_
    refine aa rfl (bf rfl (by constructor)) ?_
    refine av ?_
    dsimp only [St.put]
    refine hK12 _ ?_
    refine bc ?_
    refine bx rfl (by constructor) zN zS ?_
    exact vb (by
     have h1 := hI.2
     rw [g9 (by omega), g9 (by omega)] at h1
     simp [h1])
end Go.Proofs.YtgffhbbcpgdjjaaGreatDoor
namespace Go.AB
open Go Go.RowKit
open Go.AB.Enc (cells)
open Go.PB (bg aj PlaceD bn bq bp ck az ak dc ce dr dv)
theorem bit_eq {s k : Nat} : (((s / 2 ^ k % 2 : Nat) : Int) = 1) ↔ s.testBit k = true := by
 rw [Nat.testBit_eq_decide_div_mod_eq, decide_eq_true_eq]
 omega
end Go.AB
namespace Go.Proofs.YtgffhbbcpgdjjaaGreatDoor
set_option maxRecDepth 10000
open Go.RowKit Go.AB
open Go.AB.Enc (cells)
open Go.PB (bg aj PlaceD bn bq bp ck az ak dc ce dr dv)
end Go.Proofs.YtgffhbbcpgdjjaaGreatDoor
namespace Go.AB
open Go Go.RowKit
open Go.AB.Enc (cells)
open Go.PB (bg aj PlaceD bn bq bp ck az ak dc ce dr dv)
theorem ubz {l : List az} {g : az → Nat} (k : Nat) : ez (l.take k) g ≤ ez l g := by
 have h : ez l g = ez (l.take k) g + ez (l.drop k) g := by
  unfold ez
  rw [← List.sum_append, ← List.map_append, List.take_append_drop]
 omega
theorem ulx {p : ak} {b : Bool} {i : Nat} {r : ck} (h : (ec p b)[i]? = some r) : lp p b i = r.miss := by unfold lp; rw [h]
theorem unn (R : Nat → Int) (S : Nat → Bool) (k : Nat) : fR R S (k + 1) = fR R S k + bif S k then R k else 0 := rfl
theorem ufi (p : ak) (C : Nat → Int) (S : Nat → Bool) (k : Nat) : fC p C S (k + 1) = fC p C S k + bif (cw p).hit S k then 0 else C k := rfl
end Go.AB
namespace Go.Proofs.YtgffhbbcpgdjjaaGreatDoor
set_option maxRecDepth 10000
open Go.RowKit Go.AB
open Go.AB.Enc (cells)
open Go.PB (bg aj PlaceD bn bq bp ck az ak dc ce dr dv)
end Go.Proofs.YtgffhbbcpgdjjaaGreatDoor

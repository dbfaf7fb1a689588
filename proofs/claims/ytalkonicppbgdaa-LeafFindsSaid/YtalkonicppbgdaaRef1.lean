/-
  Contracts of the reference's functions that only read.
-/
import Derived.Test.YtalkonicppbgdaaSpec
import Derived.Test.YtalkonicppbgdaaProg
import Derived.Deep.RegionHeld3
import Derived.Deep.CutRange
import Derived.Deep.DeepCutAuto
namespace Go.Proofs.Ytalkonicppbgdaa
open Go.RowKit Go.PB

theorem within_any (n lo hi : Int) (w : World) :
    Calls Try.prog 16 #[.int .i64 n, .int .i64 lo, .int .i64 hi] w fun e w' => e = .returned (.bool (inB n lo hi)) ∧ w = w' := by
  by_cases h : lo ≤ n <;> by_cases h2 : n ≤ hi
  all_goals
    go_enter Try.func16, Try.ntmps16
    go_wp2
    go_ret
    exact ⟨ret_bool (by simp [inB]; omega), rfl⟩

set_option maxHeartbeats 400000 in
theorem Word_any (s : ByteArray) (w : World) (hs : s.size ≤ 9223372036854775807) :
    Calls Try.prog 34 #[.string s] w fun e w' => e = .returned (.bool (wordB s)) ∧ w = w' := by
  go_enter Try.func34, Try.ntmps34
  go_wp2
  go_loopg [3] (s.size + 1) (fun g i wr => ∃ k : Nat, k ≤ s.size ∧ g = s.size + 1 - k ∧ i = .int .i64 k ∧ (s.data.toList.take k).all okc = true ∧ w = wr)
  case atStart => exact ⟨0, Nat.zero_le _, by simp, rfl, by simp, rfl⟩
  case round =>
    obtain ⟨k, hk, rfl, rfl, hp, rfl⟩ := hrel
    have HP := Lib.hid hp; clear hp
    by_cases hlt : k < s.size
    · have HX : Hid (s.data.toList[k]? = some s[k]) := by
        show s.data.toList[k]? = some s[k]
        rw [Array.getElem?_toList]
        exact Array.getElem?_eq_getElem hlt
      go_wp2
      · go_ret
        exact ⟨ret_bool (by
          have : s.data.toList.all okc = false := all_false_of HX.out (by simp [okc]; omega)
          simp [wordB, this]), rfl⟩
      · go_roundg (s.size + 1 - (k + 1))
        case rel => exact ⟨k + 1, by omega, rfl, by go_num, by rw [all_take HX.out, HP.out]; simp [okc]; omega, rfl⟩
        case measure => omega
      · go_ret
        exact ⟨ret_bool (by
          have : s.data.toList.all okc = false := all_false_of HX.out (by simp [okc]; omega)
          simp [wordB, this]), rfl⟩
    · go_wp2_with (go_at_call 16; refine (within_any _ _ _ _).mono ?_; rintro e w' ⟨rfl, rfl⟩)
      go_ret
      exact ⟨ret_bool (by
        have h1 := HP.out
        rw [take_all (by simp; omega)] at h1
        simp [wordB, h1]), rfl⟩

set_option maxHeartbeats 1000000 in
theorem Great_any (t : TextD) (v : Value) (w : World) (hr : Rd w [v] t) :
    Calls Try.prog 4 #[.agg #[v]] w fun e w' => e = .returned (.bool (greatB t)) ∧ Below w.heap.size w w' := by
  obtain ⟨a, cap, e, hc, hm, _⟩ := rd_list hr
  simp only [List.cons.injEq, and_true] at e
  subst e
  unfold maxLen at hm
  have hB : Below w.heap.size w (w.alloc (.cells #[.slice a t.length cap] 24)) := (Below.refl _ _).alloc (Nat.le_refl _) _
  by_cases h10 : 10 < t.length
  · go_enter Try.func4, Try.ntmps4
    go_wp2
    go_ret
    exact ⟨ret_bool (by simp [greatB, h10]), hB⟩
  · go_enter Try.func4, Try.ntmps4
    go_wp2
    go_loop [3] (fun i => ∃ k : Nat, k ≤ t.length ∧ i = .int .i64 k ∧ (t.take k).any greatChap = false) (fun i => t.length - (intOf i).toNat)
    case atStart => exact ⟨0, Nat.zero_le _, rfl, by simp⟩
    case round =>
      obtain ⟨k, hk, rfl, hp⟩ := hrel
      have HP := Lib.hid hp; clear hp
      by_cases hlt : k < t.length
      · obtain ⟨c, hcx⟩ := some_of_lt hlt
        obtain ⟨b, off, rfl, _, hc1, _, a1, cap1, hc2, hr1⟩ := hr.chap hcx
        have HC := Lib.hid hcx; clear hcx
        by_cases h15 : 15 < c.lines.length
        · go_wp2
          go_ret
          exact ⟨ret_bool (by have := any_of_take (p := greatChap) HC.out (by simp [greatChap, h15]); simp [greatB, this]), hB⟩
        · go_wp2
          go_loop [4] (fun i => ∃ k : Nat, k ≤ c.lines.length ∧ i = .int .i64 k ∧ (c.lines.take k).any greatLine = false) (fun i => c.lines.length - (intOf i).toNat)
          case atStart => exact ⟨0, Nat.zero_le _, rfl, by simp⟩
          case round =>
            obtain ⟨n, hn, rfl, hp⟩ := hrel
            have HP1 := Lib.hid hp; clear hp
            by_cases hln : n < c.lines.length
            · obtain ⟨l, hlx⟩ := some_of_lt hln
              obtain ⟨b1, off1, rfl, hb1, a2, cap2, hc3, hr2⟩ := hr1.sub hlx
              have HL := Lib.hid hlx; clear hlx
              by_cases h15' : 15 < l.length
              · go_wp2
                go_ret
                exact ⟨ret_bool (by have h1 := any_of_take (p := greatLine) HL.out (by simp [greatLine, h15']); have := any_of_take (p := greatChap) HC.out (by simp [greatChap, h1]); simp [greatB, this]), hB⟩
              · go_wp2
                go_loop [5] (fun i => ∃ k : Nat, k ≤ l.length ∧ i = .int .i64 k ∧ (l.take k).any (fun s => decide (40 < s.size)) = false) (fun i => l.length - (intOf i).toNat)
                case atStart => exact ⟨0, Nat.zero_le _, rfl, by simp⟩
                case round =>
                  obtain ⟨m, hm', rfl, hp⟩ := hrel
                  have HP2 := Lib.hid hp; clear hp
                  by_cases hlm : m < l.length
                  · obtain ⟨s, hsx⟩ := some_of_lt hlm
                    obtain ⟨b2, off2, rfl, hb2, hc4, hss⟩ := hr2.str hsx
                    have HS := Lib.hid hsx; clear hsx
                    by_cases h40 : 40 < s.size
                    · go_wp2
                      go_ret
                      exact ⟨ret_bool (by have h2 : l.any (fun s => decide (40 < s.size)) = true := any_of_take HS.out (by simp [h40]); have h1 := any_of_take (p := greatLine) HL.out (by simp [greatLine, h2]); have := any_of_take (p := greatChap) HC.out (by simp [greatChap, h1]); simp [greatB, this]), hB⟩
                    · go_wp2
                      go_round
                      case rel => exact ⟨m + 1, by omega, by go_num, by rw [any_take HS.out, HP2.out]; simp [h40]⟩
                      case measure => simp [intOf]; omega
                  · have h1 : l.any (fun s => decide (40 < s.size)) = false := by have := HP2.out; rwa [take_all (by omega)] at this
                    have H1 := Lib.hid h1; clear h1
                    go_wp2
                    go_round
                    case rel => exact ⟨n + 1, by omega, by go_num, by rw [any_take HL.out, HP1.out]; simp [greatLine, h15', H1.out]⟩
                    case measure => simp [intOf]; omega
            · have h1 : c.lines.any greatLine = false := by have := HP1.out; rwa [take_all (by omega)] at this
              have H1 := Lib.hid h1; clear h1
              go_wp2
              go_round
              case rel => exact ⟨k + 1, by omega, by go_num, by rw [any_take HC.out, HP.out]; simp [greatChap, h15, H1.out]⟩
              case measure => simp [intOf]; omega
      · go_wp2
        go_ret
        exact ⟨ret_bool (by have h1 := HP.out; rw [take_all (by omega)] at h1; simp [greatB, h10, h1]), hB⟩

set_option maxHeartbeats 400000 in
theorem SameWords_any (a b : List ByteArray) (va vb : Value) (w : World) (ha : Rd w [va] a) (hb : Rd w [vb] b) :
    Calls Try.prog 18 #[va, vb] w fun e w' => e = .returned (.bool (eqB a b)) ∧ ∃ n, w' = w.drewN n := by
  obtain ⟨pa, ca, e, m1, m2, _⟩ := rd_list ha
  simp only [List.cons.injEq, and_true] at e
  subst e
  obtain ⟨pb, cb, e, m3, m4, _⟩ := rd_list hb
  simp only [List.cons.injEq, and_true] at e
  subst e
  unfold maxLen at m2 m4
  by_cases hl : a.length = b.length
  · have hl1 : ((a.length : Int) != (b.length : Int)) = false := by simp [hl]
    have HL := Lib.hid hl; clear hl
    go_enter Try.func18, Try.ntmps18
    go_wp2
    go_loopw [5] (fun i wr => ∃ k : Nat, k ≤ a.length ∧ i = .int .i64 k ∧ a.take k = b.take k ∧ ∃ n, wr = w.drewN n) (fun i _ => a.length - (intOf i).toNat)
    case atStart => exact ⟨0, Nat.zero_le _, rfl, by simp, 0, rfl⟩
    case round =>
      obtain ⟨k, hk, rfl, ht, n, rfl⟩ := hrel
      have HT := Lib.hid ht; clear ht
      by_cases hlt : k < a.length
      · obtain ⟨x, hx⟩ := some_of_lt hlt
        have hlt' : k < b.length := HL.out ▸ hlt
        obtain ⟨y, hy⟩ := some_of_lt hlt'
        obtain ⟨b1, o1, rfl, _, hc1, _⟩ := ha.str hx
        obtain ⟨b2, o2, rfl, _, hc2, _⟩ := hb.str hy
        have HX := Lib.hid hx; have HY := Lib.hid hy; clear hx hy
        go_wp2
        go_quiet (fail)
        go_wp2
        · go_ret
          exact ⟨ret_bool (by
            have hne := str_ne (by assumption)
            have : a ≠ b := fun e => by subst e; exact hne (by have := HX.out.symm.trans HY.out; simpa using this)
            simp [eqB, this]), n + nq, World.drewN_drewN _ _ _⟩
        · have hxy := Lib.hid (str_eq (x := x) (y := y) (by assumption))
          go_roundw
          case rel => exact ⟨k + 1, by omega, by go_num, by rw [List.take_add_one, List.take_add_one, HT.out, HX.out, HY.out, hxy.out], _, rfl⟩
          case measure => simp [intOf]; omega
      · go_wp2
        go_ret
        exact ⟨ret_bool (by
          have h1 := HT.out
          have h2 := HL.out
          rw [take_all (by omega), take_all (by omega)] at h1
          simp [eqB, h1]), n, rfl⟩
  · go_enter Try.func18, Try.ntmps18
    have hl' : ((a.length : Int) != (b.length : Int)) = true := by rw [bne_iff_ne]; omega
    go_wp2
    go_ret
    have : a ≠ b := fun h => hl (h ▸ rfl)
    exact ⟨ret_bool (by simp [eqB, this]), 0, rfl⟩

end Go.Proofs.Ytalkonicppbgdaa

/-
  Contract of the reference's Text: whether a text is valid.
-/
import Derived.Test.YtalkonicppbgdaaRef1
namespace Go.Proofs.Ytalkonicppbgdaa
open Go.RowKit Go.PB

set_option maxRecDepth 100000 in
set_option maxHeartbeats 1000000 in
theorem Text_any (t : TextD) (v : Value) (w : World) (hr : Rd w [v] t) :
    Calls Try.prog 25 #[.agg #[v]] w fun e w' => e = .returned (.bool (textB t)) ∧ Below w.heap.size w w' := by
  obtain ⟨a, cap, rfl, m1, m2⟩ := rd_open hr
  cases h6 : inB t.length 1 6
  · go_enter Try.func25, Try.ntmps25
    go_wp2_with (first | (go_at_call 16; refine (within_any _ _ _ _).mono ?_; rintro e w' ⟨rfl, rfl⟩) | (go_at_call 34; refine (Word_any _ _ (by assumption)).mono ?_; rintro e w' ⟨rfl, rfl⟩))
    go_ret
    exact ⟨ret_bool (by simp [textB, h6]), (by repeat (first | exact Below.refl _ _ | assumption | refine Below.drew ?_ | refine below_drewN ?_ _ | refine Below.alloc ?_ (by first | exact Nat.le_refl _ | omega | (simp; done) | (simp; omega) | (simp at *; omega)) _ | refine Below.setCell ?_ (by first | exact Nat.le_refl _ | omega | (simp; done) | (simp; omega) | (simp at *; omega)) _ | refine Below.grown ?_ (by assumption) (by first | exact Nat.le_refl _ | omega | (simp; done) | (simp; omega) | (simp at *; omega)) (by first | assumption | (intro _ hk; simp [Value.ownBlock] at hk; omega))))⟩
  · have hb6 := inB_true.1 h6
    go_enter Try.func25, Try.ntmps25
    go_wp2_with (first | (go_at_call 16; refine (within_any _ _ _ _).mono ?_; rintro e w' ⟨rfl, rfl⟩) | (go_at_call 34; refine (Word_any _ _ (by assumption)).mono ?_; rintro e w' ⟨rfl, rfl⟩))
    have H6 := Lib.hid h6; clear h6
    go_loopg [3] (t.length + 1) (fun g i wr => ∃ k : Nat, k ≤ t.length ∧ g = t.length + 1 - k ∧ i = .int .i64 k ∧ (t.take k).all chapB = true ∧ ((t.take k).map (·.id)).Nodup ∧ Below w.heap.size w wr ∧ RdAt wr w.heap.size 0 t)
    case atStart => exact ⟨0, Nat.zero_le _, by simp, rfl, by simp, by simp, (by repeat (first | exact Below.refl _ _ | assumption | refine Below.drew ?_ | refine below_drewN ?_ _ | refine Below.alloc ?_ (by first | exact Nat.le_refl _ | omega | (simp; done) | (simp; omega) | (simp at *; omega)) _ | refine Below.setCell ?_ (by first | exact Nat.le_refl _ | omega | (simp; done) | (simp; omega) | (simp at *; omega)) _ | refine Below.grown ?_ (by assumption) (by first | exact Nat.le_refl _ | omega | (simp; done) | (simp; omega) | (simp at *; omega)) (by first | assumption | (intro _ hk; simp [Value.ownBlock] at hk; omega)))), RdAt.mk_slice (by simp) (by simp) (hr.below (by repeat (first | exact Below.refl _ _ | assumption | refine Below.drew ?_ | refine below_drewN ?_ _ | refine Below.alloc ?_ (by first | exact Nat.le_refl _ | omega | (simp; done) | (simp; omega) | (simp at *; omega)) _ | refine Below.setCell ?_ (by first | exact Nat.le_refl _ | omega | (simp; done) | (simp; omega) | (simp at *; omega)) _ | refine Below.grown ?_ (by assumption) (by first | exact Nat.le_refl _ | omega | (simp; done) | (simp; omega) | (simp at *; omega)) (by first | assumption | (intro _ hk; simp [Value.ownBlock] at hk; omega)))))⟩
    case round =>
      obtain ⟨w1, rfl⟩ : ∃ x : World, x = wr := ⟨_, rfl⟩
      obtain ⟨k, hk, rfl, rfl, hp, hnd, hB, hT⟩ := hrel
      have HP := Lib.hid hp; have HND := Lib.hid hnd; clear hp hnd
      obtain ⟨pt, ct, e0, hrt⟩ := hT.slice
      have hz := hT.1
      by_cases hlt : k < t.length
      · obtain ⟨c, hx⟩ := some_of_lt hlt
        obtain ⟨b, o, rfl, hb, c0, hwc, pl, cl, c1, hrl⟩ := hrt.chap hx
        have HX := Lib.hid hx; clear hx
        have hml := hrl.bd
        cases hid' : inB c.id 0 9999
        · go_wp2_with (first | (go_at_call 16; refine (within_any _ _ _ _).mono ?_; rintro e w' ⟨rfl, rfl⟩) | (go_at_call 34; refine (Word_any _ _ (by assumption)).mono ?_; rintro e w' ⟨rfl, rfl⟩))
          go_ret
          exact ⟨ret_bool (by
            have : t.all chapB = false := all_false_of HX.out (by simp [chapB, hid'])
            simp [textB, this]), (hB.trans (Below.mono (by repeat (first | exact Below.refl _ _ | assumption | refine Below.drew ?_ | refine below_drewN ?_ _ | refine Below.alloc ?_ (by first | exact Nat.le_refl _ | omega | (simp; done) | (simp; omega) | (simp at *; omega)) _ | refine Below.setCell ?_ (by first | exact Nat.le_refl _ | omega | (simp; done) | (simp; omega) | (simp at *; omega)) _ | refine Below.grown ?_ (by assumption) (by first | exact Nat.le_refl _ | omega | (simp; done) | (simp; omega) | (simp at *; omega)) (by first | assumption | (intro _ hk; simp [Value.ownBlock] at hk; omega)))) hB.size))⟩
        · cases hll : inB c.lines.length 1 10
          · go_wp2_with (first | (go_at_call 16; refine (within_any _ _ _ _).mono ?_; rintro e w' ⟨rfl, rfl⟩) | (go_at_call 34; refine (Word_any _ _ (by assumption)).mono ?_; rintro e w' ⟨rfl, rfl⟩))
            go_ret
            exact ⟨ret_bool (by
              have : t.all chapB = false := all_false_of HX.out (by simp [chapB, hll])
              simp [textB, this]), (hB.trans (Below.mono (by repeat (first | exact Below.refl _ _ | assumption | refine Below.drew ?_ | refine below_drewN ?_ _ | refine Below.alloc ?_ (by first | exact Nat.le_refl _ | omega | (simp; done) | (simp; omega) | (simp at *; omega)) _ | refine Below.setCell ?_ (by first | exact Nat.le_refl _ | omega | (simp; done) | (simp; omega) | (simp at *; omega)) _ | refine Below.grown ?_ (by assumption) (by first | exact Nat.le_refl _ | omega | (simp; done) | (simp; omega) | (simp at *; omega)) (by first | assumption | (intro _ hk; simp [Value.ownBlock] at hk; omega)))) hB.size))⟩
          · go_wp2_with (first | (go_at_call 16; refine (within_any _ _ _ _).mono ?_; rintro e w' ⟨rfl, rfl⟩) | (go_at_call 34; refine (Word_any _ _ (by assumption)).mono ?_; rintro e w' ⟨rfl, rfl⟩))
            have HID := Lib.hid hid'; have HLL := Lib.hid hll; clear hid' hll
            go_loopg [5] (k + 1) (fun g i w2 => ∃ j : Nat, j ≤ k ∧ g = k + 1 - j ∧ i = .int .i64 j ∧ (t.take j).any (fun d => decide (d.id = c.id)) = false ∧ Below w1.heap.size w1 w2 ∧ RdAt w2 w1.heap.size 0 c)
            case atStart => exact ⟨0, Nat.zero_le _, by simp, rfl, by simp, (by repeat (first | exact Below.refl _ _ | assumption | refine Below.drew ?_ | refine below_drewN ?_ _ | refine Below.alloc ?_ (by first | exact Nat.le_refl _ | omega | (simp; done) | (simp; omega) | (simp at *; omega)) _ | refine Below.setCell ?_ (by first | exact Nat.le_refl _ | omega | (simp; done) | (simp; omega) | (simp at *; omega)) _ | refine Below.grown ?_ (by assumption) (by first | exact Nat.le_refl _ | omega | (simp; done) | (simp; omega) | (simp at *; omega)) (by first | assumption | (intro _ hk; simp [Value.ownBlock] at hk; omega)))), RdAt.mk_chap (by simp) (by simp) (by simp) hwc (hrl.below (by repeat (first | exact Below.refl _ _ | assumption | refine Below.drew ?_ | refine below_drewN ?_ _ | refine Below.alloc ?_ (by first | exact Nat.le_refl _ | omega | (simp; done) | (simp; omega) | (simp at *; omega)) _ | refine Below.setCell ?_ (by first | exact Nat.le_refl _ | omega | (simp; done) | (simp; omega) | (simp at *; omega)) _ | refine Below.grown ?_ (by assumption) (by first | exact Nat.le_refl _ | omega | (simp; done) | (simp; omega) | (simp at *; omega)) (by first | assumption | (intro _ hk; simp [Value.ownBlock] at hk; omega)))))⟩
            case round =>
              obtain ⟨w2, rfl⟩ : ∃ x : World, x = wr := ⟨_, rfl⟩
              obtain ⟨j, hj, rfl, rfl, hq, hB2, hC⟩ := hrel
              have HQ := Lib.hid hq; clear hq
              obtain ⟨e1, pl', cl', e2, hrl'⟩ := hC.chap
              obtain ⟨pt', ct', e0', hrt'⟩ := (hT.below hB2).slice
              have hzc := hC.1
              have hml' := hrl'.bd
              by_cases hjk : j < k
              · obtain ⟨d, hdx⟩ := some_of_lt (show j < t.length by omega)
                obtain ⟨b', o', rfl, hb', d0, _, _, _, _, _⟩ := hrt'.chap hdx
                have HD := Lib.hid hdx; clear hdx
                by_cases he : d.id = c.id
                · have hd : (d.id == c.id) = true := by simp [he]
                  have HE := Lib.hid he; clear he
                  go_wp2
                  go_quiet (fail)
                  go_wp2
                  go_ret
                  exact ⟨ret_bool (by
                    have := not_nodup_map (f := fun x : Chap => x.id) HD.out HX.out hjk HE.out
                    simp [textB, this]), below_drewN (hB.trans (hB2.mono hB.size)) _⟩
                · have hd : (d.id == c.id) = false := by simp [he]
                  have HE := Lib.hid he; clear he
                  go_wp2
                  go_quiet (fail)
                  go_wp2
                  go_roundg (k + 1 - (j + 1))
                  case rel => exact ⟨j + 1, by omega, rfl, by go_num, by rw [any_take HD.out, HQ.out]; simp [HE.out], below_drewN hB2 _, hC.below (below_drewN (Below.refl _ _) _)⟩
                  case measure => omega
              · obtain rfl : j = k := by omega
                have HNM : Hid (c.id ∉ (t.take j).map (·.id)) := not_mem_take (f := fun x : Chap => x.id) HQ.out
                go_wp2
                go_loopg [6] (c.lines.length + 1) (fun g i w3 => ∃ n : Nat, n ≤ c.lines.length ∧ g = c.lines.length + 1 - n ∧ i = .int .i64 n ∧ (c.lines.take n).all lineB = true ∧ w2 = w3)
                case atStart => exact ⟨0, Nat.zero_le _, by simp, rfl, by simp, rfl⟩
                case round =>
                  obtain ⟨n, hn, rfl, rfl, hq, rfl⟩ := hrel
                  have HQ1 := Lib.hid hq; clear hq
                  by_cases hln : n < c.lines.length
                  · obtain ⟨l, hlx⟩ := some_of_lt hln
                    obtain ⟨b3, o3, rfl, hb3, q3, u3, d3, hrw⟩ := hrl'.sub hlx
                    have HL := Lib.hid hlx; clear hlx
                    have hmw := hrw.bd
                    cases hl10 : inB l.length 1 10
                    · go_wp2_with (first | (go_at_call 16; refine (within_any _ _ _ _).mono ?_; rintro e w' ⟨rfl, rfl⟩) | (go_at_call 34; refine (Word_any _ _ (by assumption)).mono ?_; rintro e w' ⟨rfl, rfl⟩))
                      go_ret
                      exact ⟨ret_bool (by
                        have h1 : c.lines.all lineB = false := all_false_of HL.out (by simp [lineB, hl10])
                        have : t.all chapB = false := all_false_of HX.out (by simp [chapB, h1])
                        simp [textB, this]), hB.trans (hB2.mono hB.size)⟩
                    · go_wp2_with (first | (go_at_call 16; refine (within_any _ _ _ _).mono ?_; rintro e w' ⟨rfl, rfl⟩) | (go_at_call 34; refine (Word_any _ _ (by assumption)).mono ?_; rintro e w' ⟨rfl, rfl⟩))
                      have HL10 := Lib.hid hl10; clear hl10
                      go_loopg [7] (l.length + 1) (fun g i w3 => ∃ m : Nat, m ≤ l.length ∧ g = l.length + 1 - m ∧ i = .int .i64 m ∧ (l.take m).all wordB = true ∧ w2 = w3)
                      case atStart => exact ⟨0, Nat.zero_le _, by simp, rfl, by simp, rfl⟩
                      case round =>
                        obtain ⟨m, hm, rfl, rfl, hq, rfl⟩ := hrel
                        have HQ2 := Lib.hid hq; clear hq
                        by_cases hlm : m < l.length
                        · obtain ⟨s, hsx⟩ := some_of_lt hlm
                          obtain ⟨b4, o4, rfl, hb4, d4, hss⟩ := hrw.str hsx
                          have HS := Lib.hid hsx; clear hsx
                          cases hwd : wordB s
                          · go_wp2_with (first | (go_at_call 16; refine (within_any _ _ _ _).mono ?_; rintro e w' ⟨rfl, rfl⟩) | (go_at_call 34; refine (Word_any _ _ (by assumption)).mono ?_; rintro e w' ⟨rfl, rfl⟩))
                            go_ret
                            exact ⟨ret_bool (by
                              have h2 : l.all wordB = false := all_false_of HS.out hwd
                              have h1 : c.lines.all lineB = false := all_false_of HL.out (by simp [lineB, h2])
                              have : t.all chapB = false := all_false_of HX.out (by simp [chapB, h1])
                              simp [textB, this]), hB.trans (hB2.mono hB.size)⟩
                          · go_wp2_with (first | (go_at_call 16; refine (within_any _ _ _ _).mono ?_; rintro e w' ⟨rfl, rfl⟩) | (go_at_call 34; refine (Word_any _ _ (by assumption)).mono ?_; rintro e w' ⟨rfl, rfl⟩))
                            go_roundg (l.length + 1 - (m + 1))
                            case rel => exact ⟨m + 1, by omega, rfl, by go_num, by rw [all_take HS.out, HQ2.out, hwd]; rfl, rfl⟩
                            case measure => omega
                        · have h1 : l.all wordB = true := by have := HQ2.out; rwa [take_all (by omega)] at this
                          have H1 := Lib.hid h1; clear h1
                          go_wp2
                          go_roundg (c.lines.length + 1 - (n + 1))
                          case rel => exact ⟨n + 1, by omega, rfl, by go_num, by rw [all_take HL.out, HQ1.out]; simp [lineB, HL10.out, H1.out], rfl⟩
                          case measure => omega
                  · have h1 : c.lines.all lineB = true := by have := HQ1.out; rwa [take_all (by omega)] at this
                    have H1 := Lib.hid h1; clear h1
                    go_wp2
                    go_roundg (t.length + 1 - (j + 1))
                    case rel => exact ⟨j + 1, by omega, rfl, by go_num, by rw [all_take HX.out, HP.out]; simp [chapB, HID.out, HLL.out, H1.out], by rw [map_take_snoc HX.out]; exact nodup_snoc HND.out HNM.out, hB.trans (hB2.mono hB.size), hT.below hB2⟩
                    case measure => omega
      · go_wp2
        go_ret
        exact ⟨ret_bool (by
          have h1 := HP.out
          have h2 := HND.out
          rw [take_all (by omega)] at h1 h2
          simp [textB, H6.out, h1, h2]), hB⟩
end Go.Proofs.Ytalkonicppbgdaa

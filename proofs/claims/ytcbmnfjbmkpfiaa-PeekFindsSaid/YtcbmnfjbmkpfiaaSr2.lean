/- Sifting down in a row that is a heap. -/
import Derived.Test.YtcbmnfjbmkpfiaaSr1
namespace Go.Proofs.Ytcbmnfjbmkpfiaa
open Go.ChangeShapes Go.WideShapes Go.ChangeAt Go.RowKit
set_option linter.unusedVariables false
theorem sift_stop {hi F r : Nat} {d : Array Int} (h : hi ≤ 2 * r + 1) : Sort.siftDown lti hi F r d = d := by
  rw [Sort.siftDown, dif_pos h]
theorem sift_at {hi F r c : Nat} {d : Array Int} (h : ¬ hi ≤ 2 * r + 1)
    (hc : (c = 2 * r + 1 ∧ ¬ (2 * r + 2 < hi ∧ lti d[F + (2 * r + 1)]! d[F + (2 * r + 2)]! = true)) ∨ (c = 2 * r + 2 ∧ 2 * r + 2 < hi ∧ lti d[F + (2 * r + 1)]! d[F + (2 * r + 2)]! = true)) :
    Sort.siftDown lti hi F r d = if lti d[F + r]! d[F + c]! = true then Sort.siftDown lti hi F c (Sort.swp d (F + r) (F + c)) else d := by
  rw [Sort.siftDown, dif_neg h]
  have e : F + (2 * r + 1) + 1 = F + (2 * r + 2) := by omega
  rw [e]
  rcases hc with ⟨rfl, hn⟩ | ⟨rfl, h1, h2⟩
  · rw [if_neg (by simpa [Bool.and_eq_true] using hn)]
    cases lti d[F + r]! d[F + (2 * r + 1)]! <;> rfl
  · rw [if_pos (by simp only [Bool.and_eq_true]; exact ⟨by simpa using h1, h2⟩)]
    cases lti d[F + r]! d[F + (2 * r + 2)]!
    · rfl
    · simp only [Bool.not_true, Bool.false_eq_true, if_false, if_true]
      rw [dif_pos h1]
/-- What a function ends in that makes of a row another one. -/
def Makes (w : World) (blk off : Nat) (d d' : Array Int) (e : Ending) (w' : World) : Prop := e = .returned (.tuple #[]) ∧ SW w w' blk off d d'
set_option maxHeartbeats 4000000 in
theorem sift_any {blk off cap lo hi F n : Nat} {d : Array Int} {w : World} (hH : Sort.Holds eu w blk off d) (hl : blk < w.heap.size) (hn : d.size = n) (hlo : lo ≤ n) (hF : F + hi ≤ n) (hsz : n < 1152921504606846976) :
    Calls Try.prog 97 #[.slice (some ⟨blk, off, none⟩) n cap, .int .i64 lo, .int .i64 hi, .int .i64 F] w (Makes w blk off d (Sort.siftDown lti hi F lo d)) := by
  have HS := Lib.hid (SW.refl hH hl)
  have HN := Lib.hid hn
  clear hn hH hl
  go_enter Try.func97, Try.ntmps97
  go_wp2_with fail
  go_loopw [8] (fun vr wr => ∃ (r : Nat) (dk : Array Int), r ≤ n ∧ vr = .int .i64 r ∧ Hid (SW w wr blk off d dk) ∧ Hid (Sort.siftDown lti hi F r dk = Sort.siftDown lti hi F lo d)) (fun vr _ => n - (intOf vr).toNat)
  case atStart => exact ⟨lo, d, hlo, rfl, HS, rfl⟩
  case round =>
    obtain ⟨r, dk, hr, rfl, hsw, hsd⟩ := hrel
    obtain ⟨c1, hc1⟩ : ∃ c, c = 2 * r + 1 := ⟨_, rfl⟩
    have y1 : 2 * (r : Int) + 1 = (c1 : Int) := by omega
    by_cases hst : hi ≤ c1
    case pos =>
      have hd : decide (hi ≤ c1) = true := by simpa using hst
      have HZ : Hid (dk = Sort.siftDown lti hi F lo d) := (sift_stop (by omega)).symm.trans hsd.out
      clear hc1 hst
      go_wp2_with fail
      go_end0
      exact ⟨rfl, by rw [← HZ.out]; exact hsw.out⟩
    case neg =>
      have hd : decide (hi ≤ c1) = false := by simpa using hst
      obtain ⟨c2, hc2⟩ : ∃ c, c = c1 + 1 := ⟨_, rfl⟩
      obtain ⟨fr, hfr⟩ : ∃ c, c = F + r := ⟨_, rfl⟩
      obtain ⟨f1, hf1⟩ : ∃ c, c = F + c1 := ⟨_, rfl⟩
      obtain ⟨f2, hf2⟩ : ∃ c, c = F + c2 := ⟨_, rfl⟩
      have hdn : dk.size = n := hsw.out.sz.trans HN.out
      have hfrn : fr < n := by omega
      have hf1n : f1 < n := by omega
      have hc1n : c1 ≤ n := by omega
      have hc2n : c2 ≤ n := by omega
      have hr1 : r < c1 := by omega
      have hr2 : r < c2 := by omega
      have hff1 : fr < f1 := by omega
      have hff2 : fr < f2 := by omega
      obtain ⟨X, hX⟩ : ∃ X, X = dk[fr]! := ⟨_, rfl⟩
      obtain ⟨P, hP⟩ : ∃ X, X = dk[f1]! := ⟨_, rfl⟩
      obtain ⟨Q, hQ⟩ : ∃ X, X = dk[f2]! := ⟨_, rfl⟩
      have b0 := hsw.out.cell (t := fr) (by omega)
      have b1 := hsw.out.cell (t := f1) (by omega)
      have z0 := hsw.out.frozen (t := fr) (by omega)
      have z1 := hsw.out.frozen (t := f1) (by omega)
      rw [← hX] at b0
      rw [← hP] at b1
      have HAT : Hid (∀ c, ((c = 2 * r + 1 ∧ ¬ (2 * r + 2 < hi ∧ lti P Q = true)) ∨ (c = 2 * r + 2 ∧ 2 * r + 2 < hi ∧ lti P Q = true)) → Sort.siftDown lti hi F r dk = if lti X dk[F + c]! = true then Sort.siftDown lti hi F c (Sort.swp dk fr (F + c)) else dk) := fun c hc => by
        rw [hX, hfr]
        refine sift_at (by omega) ?_
        rw [hP, hQ, hf1, hf2, hc2, hc1] at hc
        exact hc
      have HC1 := Lib.hid hc1
      have HC2 := Lib.hid hc2
      have HF1 := Lib.hid hf1
      have HF2 := Lib.hid hf2
      have HDN := Lib.hid hdn
      have HX := Lib.hid hX
      have HP := Lib.hid hP
      have HQ := Lib.hid hQ
      by_cases h2 : c2 < hi
      case neg =>
        have hd2 : decide (c2 < hi) = false := by simpa using h2
        have HCH : Hid (Sort.siftDown lti hi F r dk = if lti X P = true then Sort.siftDown lti hi F c1 (Sort.swp dk fr f1) else dk) := by
          have h := HAT.out c1 (.inl ⟨HC1.out, fun h => by have := HC1.out; have := HC2.out; omega⟩)
          rw [← HF1.out, ← HP.out] at h
          exact h
        have y2 : IntKind.i64.wrap ((c1 : Int) + 1) = (c2 : Int) := by rw [IntWalk.i64_in _ (by omega)]; omega
        have y2' : (c1 : Int) + 1 = (c2 : Int) := by omega
        have y3 : IntKind.i64.wrap ((F : Int) + (r : Int)) = (fr : Int) := by rw [IntWalk.i64_in _ (by omega)]; omega
        have y4 : IntKind.i64.wrap ((F : Int) + (c1 : Int)) = (f1 : Int) := by rw [IntWalk.i64_in _ (by omega)]; omega
        have y5 : IntKind.i64.wrap ((f1 : Int) + 1) = (f2 : Int) := by rw [IntWalk.i64_in _ (by omega)]; omega
        have y6 : IntKind.i64.wrap ((F : Int) + (c2 : Int)) = (f2 : Int) := by rw [IntWalk.i64_in _ (by omega)]; omega
        clear hc1 hc2 hfr hf1 hf2 hdn hX hP hQ
        go_wp2_with fail
        go_quiet (fail)
        go_wp2_with fail
        have HSW1 := Lib.hid (hsw.out.same (w := wr.drewN nq) rfl rfl rfl rfl)
        clear b0 b1 z0 z1 
        generalize World.drewN wr nq = w1 at *
        have b0 := HSW1.out.cell (t := fr) (by rw [HDN.out]; exact hfrn)
        have b1 := HSW1.out.cell (t := f1) (by rw [HDN.out]; exact hf1n)
        have z0 := HSW1.out.frozen (t := fr) (by rw [HDN.out]; exact hfrn)
        have z1 := HSW1.out.frozen (t := f1) (by rw [HDN.out]; exact hf1n)
        rw [← HX.out] at b0
        rw [← HP.out] at b1
        cases hx : lti X P
        case false =>
          have HL2 : Hid (∀ w, Calls Try.prog 87 #[.int .u64 X, .int .u64 P] w fun e w' => e = .returned (.bool false) ∧ w' = w) := fun w => less_is hx w
          have HE : Hid (dk = Sort.siftDown lti hi F lo d) := by
            have h := HCH.out
            rw [hx, if_neg (by decide)] at h
            exact h.symm.trans hsd.out
          clear hx
          go_quiet ((go_at_call 87; exact Calls.quiet_of_same (HL2.out _)))
          go_wp2_with fail
          go_end0
          exact ⟨rfl, by rw [← HE.out]; exact HSW1.out.same rfl rfl rfl rfl⟩
        case true =>
          have HL2 : Hid (∀ w, Calls Try.prog 87 #[.int .u64 X, .int .u64 P] w fun e w' => e = .returned (.bool true) ∧ w' = w) := fun w => less_is hx w
          have HE : Hid (Sort.siftDown lti hi F c1 (Sort.swp dk fr f1) = Sort.siftDown lti hi F lo d) := by
            have h := HCH.out
            rw [hx, if_pos rfl] at h
            exact h.symm.trans hsd.out
          clear hx
          go_quiet ((go_at_call 87; exact Calls.quiet_of_same (HL2.out _)))
          go_wp2_with fail
          go_region
          all_goals go_wp2_with fail
          all_goals go_roundw
          case rel =>
            refine ⟨c1, Sort.swp dk fr f1, hc1n, rfl, ?_, HE⟩
            exact HSW1.out.swpv (i := fr) (j := f1) (by rw [HDN.out]; exact hfrn) (by rw [HDN.out]; exact hf1n) HX.out HP.out rfl rfl rfl rfl
          case measure => clear y1 y2 y2' y3 y4 y5 y6; simp [intOf]; omega
      case pos =>
        have hd2 : decide (c2 < hi) = true := by simpa using h2
        have hf2n : f2 < n := by omega
        have b2 := hsw.out.cell (t := f2) (by omega)
        have z2 := hsw.out.frozen (t := f2) (by omega)
        rw [← hQ] at b2
        cases hpq : lti P Q
        case false =>
          have HCH : Hid (Sort.siftDown lti hi F r dk = if lti X P = true then Sort.siftDown lti hi F c1 (Sort.swp dk fr f1) else dk) := by
            have h := HAT.out c1 (.inl ⟨HC1.out, fun h => by rw [hpq] at h; exact absurd h.2 (by decide)⟩)
            rw [← HF1.out, ← HP.out] at h
            exact h
          have y2 : IntKind.i64.wrap ((c1 : Int) + 1) = (c2 : Int) := by rw [IntWalk.i64_in _ (by omega)]; omega
          have y2' : (c1 : Int) + 1 = (c2 : Int) := by omega
          have y3 : IntKind.i64.wrap ((F : Int) + (r : Int)) = (fr : Int) := by rw [IntWalk.i64_in _ (by omega)]; omega
          have y4 : IntKind.i64.wrap ((F : Int) + (c1 : Int)) = (f1 : Int) := by rw [IntWalk.i64_in _ (by omega)]; omega
          have y5 : IntKind.i64.wrap ((f1 : Int) + 1) = (f2 : Int) := by rw [IntWalk.i64_in _ (by omega)]; omega
          have y6 : IntKind.i64.wrap ((F : Int) + (c2 : Int)) = (f2 : Int) := by rw [IntWalk.i64_in _ (by omega)]; omega
          clear hc1 hc2 hfr hf1 hf2 hdn hX hP hQ
          have HL1 : Hid (∀ w, Calls Try.prog 87 #[.int .u64 P, .int .u64 Q] w fun e w' => e = .returned (.bool false) ∧ w' = w) := fun w => less_is hpq w
          clear hpq
          go_wp2_with fail
          go_quiet ((go_at_call 87; exact Calls.quiet_of_same (HL1.out _)))
          go_wp2_with fail
          have HSW1 := Lib.hid (hsw.out.same (w := wr.drewN nq) rfl rfl rfl rfl)
          clear b0 b1 z0 z1 b2 z2
          generalize World.drewN wr nq = w1 at *
          have b0 := HSW1.out.cell (t := fr) (by rw [HDN.out]; exact hfrn)
          have b1 := HSW1.out.cell (t := f1) (by rw [HDN.out]; exact hf1n)
          have z0 := HSW1.out.frozen (t := fr) (by rw [HDN.out]; exact hfrn)
          have z1 := HSW1.out.frozen (t := f1) (by rw [HDN.out]; exact hf1n)
          rw [← HX.out] at b0
          rw [← HP.out] at b1
          cases hx : lti X P
          case false =>
            have HL2 : Hid (∀ w, Calls Try.prog 87 #[.int .u64 X, .int .u64 P] w fun e w' => e = .returned (.bool false) ∧ w' = w) := fun w => less_is hx w
            have HE : Hid (dk = Sort.siftDown lti hi F lo d) := by
              have h := HCH.out
              rw [hx, if_neg (by decide)] at h
              exact h.symm.trans hsd.out
            clear hx
            go_quiet ((go_at_call 87; exact Calls.quiet_of_same (HL2.out _)))
            go_wp2_with fail
            go_end0
            exact ⟨rfl, by rw [← HE.out]; exact HSW1.out.same rfl rfl rfl rfl⟩
          case true =>
            have HL2 : Hid (∀ w, Calls Try.prog 87 #[.int .u64 X, .int .u64 P] w fun e w' => e = .returned (.bool true) ∧ w' = w) := fun w => less_is hx w
            have HE : Hid (Sort.siftDown lti hi F c1 (Sort.swp dk fr f1) = Sort.siftDown lti hi F lo d) := by
              have h := HCH.out
              rw [hx, if_pos rfl] at h
              exact h.symm.trans hsd.out
            clear hx
            go_quiet ((go_at_call 87; exact Calls.quiet_of_same (HL2.out _)))
            go_wp2_with fail
            go_region
            all_goals go_wp2_with fail
            all_goals go_roundw
            case rel =>
              refine ⟨c1, Sort.swp dk fr f1, hc1n, rfl, ?_, HE⟩
              exact HSW1.out.swpv (i := fr) (j := f1) (by rw [HDN.out]; exact hfrn) (by rw [HDN.out]; exact hf1n) HX.out HP.out rfl rfl rfl rfl
            case measure => clear y1 y2 y2' y3 y4 y5 y6; simp [intOf]; omega
        case true =>
          have HCH : Hid (Sort.siftDown lti hi F r dk = if lti X Q = true then Sort.siftDown lti hi F c2 (Sort.swp dk fr f2) else dk) := by
            have h := HAT.out c2 (.inr ⟨by have := HC1.out; have := HC2.out; omega, by have := HC1.out; have := HC2.out; omega, hpq⟩)
            rw [← HF2.out, ← HQ.out] at h
            exact h
          have y2 : IntKind.i64.wrap ((c1 : Int) + 1) = (c2 : Int) := by rw [IntWalk.i64_in _ (by omega)]; omega
          have y2' : (c1 : Int) + 1 = (c2 : Int) := by omega
          have y3 : IntKind.i64.wrap ((F : Int) + (r : Int)) = (fr : Int) := by rw [IntWalk.i64_in _ (by omega)]; omega
          have y4 : IntKind.i64.wrap ((F : Int) + (c1 : Int)) = (f1 : Int) := by rw [IntWalk.i64_in _ (by omega)]; omega
          have y5 : IntKind.i64.wrap ((f1 : Int) + 1) = (f2 : Int) := by rw [IntWalk.i64_in _ (by omega)]; omega
          have y6 : IntKind.i64.wrap ((F : Int) + (c2 : Int)) = (f2 : Int) := by rw [IntWalk.i64_in _ (by omega)]; omega
          clear hc1 hc2 hfr hf1 hf2 hdn hX hP hQ
          have HL1 : Hid (∀ w, Calls Try.prog 87 #[.int .u64 P, .int .u64 Q] w fun e w' => e = .returned (.bool true) ∧ w' = w) := fun w => less_is hpq w
          clear hpq
          go_wp2_with fail
          go_quiet ((go_at_call 87; exact Calls.quiet_of_same (HL1.out _)))
          go_wp2_with fail
          have HSW1 := Lib.hid (hsw.out.same (w := wr.drewN nq) rfl rfl rfl rfl)
          clear b0 b1 z0 z1 b2 z2
          generalize World.drewN wr nq = w1 at *
          have b0 := HSW1.out.cell (t := fr) (by rw [HDN.out]; exact hfrn)
          have b1 := HSW1.out.cell (t := f2) (by rw [HDN.out]; exact hf2n)
          have z0 := HSW1.out.frozen (t := fr) (by rw [HDN.out]; exact hfrn)
          have z1 := HSW1.out.frozen (t := f2) (by rw [HDN.out]; exact hf2n)
          rw [← HX.out] at b0
          rw [← HQ.out] at b1
          cases hx : lti X Q
          case false =>
            have HL2 : Hid (∀ w, Calls Try.prog 87 #[.int .u64 X, .int .u64 Q] w fun e w' => e = .returned (.bool false) ∧ w' = w) := fun w => less_is hx w
            have HE : Hid (dk = Sort.siftDown lti hi F lo d) := by
              have h := HCH.out
              rw [hx, if_neg (by decide)] at h
              exact h.symm.trans hsd.out
            clear hx
            go_quiet ((go_at_call 87; exact Calls.quiet_of_same (HL2.out _)))
            go_wp2_with fail
            go_end0
            exact ⟨rfl, by rw [← HE.out]; exact HSW1.out.same rfl rfl rfl rfl⟩
          case true =>
            have HL2 : Hid (∀ w, Calls Try.prog 87 #[.int .u64 X, .int .u64 Q] w fun e w' => e = .returned (.bool true) ∧ w' = w) := fun w => less_is hx w
            have HE : Hid (Sort.siftDown lti hi F c2 (Sort.swp dk fr f2) = Sort.siftDown lti hi F lo d) := by
              have h := HCH.out
              rw [hx, if_pos rfl] at h
              exact h.symm.trans hsd.out
            clear hx
            go_quiet ((go_at_call 87; exact Calls.quiet_of_same (HL2.out _)))
            go_wp2_with fail
            go_region
            all_goals go_wp2_with fail
            all_goals go_roundw
            case rel =>
              refine ⟨c2, Sort.swp dk fr f2, hc2n, rfl, ?_, HE⟩
              exact HSW1.out.swpv (i := fr) (j := f2) (by rw [HDN.out]; exact hfrn) (by rw [HDN.out]; exact hf2n) HX.out HQ.out rfl rfl rfl rfl
            case measure => clear y1 y2 y2' y3 y4 y5 y6; simp [intOf]; omega
end Go.Proofs.Ytcbmnfjbmkpfiaa

/- The sort of a row of numbers. -/
import Derived.Test.YtmdgmnaaopineaaSr9
import Derived.Deep.DeepCutAuto
import Derived.Deep.CutBlock
namespace Go.Proofs.Ytmdgmnaaopineaa
open Go.ChangeShapes Go.WideShapes Go.ChangeAt Go.RowKit
set_option linter.unusedVariables false
/-- What is still to be sorted, and that the whole is then. -/
structure Inv (a b : Nat) (d : Array Int) (a' b' : Nat) (dk : Array Int) : Prop where
  be : Sort.Below lti a' b' dk
  fin : ∀ R, Sort.PermIn a' b' dk R → Sort.SortedIn lti a' b' R → Sort.PermIn a b d R ∧ Sort.SortedIn lti a b R
theorem Inv.perm {a b a' b' : Nat} {d dk d1 : Array Int} (h : Inv a b d a' b' dk) (hb : b' ≤ dk.size) (hp : Sort.PermIn a' b' dk d1) : Inv a b d a' b' d1 :=
  ⟨h.be.perm hb hp, fun R h1 h2 => h.fin R (Sort.permIn_trans _ _ _ _ _ hp h1) h2⟩
set_option maxRecDepth 100000 in
set_option maxHeartbeats 16000000 in
theorem spdq_ind (n : Nat) (hsz : n < 65536) (blk off cap : Nat) : ∀ (m : Nat) (w : World) (d : Array Int) (a b limit : Nat), b - a ≤ m → Sort.Holds eu w blk off d → blk < w.heap.size → d.size = n → a ≤ b → b ≤ n → limit ≤ 64 → Sort.Below lti a b d →
    Calls Try.prog 143 #[.slice (some ⟨blk, off, none⟩) n cap, .int .i64 a, .int .i64 b, .int .i64 limit] w (SortsIn w blk off a b d) := by
  intro m
  induction m using Nat.strongRecOn with
  | _ m ih => ?_
  intro w d a b limit hm hH hl hn hab hb hlim hbel
  have IH : Hid (∀ (w : World) (d : Array Int) (a' b' limit : Nat), b' - a' < b - a → Sort.Holds eu w blk off d → blk < w.heap.size → d.size = n → a' ≤ b' → b' ≤ n → limit ≤ 64 → Sort.Below lti a' b' d →
    Calls Try.prog 143 #[.slice (some ⟨blk, off, none⟩) n cap, .int .i64 a', .int .i64 b', .int .i64 limit] w (SortsIn w blk off a' b' d)) :=
    fun w d a' b' limit hlt => ih (b' - a') (Nat.lt_of_lt_of_le hlt hm) w d a' b' limit (Nat.le_refl _)
  have HS := Lib.hid (SW.refl hH hl)
  have HN := Lib.hid hn
  have HINV : Hid (Inv a b d a b d) := ⟨hbel, fun R h1 h2 => ⟨h1, h2⟩⟩
  clear ih hm hH hl hn hbel
  go_enter Try.func143, Try.ntmps143
  go_wp2_with fail
  go_loopw [1, 2, 3, 8, 9] (fun va vb vl vwb vwp wr => ∃ (a' b' l : Nat) (wb wp : Bool) (dk : Array Int), a ≤ a' ∧ a' ≤ b' ∧ b' ≤ b ∧ l ≤ 64 ∧ va = .int .i64 a' ∧ vb = .int .i64 b' ∧ vl = .int .i64 l ∧ vwb = .bool wb ∧ vwp = .bool wp ∧ Hid (SW w wr blk off d dk) ∧ Hid (Inv a b d a' b' dk)) (fun va vb _ _ _ _ => (intOf vb - intOf va).toNat)
  case atStart => exact ⟨a, b, limit, true, true, d, Nat.le_refl _, hab, Nat.le_refl _, hlim, rfl, rfl, rfl, rfl, rfl, HS, HINV⟩
  case round =>
    obtain ⟨a', b', l, wb, wp, dk, ha1, hab', hb1, hl64, rfl, rfl, rfl, rfl, rfl, hsw, hinv⟩ := hrel
    have hb'n : b' ≤ n := Nat.le_trans hb1 hb
    have HDK : Hid (dk.size = n) := hsw.out.sz.trans HN.out
    obtain ⟨L, hL⟩ : ∃ L, L = b' - a' := ⟨_, rfl⟩
    have y0 : (b' : Int) - (a' : Int) = (L : Int) := by omega
    have HL := Lib.hid hL
    by_cases h12 : L ≤ 12
    case pos =>
      have hd : decide ((L : Int) ≤ 12) = true := by simp; omega
      have hi := sins_any (cap := cap) hsw.out.holds hsw.out.lt' hab' (by rw [HDK.out]; exact hb'n) (by rw [HDK.out]; omega)
      rw [HDK.out] at hi
      have HI := Lib.hid hi
      clear hi hL
      go_wp2_with fail
      refine HI.out.mono ?_; rintro e w1 ⟨d1, rfl, h1, h2, h3⟩
      have H1 := Lib.hid (hsw.out.trans h1)
      have H2 := Lib.hid (hinv.out.fin d1 h2 h3)
      clear h1 h2 h3
      go_wp2_with fail
      go_end0
      exact ⟨d1, rfl, H1.out, H2.out.1, H2.out.2⟩
    case neg =>
      have hd : decide ((L : Int) ≤ 12) = false := by simp; omega
      have hL13 : 13 ≤ L := by omega
      have hab13 : a' + 13 ≤ b' := by omega
      have hab1 : a' < b' := by omega
      clear hL
      by_cases hl0 : l = 0
      case pos =>
        have hdl : ((l : Int) == 0) = true := by simp; omega
        have hi := sheap_any (cap := cap) hsw.out.holds hsw.out.lt' HDK.out hab1 hb'n (by omega)
        have HI := Lib.hid hi
        clear hi hl0
        go_wp2_with fail
        refine HI.out.mono ?_; rintro e w1 ⟨d1, rfl, h1, h2, h3⟩
        have H1 := Lib.hid (hsw.out.trans h1)
        have H2 := Lib.hid (hinv.out.fin d1 h2 h3)
        clear h1 h2 h3
        go_wp2_with fail
        go_end0
        exact ⟨d1, rfl, H1.out, H2.out.1, H2.out.2⟩
      case neg =>
        have hdl : ((l : Int) == 0) = false := by simp; omega
        have hl1 : 1 ≤ l := by omega
        clear hl0
        go_upto_if 35 with (fail)
        go_cut [3] from 19 to 133 (fun s3 wx => ∃ (l' : Nat) (d1 : Array Int), s3 = .int .i64 (l' : Int) ∧ l' ≤ 64 ∧ Hid (SW w wx blk off d d1) ∧ Hid (Inv a b d a' b' d1))
        case first =>
          cases wb
          case true =>
            go_wp2_with fail
            go_meet
            exact ⟨l, dk, rfl, hl64, hsw, hinv⟩
          case false =>
            have hi := sbreak_any (cap := cap) hsw.out.holds hsw.out.lt' HDK.out hab13 hb'n hsz
            have HI := Lib.hid hi
            obtain ⟨l', hl'⟩ : ∃ l', l' = l - 1 := ⟨_, rfl⟩
            have y1 : (l : Int) - 1 = (l' : Int) := by clear y0; omega
            have hl'64 : l' ≤ 64 := by clear y0 y1; omega
            clear hi hl'
            go_wp2_with fail
            refine HI.out.mono ?_; rintro e w1 ⟨d1, rfl, h1, h2⟩
            have H1 := Lib.hid (hsw.out.trans h1)
            have H2 := Lib.hid (hinv.out.perm (by rw [HDK.out]; exact hb'n) h2)
            clear h1 h2
            go_wp2_with fail
            go_meet
            exact ⟨l', d1, rfl, hl'64, H1, H2⟩
        case rest =>
          obtain ⟨l', d1, rfl, hl'64, hs1, hv1⟩ := hcut
          have HD1 : Hid (d1.size = n) := hs1.out.sz.trans HN.out
          have hr1 := rw_holds hs1.out.holds
          rw [HD1.out] at hr1
          have hp := pivot_any (cap := cap) (a := a') (b := b') hr1 hs1.out.lt' (by omega) hab13 hb'n
          have HP := Lib.hid hp
          clear hr1 hp
          go_wp2_with fail
          refine HP.out.mono ?_; rintro e w1 ⟨u, h, rfl, hu1, hu2, hbw⟩
          have HS1 := Lib.hid (hs1.out.below hbw)
          clear hbw
          go_upto_if 50 with (fail)
          go_cut [11, 12] from 19 to 133 (fun s11 s12 wx => ∃ (v : Nat) (h' : Int) (d2 : Array Int), s11 = .int .i64 (v : Int) ∧ s12 = .int .i64 h' ∧ a' ≤ v ∧ v < b' ∧ Hid (SW w wx blk off d d2) ∧ Hid (Inv a b d a' b' d2))
          case first =>
            by_cases hh : h = 2
            case pos =>
              subst hh
              have hi := srev_any (cap := cap) HS1.out.holds HS1.out.lt' HD1.out hab1 hb'n (by omega)
              have HI := Lib.hid hi
              obtain ⟨c, hc⟩ : ∃ c, c = b' - 1 := ⟨_, rfl⟩
              obtain ⟨f, hf⟩ : ∃ f, f = u - a' := ⟨_, rfl⟩
              obtain ⟨v, hv⟩ : ∃ v, v = c - f := ⟨_, rfl⟩
              have y1 : (b' : Int) - 1 = (c : Int) := by clear y0; omega
              have y2 : (u : Int) - (a' : Int) = (f : Int) := by clear y0; omega
              have y3 : (c : Int) - (f : Int) = (v : Int) := by clear y0 y1 y2; omega
              have hv1' : a' ≤ v ∧ v < b' := by clear y0 y1 y2 y3; omega
              clear hi hc hf hv
              go_wp2_with fail
              refine HI.out.mono ?_; rintro e w2 ⟨d2, rfl, h1, h2⟩
              have H1 := Lib.hid (HS1.out.trans h1)
              have H2 := Lib.hid (hv1.out.perm (by rw [HD1.out]; exact hb'n) h2)
              clear h1 h2
              go_wp2_with fail
              go_meet
              exact ⟨v, 1, d2, rfl, rfl, hv1'.1, hv1'.2, H1, H2⟩
            case neg =>
              have hdh : (h == 2) = false := by simpa using hh
              clear hh
              go_wp2_with fail
              go_meet
              exact ⟨u, h, d1, rfl, rfl, hu1, hu2, HS1, hv1⟩
          case rest =>
            obtain ⟨v, h', d2, rfl, rfl, hva, hvb, hs2, hv2⟩ := hcut
            have HD2 : Hid (d2.size = n) := hs2.out.sz.trans HN.out
            go_upto_region 15 with (fail)
            go_cut [68] from 19 to 133 (fun s68 wx => ∃ (q : Bool), s68 = .bool q ∧ Hid (SW w wx blk off d d2))
            case first =>
              cases wb <;> cases wp <;> by_cases hh : h' = 1
              all_goals (first | (have hdh : (h' == 1) = true := by simpa using hh) | (have hdh : (h' == 1) = false := by simpa using hh))
              all_goals clear hh
              all_goals go_wp2_with fail
              all_goals go_meet
              all_goals exact ⟨_, rfl, hs2⟩
            case rest =>
              obtain ⟨q, rfl, hs2'⟩ := hcut
              go_upto_if 68 with (fail)
              go_cut [] from 19 to 133 (fun wx => ∃ (d3 : Array Int), Hid (SW w wx blk off d d3) ∧ Hid (Inv a b d a' b' d3))
              case first =>
                cases q
                case false =>
                  go_wp2_with fail
                  go_meet
                  exact ⟨d2, hs2', hv2⟩
                case true =>
                  have hi := spins_any (cap := cap) hs2'.out.holds hs2'.out.lt' HD2.out hab13 hb'n hsz hv2.out.be
                  have HI := Lib.hid hi
                  clear hi
                  go_wp2_with fail
                  refine HI.out.mono ?_; rintro e w2 ⟨d3, q, rfl, h1, h2, h3⟩
                  have H1 := Lib.hid (hs2'.out.trans h1)
                  have H2 := Lib.hid h2
                  have H3 := Lib.hid h3
                  clear h1 h2 h3
                  cases q
                  case false =>
                    have H4 := Lib.hid (hv2.out.perm (by rw [HD2.out]; exact hb'n) H2.out)
                    go_wp2_with fail
                    go_meet
                    exact ⟨d3, H1, H4⟩
                  case true =>
                    have H4 := Lib.hid (hv2.out.fin d3 H2.out (H3.out rfl))
                    go_wp2_with fail
                    go_end0
                    exact ⟨d3, rfl, H1.out, H4.out.1, H4.out.2⟩
              case rest =>
                obtain ⟨d3, hs3, hv3⟩ := hcut
                have HD3 : Hid (d3.size = n) := hs3.out.sz.trans HN.out
                go_upto_region 17 with (fail)
                go_cut [87] from 19 to 133 (fun s87 wx => ∃ (q : Bool), s87 = .bool q ∧ Hid (q = true → 0 < a' ∧ lti d3[a' - 1]! d3[v]! = false) ∧ Hid (SW w wx blk off d d3))
                case first =>
                  by_cases ha0 : 0 < a'
                  case neg =>
                    have hda : decide ((0 : Int) < (a' : Int)) = false := by simp; omega
                    go_quiet (fail)
                    go_wp2_with fail
                    go_meet
                    exact ⟨false, rfl, (fun h => by cases h), hs3.out.same rfl rfl rfl rfl⟩
                  case pos =>
                    have hda : decide ((0 : Int) < (a' : Int)) = true := by simp; omega
                    obtain ⟨k, hk⟩ : ∃ k, k = a' - 1 := ⟨_, rfl⟩
                    have y1 : IntKind.i64.wrap ((a' : Int) - 1) = (k : Int) := by clear y0; rw [IntWalk.i64_in _ (by omega)]; omega
                    have hd3n := HD3.out
                    have hkn : k < n := by clear y0 y1; omega
                    have hvn : v < n := by clear y0 y1; omega
                    obtain ⟨X, hX⟩ : ∃ X, X = d3[k]! := ⟨_, rfl⟩
                    obtain ⟨Y, hY⟩ : ∃ X, X = d3[v]! := ⟨_, rfl⟩
                    have c1 := hs3.out.cell (t := k) (by clear y0 y1; omega)
                    have c2 := hs3.out.cell (t := v) (by clear y0 y1; omega)
                    rw [← hX] at c1
                    rw [← hY] at c2
                    have HX := Lib.hid hX
                    have HY := Lib.hid hY
                    have HK := Lib.hid hk
                    clear hX hY hk hd3n
                    cases hless : lti X Y
                    case true =>
                      have HLS : Hid (∀ w, Calls Try.prog 154 #[.int .u64 X, .int .u64 Y] w fun e w' => e = .returned (.bool true) ∧ w' = w) := fun w => less_is hless w
                      clear hless
                      go_quiet ((go_at_call 154; exact Calls.quiet_of_same (HLS.out _)))
                      go_wp2_with fail
                      go_meet
                      exact ⟨false, rfl, (fun h => by cases h), hs3.out.same rfl rfl rfl rfl⟩
                    case false =>
                      have HLS : Hid (∀ w, Calls Try.prog 154 #[.int .u64 X, .int .u64 Y] w fun e w' => e = .returned (.bool false) ∧ w' = w) := fun w => less_is hless w
                      have HQ : Hid (0 < a' ∧ lti d3[a' - 1]! d3[v]! = false) := ⟨ha0, by rw [← HK.out, ← HX.out, ← HY.out]; exact hless⟩
                      clear hless
                      go_quiet ((go_at_call 154; exact Calls.quiet_of_same (HLS.out _)))
                      go_wp2_with fail
                      go_meet
                      exact ⟨true, rfl, (fun _ => HQ.out), hs3.out.same rfl rfl rfl rfl⟩
                case rest =>
                  obtain ⟨q, rfl, hq, hs3'⟩ := hcut
                  cases q
                  case true =>
                    obtain ⟨ha0, hless⟩ := hq.out rfl
                    rcases hx : Sort.partitionEqual lti d3 a' b' v with ⟨mid, d4⟩
                    obtain ⟨r1, r2, r3, r4, r5⟩ := Sort.round_eq Sort.swo_ltInt (Sort.partitionEqual_holds lti) ha0 hva hvb (by rw [HD3.out]; exact hb'n) hv3.out.be hless hx
                    have hi := spareq_any (cap := cap) hs3'.out.holds hs3'.out.lt' HD3.out hva hvb hb'n hsz
                    unfold ParEq at hi
                    rw [hx] at hi
                    have HI := Lib.hid hi
                    have HV : Hid (Inv a b d mid b' d4) := ⟨r4, fun R h1 h2 => by
                      have h3 := r5 R h1 h2
                      exact hv3.out.fin R h3.1 h3.2⟩
                    clear hi hx r3 r4 r5 hless
                    go_wp2_with fail
                    refine HI.out.mono ?_; rintro e w2 ⟨rfl, h1⟩
                    have H1 := Lib.hid (hs3'.out.trans h1)
                    clear h1
                    go_wp2_with fail
                    go_roundw
                    case rel => exact ⟨mid, b', l', wb, wp, d4, by clear y0; omega, r2, hb1, hl'64, rfl, rfl, rfl, rfl, rfl, H1, HV⟩
                    case measure => clear y0; simp [intOf]; omega
                  case false =>
                    clear hq
                    rcases hx : Sort.partition lti d3 a' b' v with ⟨mid, ap, d4⟩
                    obtain ⟨r1, r2, r3, r4, r5, r6, r7⟩ := Sort.round_part Sort.swo_ltInt (Sort.partition_holds lti) hva hvb (by rw [HD3.out]; exact hb'n) hv3.out.be hx
                    have hi := spart_any (cap := cap) hs3'.out.holds hs3'.out.lt' HD3.out hva hvb hb'n hsz
                    unfold ParT at hi
                    rw [hx] at hi
                    have HI := Lib.hid hi
                    have HD4 : Hid (d4.size = n) := r3.trans HD3.out
                    obtain ⟨A, hA⟩ : ∃ A, A = mid - a' := ⟨_, rfl⟩
                    obtain ⟨B, hB⟩ : ∃ B, B = b' - mid := ⟨_, rfl⟩
                    obtain ⟨E, hE⟩ : ∃ E, E = L / 8 := ⟨_, rfl⟩
                    have y1 : (mid : Int) - (a' : Int) = (A : Int) := by clear y0; omega
                    have y2 : (b' : Int) - (mid : Int) = (B : Int) := by clear y0 y1; omega
                    have y3 : (L : Int) / 8 = (E : Int) := by clear y0 y1 y2; omega
                    have HR4 := Lib.hid r4
                    have HR5 := Lib.hid r5
                    have HR6 := Lib.hid r6
                    have HR7 := Lib.hid r7
                    have hHA := Lib.hid hA
                    have hHB := Lib.hid hB
                    have hAn : A ≤ n := by clear y0 y1 y2 y3; omega
                    have hBn : B ≤ n := by clear y0 y1 y2 y3; omega
                    have hmidn : mid < n := by clear y0 y1 y2 y3; omega
                    clear hi hx r3 r4 r5 r6 r7 hA hB hE
                    by_cases hAB : A < B
                    case pos =>
                      have hdAB : decide (A < B) = true := by simpa using hAB
                      go_wp2_with fail
                      refine HI.out.mono ?_; rintro e w2 ⟨rfl, h1⟩
                      have H1 := Lib.hid (hs3'.out.trans h1)
                      clear h1
                      go_wp2_with fail
                      have hrec := IH.out w2 d4 a' mid l' (by clear y0 y1 y2 y3; omega) H1.out.holds H1.out.lt' HD4.out r1 (by clear y0 y1 y2 y3; omega) hl'64 HR4.out
                      refine hrec.mono ?_; rintro e w3 ⟨d5, rfl, h1, h2, h3⟩
                      have H2 := Lib.hid (H1.out.trans h1)
                      have h4 := HR6.out d5 h2 h3
                      have HV : Hid (Inv a b d (mid + 1) b' d5) := ⟨h4.1, fun R e1 e2 => by
                        have e3 := h4.2 R e1 e2
                        exact hv3.out.fin R e3.1 e3.2⟩
                      clear h1 h2 h3 h4 hrec
                      go_wp2_with fail
                      go_roundw
                      case rel => exact ⟨mid + 1, b', l', _, _, d5, by clear y0 y1 y2 y3; omega, by clear y0 y1 y2 y3; omega, hb1, hl'64, by go_num, rfl, rfl, rfl, rfl, H2, HV⟩
                      case measure => clear y0 y1 y2 y3; simp [intOf]; omega
                    case neg =>
                      have hdAB : decide (A < B) = false := by simpa using hAB
                      obtain ⟨M1, hM1⟩ : ∃ M1, M1 = mid + 1 := ⟨_, rfl⟩
                      have y4 : (mid : Int) + 1 = (M1 : Int) := by clear y0 y1 y2 y3; omega
                      rw [← hM1] at HR5 HR7
                      have HM1 := Lib.hid hM1
                      have hM1b : M1 ≤ b' := by clear y0 y1 y2 y3 y4; omega
                      have hM1a : b' - M1 < b - a := by clear y0 y1 y2 y3 y4; omega
                      clear hM1
                      go_wp2_with fail
                      refine HI.out.mono ?_; rintro e w2 ⟨rfl, h1⟩
                      have H1 := Lib.hid (hs3'.out.trans h1)
                      clear h1
                      go_wp2_with fail
                      have hrec := IH.out w2 d4 M1 b' l' hM1a H1.out.holds H1.out.lt' HD4.out hM1b hb'n hl'64 HR5.out
                      refine hrec.mono ?_; rintro e w3 ⟨d5, rfl, h1, h2, h3⟩
                      have H2 := Lib.hid (H1.out.trans h1)
                      have h4 := HR7.out d5 h2 h3
                      have HV : Hid (Inv a b d a' mid d5) := ⟨h4.1, fun R e1 e2 => by
                        have e3 := h4.2 R e1 e2
                        exact hv3.out.fin R e3.1 e3.2⟩
                      clear h1 h2 h3 h4 hrec
                      go_wp2_with fail
                      go_roundw
                      case rel => exact ⟨a', mid, l', _, _, d5, ha1, r1, by clear y0 y1 y2 y3 y4; omega, hl'64, rfl, rfl, rfl, rfl, rfl, H2, HV⟩
                      case measure => clear y0 y1 y2 y3 y4; simp [intOf]; omega
end Go.Proofs.Ytmdgmnaaopineaa

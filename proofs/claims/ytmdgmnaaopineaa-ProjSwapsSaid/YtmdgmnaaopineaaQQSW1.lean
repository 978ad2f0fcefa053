/-
  The law of this claim, a further part of its proof (1): the parts Sr10, Sr11, Sh3, Sh4, PsQ, PsT, PsM, Prj2, PrD.
-/
import Derived.Test.YtmdgmnaaopineaaSr9
import Derived.Deep.DeepCutAuto
import Derived.Deep.CutBlock
import Derived.Test.YtmdgmnaaopineaaU64
import Derived.Test.YtmdgmnaaopineaaSh2
import Derived.Test.YtmdgmnaaopineaaShM
import Derived.Test.YtmdgmnaaopineaaPrC
import Derived.Test.YtmdgmnaaopineaaLL
import Derived.Test.YtmdgmnaaopineaaPrj
import Derived.Test.YtmdgmnaaopineaaStpL
/- The sort of a row of numbers. -/
namespace Go.Proofs.Ytmdgmnaaopineaa
open Go.ChangeShapes Go.WideShapes Go.ChangeAt Go.RowKit
set_option linter.unusedVariables false
/-- What is still to be sorted, and that the whole is then. -/
structure Inv (a b : Nat) (d : Array Int) (a' b' : Nat) (dk : Array Int) : Prop where
  be : Sort.Below lti a' b' dk
  fin : ∀ R, Sort.PermIn a' b' dk R → Sort.SortedIn lti a' b' R → Sort.PermIn a b d R ∧ Sort.SortedIn lti a b R
theorem Inv.perm {a b a' b' : Nat} {d dk d1 : Array Int} (h : Inv a b d a' b' dk) (hb : b' ≤ dk.size) (hp : Sort.PermIn a' b' dk d1) : Inv a b d a' b' d1 :=
  ⟨h.be.perm hb hp, fun R h1 h2 => h.fin R (Sort.permIn_trans _ _ _ _ _ hp h1) h2⟩
set_option maxRecDepth 100000 in
set_option maxHeartbeats 16000000 in
theorem spdq_ind (n : Nat) (hsz : n < 65536) (blk off cap : Nat) : ∀ (m : Nat) (w : World) (d : Array Int) (a b limit : Nat), b - a ≤ m → Sort.Holds eu w blk off d → blk < w.heap.size → d.size = n → a ≤ b → b ≤ n → limit ≤ 64 → Sort.Below lti a b d →
    Calls Try.prog 143 #[.slice (some ⟨blk, off, none⟩) n cap, .int .i64 a, .int .i64 b, .int .i64 limit] w (SortsIn w blk off a b d) := by
  intro m
  induction m using Nat.strongRecOn with
  | _ m ih => ?_
  intro w d a b limit hm hH hl hn hab hb hlim hbel
  have IH : Hid (∀ (w : World) (d : Array Int) (a' b' limit : Nat), b' - a' < b - a → Sort.Holds eu w blk off d → blk < w.heap.size → d.size = n → a' ≤ b' → b' ≤ n → limit ≤ 64 → Sort.Below lti a' b' d →
    Calls Try.prog 143 #[.slice (some ⟨blk, off, none⟩) n cap, .int .i64 a', .int .i64 b', .int .i64 limit] w (SortsIn w blk off a' b' d)) :=
    fun w d a' b' limit hlt => ih (b' - a') (Nat.lt_of_lt_of_le hlt hm) w d a' b' limit (Nat.le_refl _)
  have HS := Lib.hid (SW.refl hH hl)
  have HN := Lib.hid hn
  have HINV : Hid (Inv a b d a b d) := ⟨hbel, fun R h1 h2 => ⟨h1, h2⟩⟩
  clear ih hm hH hl hn hbel
  go_enter Try.func143, Try.ntmps143
  go_wp2_with fail
  go_loopw [1, 2, 3, 8, 9] (fun va vb vl vwb vwp wr => ∃ (a' b' l : Nat) (wb wp : Bool) (dk : Array Int), a ≤ a' ∧ a' ≤ b' ∧ b' ≤ b ∧ l ≤ 64 ∧ va = .int .i64 a' ∧ vb = .int .i64 b' ∧ vl = .int .i64 l ∧ vwb = .bool wb ∧ vwp = .bool wp ∧ Hid (SW w wr blk off d dk) ∧ Hid (Inv a b d a' b' dk)) (fun va vb _ _ _ _ => (intOf vb - intOf va).toNat)
  case atStart => exact ⟨a, b, limit, true, true, d, Nat.le_refl _, hab, Nat.le_refl _, hlim, rfl, rfl, rfl, rfl, rfl, HS, HINV⟩
  case round =>
    obtain ⟨a', b', l, wb, wp, dk, ha1, hab', hb1, hl64, rfl, rfl, rfl, rfl, rfl, hsw, hinv⟩ := hrel
    have hb'n : b' ≤ n := Nat.le_trans hb1 hb
    have HDK : Hid (dk.size = n) := hsw.out.sz.trans HN.out
    obtain ⟨L, hL⟩ : ∃ L, L = b' - a' := ⟨_, rfl⟩
    have y0 : (b' : Int) - (a' : Int) = (L : Int) := by omega
    have HL := Lib.hid hL
    by_cases h12 : L ≤ 12
    case pos =>
      have hd : decide ((L : Int) ≤ 12) = true := by simp; omega
      have hi := sins_any (cap := cap) hsw.out.holds hsw.out.lt' hab' (by rw [HDK.out]; exact hb'n) (by rw [HDK.out]; omega)
      rw [HDK.out] at hi
      have HI := Lib.hid hi
      clear hi hL
      go_wp2_with fail
      refine HI.out.mono ?_; rintro e w1 ⟨d1, rfl, h1, h2, h3⟩
      have H1 := Lib.hid (hsw.out.trans h1)
      have H2 := Lib.hid (hinv.out.fin d1 h2 h3)
      clear h1 h2 h3
      go_wp2_with fail
      go_end0
      exact ⟨d1, rfl, H1.out, H2.out.1, H2.out.2⟩
    case neg =>
      have hd : decide ((L : Int) ≤ 12) = false := by simp; omega
      have hL13 : 13 ≤ L := by omega
      have hab13 : a' + 13 ≤ b' := by omega
      have hab1 : a' < b' := by omega
      clear hL
      by_cases hl0 : l = 0
      case pos =>
        have hdl : ((l : Int) == 0) = true := by simp; omega
        have hi := sheap_any (cap := cap) hsw.out.holds hsw.out.lt' HDK.out hab1 hb'n (by omega)
        have HI := Lib.hid hi
        clear hi hl0
        go_wp2_with fail
        refine HI.out.mono ?_; rintro e w1 ⟨d1, rfl, h1, h2, h3⟩
        have H1 := Lib.hid (hsw.out.trans h1)
        have H2 := Lib.hid (hinv.out.fin d1 h2 h3)
        clear h1 h2 h3
        go_wp2_with fail
        go_end0
        exact ⟨d1, rfl, H1.out, H2.out.1, H2.out.2⟩
      case neg =>
        have hdl : ((l : Int) == 0) = false := by simp; omega
        have hl1 : 1 ≤ l := by omega
        clear hl0
        go_upto_if 35 with (fail)
        go_cut [3] from 19 to 133 (fun s3 wx => ∃ (l' : Nat) (d1 : Array Int), s3 = .int .i64 (l' : Int) ∧ l' ≤ 64 ∧ Hid (SW w wx blk off d d1) ∧ Hid (Inv a b d a' b' d1))
        case first =>
          cases wb
          case true =>
            go_wp2_with fail
            go_meet
            exact ⟨l, dk, rfl, hl64, hsw, hinv⟩
          case false =>
            have hi := sbreak_any (cap := cap) hsw.out.holds hsw.out.lt' HDK.out hab13 hb'n hsz
            have HI := Lib.hid hi
            obtain ⟨l', hl'⟩ : ∃ l', l' = l - 1 := ⟨_, rfl⟩
            have y1 : (l : Int) - 1 = (l' : Int) := by clear y0; omega
            have hl'64 : l' ≤ 64 := by clear y0 y1; omega
            clear hi hl'
            go_wp2_with fail
            refine HI.out.mono ?_; rintro e w1 ⟨d1, rfl, h1, h2⟩
            have H1 := Lib.hid (hsw.out.trans h1)
            have H2 := Lib.hid (hinv.out.perm (by rw [HDK.out]; exact hb'n) h2)
            clear h1 h2
            go_wp2_with fail
            go_meet
            exact ⟨l', d1, rfl, hl'64, H1, H2⟩
        case rest =>
          obtain ⟨l', d1, rfl, hl'64, hs1, hv1⟩ := hcut
          have HD1 : Hid (d1.size = n) := hs1.out.sz.trans HN.out
          have hr1 := rw_holds hs1.out.holds
          rw [HD1.out] at hr1
          have hp := pivot_any (cap := cap) (a := a') (b := b') hr1 hs1.out.lt' (by omega) hab13 hb'n
          have HP := Lib.hid hp
          clear hr1 hp
          go_wp2_with fail
          refine HP.out.mono ?_; rintro e w1 ⟨u, h, rfl, hu1, hu2, hbw⟩
          have HS1 := Lib.hid (hs1.out.below hbw)
          clear hbw
          go_upto_if 50 with (fail)
          go_cut [11, 12] from 19 to 133 (fun s11 s12 wx => ∃ (v : Nat) (h' : Int) (d2 : Array Int), s11 = .int .i64 (v : Int) ∧ s12 = .int .i64 h' ∧ a' ≤ v ∧ v < b' ∧ Hid (SW w wx blk off d d2) ∧ Hid (Inv a b d a' b' d2))
          case first =>
            by_cases hh : h = 2
            case pos =>
              subst hh
              have hi := srev_any (cap := cap) HS1.out.holds HS1.out.lt' HD1.out hab1 hb'n (by omega)
              have HI := Lib.hid hi
              obtain ⟨c, hc⟩ : ∃ c, c = b' - 1 := ⟨_, rfl⟩
              obtain ⟨f, hf⟩ : ∃ f, f = u - a' := ⟨_, rfl⟩
              obtain ⟨v, hv⟩ : ∃ v, v = c - f := ⟨_, rfl⟩
              have y1 : (b' : Int) - 1 = (c : Int) := by clear y0; omega
              have y2 : (u : Int) - (a' : Int) = (f : Int) := by clear y0; omega
              have y3 : (c : Int) - (f : Int) = (v : Int) := by clear y0 y1 y2; omega
              have hv1' : a' ≤ v ∧ v < b' := by clear y0 y1 y2 y3; omega
              clear hi hc hf hv
              go_wp2_with fail
              refine HI.out.mono ?_; rintro e w2 ⟨d2, rfl, h1, h2⟩
              have H1 := Lib.hid (HS1.out.trans h1)
              have H2 := Lib.hid (hv1.out.perm (by rw [HD1.out]; exact hb'n) h2)
              clear h1 h2
              go_wp2_with fail
              go_meet
              exact ⟨v, 1, d2, rfl, rfl, hv1'.1, hv1'.2, H1, H2⟩
            case neg =>
              have hdh : (h == 2) = false := by simpa using hh
              clear hh
              go_wp2_with fail
              go_meet
              exact ⟨u, h, d1, rfl, rfl, hu1, hu2, HS1, hv1⟩
          case rest =>
            obtain ⟨v, h', d2, rfl, rfl, hva, hvb, hs2, hv2⟩ := hcut
            have HD2 : Hid (d2.size = n) := hs2.out.sz.trans HN.out
            go_upto_region 15 with (fail)
            go_cut [68] from 19 to 133 (fun s68 wx => ∃ (q : Bool), s68 = .bool q ∧ Hid (SW w wx blk off d d2))
            case first =>
              cases wb <;> cases wp <;> by_cases hh : h' = 1
              all_goals (first | (have hdh : (h' == 1) = true := by simpa using hh) | (have hdh : (h' == 1) = false := by simpa using hh))
              all_goals clear hh
              all_goals go_wp2_with fail
              all_goals go_meet
              all_goals exact ⟨_, rfl, hs2⟩
            case rest =>
              obtain ⟨q, rfl, hs2'⟩ := hcut
              go_upto_if 68 with (fail)
              go_cut [] from 19 to 133 (fun wx => ∃ (d3 : Array Int), Hid (SW w wx blk off d d3) ∧ Hid (Inv a b d a' b' d3))
              case first =>
                cases q
                case false =>
                  go_wp2_with fail
                  go_meet
                  exact ⟨d2, hs2', hv2⟩
                case true =>
                  have hi := spins_any (cap := cap) hs2'.out.holds hs2'.out.lt' HD2.out hab13 hb'n hsz hv2.out.be
                  have HI := Lib.hid hi
                  clear hi
                  go_wp2_with fail
                  refine HI.out.mono ?_; rintro e w2 ⟨d3, q, rfl, h1, h2, h3⟩
                  have H1 := Lib.hid (hs2'.out.trans h1)
                  have H2 := Lib.hid h2
                  have H3 := Lib.hid h3
                  clear h1 h2 h3
                  cases q
                  case false =>
                    have H4 := Lib.hid (hv2.out.perm (by rw [HD2.out]; exact hb'n) H2.out)
                    go_wp2_with fail
                    go_meet
                    exact ⟨d3, H1, H4⟩
                  case true =>
                    have H4 := Lib.hid (hv2.out.fin d3 H2.out (H3.out rfl))
                    go_wp2_with fail
                    go_end0
                    exact ⟨d3, rfl, H1.out, H4.out.1, H4.out.2⟩
              case rest =>
                obtain ⟨d3, hs3, hv3⟩ := hcut
                have HD3 : Hid (d3.size = n) := hs3.out.sz.trans HN.out
                go_upto_region 17 with (fail)
                go_cut [87] from 19 to 133 (fun s87 wx => ∃ (q : Bool), s87 = .bool q ∧ Hid (q = true → 0 < a' ∧ lti d3[a' - 1]! d3[v]! = false) ∧ Hid (SW w wx blk off d d3))
                case first =>
                  by_cases ha0 : 0 < a'
                  case neg =>
                    have hda : decide ((0 : Int) < (a' : Int)) = false := by simp; omega
                    go_quiet (fail)
                    go_wp2_with fail
                    go_meet
                    exact ⟨false, rfl, (fun h => by cases h), hs3.out.same rfl rfl rfl rfl⟩
                  case pos =>
                    have hda : decide ((0 : Int) < (a' : Int)) = true := by simp; omega
                    obtain ⟨k, hk⟩ : ∃ k, k = a' - 1 := ⟨_, rfl⟩
                    have y1 : IntKind.i64.wrap ((a' : Int) - 1) = (k : Int) := by clear y0; rw [IntWalk.i64_in _ (by omega)]; omega
                    have hd3n := HD3.out
                    have hkn : k < n := by clear y0 y1; omega
                    have hvn : v < n := by clear y0 y1; omega
                    obtain ⟨X, hX⟩ : ∃ X, X = d3[k]! := ⟨_, rfl⟩
                    obtain ⟨Y, hY⟩ : ∃ X, X = d3[v]! := ⟨_, rfl⟩
                    have c1 := hs3.out.cell (t := k) (by clear y0 y1; omega)
                    have c2 := hs3.out.cell (t := v) (by clear y0 y1; omega)
                    rw [← hX] at c1
                    rw [← hY] at c2
                    have HX := Lib.hid hX
                    have HY := Lib.hid hY
                    have HK := Lib.hid hk
                    clear hX hY hk hd3n
                    cases hless : lti X Y
                    case true =>
                      have HLS : Hid (∀ w, Calls Try.prog 154 #[.int .u64 X, .int .u64 Y] w fun e w' => e = .returned (.bool true) ∧ w' = w) := fun w => less_is hless w
                      clear hless
                      go_quiet ((go_at_call 154; exact Calls.quiet_of_same (HLS.out _)))
                      go_wp2_with fail
                      go_meet
                      exact ⟨false, rfl, (fun h => by cases h), hs3.out.same rfl rfl rfl rfl⟩
                    case false =>
                      have HLS : Hid (∀ w, Calls Try.prog 154 #[.int .u64 X, .int .u64 Y] w fun e w' => e = .returned (.bool false) ∧ w' = w) := fun w => less_is hless w
                      have HQ : Hid (0 < a' ∧ lti d3[a' - 1]! d3[v]! = false) := ⟨ha0, by rw [← HK.out, ← HX.out, ← HY.out]; exact hless⟩
                      clear hless
                      go_quiet ((go_at_call 154; exact Calls.quiet_of_same (HLS.out _)))
                      go_wp2_with fail
                      go_meet
                      exact ⟨true, rfl, (fun _ => HQ.out), hs3.out.same rfl rfl rfl rfl⟩
                case rest =>
                  obtain ⟨q, rfl, hq, hs3'⟩ := hcut
                  cases q
                  case true =>
                    obtain ⟨ha0, hless⟩ := hq.out rfl
                    rcases hx : Sort.partitionEqual lti d3 a' b' v with ⟨mid, d4⟩
                    obtain ⟨r1, r2, r3, r4, r5⟩ := Sort.round_eq Sort.swo_ltInt (Sort.partitionEqual_holds lti) ha0 hva hvb (by rw [HD3.out]; exact hb'n) hv3.out.be hless hx
                    have hi := spareq_any (cap := cap) hs3'.out.holds hs3'.out.lt' HD3.out hva hvb hb'n hsz
                    unfold ParEq at hi
                    rw [hx] at hi
                    have HI := Lib.hid hi
                    have HV : Hid (Inv a b d mid b' d4) := ⟨r4, fun R h1 h2 => by
                      have h3 := r5 R h1 h2
                      exact hv3.out.fin R h3.1 h3.2⟩
                    clear hi hx r3 r4 r5 hless
                    go_wp2_with fail
                    refine HI.out.mono ?_; rintro e w2 ⟨rfl, h1⟩
                    have H1 := Lib.hid (hs3'.out.trans h1)
                    clear h1
                    go_wp2_with fail
                    go_roundw
                    case rel => exact ⟨mid, b', l', wb, wp, d4, by clear y0; omega, r2, hb1, hl'64, rfl, rfl, rfl, rfl, rfl, H1, HV⟩
                    case measure => clear y0; simp [intOf]; omega
                  case false =>
                    clear hq
                    rcases hx : Sort.partition lti d3 a' b' v with ⟨mid, ap, d4⟩
                    obtain ⟨r1, r2, r3, r4, r5, r6, r7⟩ := Sort.round_part Sort.swo_ltInt (Sort.partition_holds lti) hva hvb (by rw [HD3.out]; exact hb'n) hv3.out.be hx
                    have hi := spart_any (cap := cap) hs3'.out.holds hs3'.out.lt' HD3.out hva hvb hb'n hsz
                    unfold ParT at hi
                    rw [hx] at hi
                    have HI := Lib.hid hi
                    have HD4 : Hid (d4.size = n) := r3.trans HD3.out
                    obtain ⟨A, hA⟩ : ∃ A, A = mid - a' := ⟨_, rfl⟩
                    obtain ⟨B, hB⟩ : ∃ B, B = b' - mid := ⟨_, rfl⟩
                    obtain ⟨E, hE⟩ : ∃ E, E = L / 8 := ⟨_, rfl⟩
                    have y1 : (mid : Int) - (a' : Int) = (A : Int) := by clear y0; omega
                    have y2 : (b' : Int) - (mid : Int) = (B : Int) := by clear y0 y1; omega
                    have y3 : (L : Int) / 8 = (E : Int) := by clear y0 y1 y2; omega
                    have HR4 := Lib.hid r4
                    have HR5 := Lib.hid r5
                    have HR6 := Lib.hid r6
                    have HR7 := Lib.hid r7
                    have hHA := Lib.hid hA
                    have hHB := Lib.hid hB
                    have hAn : A ≤ n := by clear y0 y1 y2 y3; omega
                    have hBn : B ≤ n := by clear y0 y1 y2 y3; omega
                    have hmidn : mid < n := by clear y0 y1 y2 y3; omega
                    clear hi hx r3 r4 r5 r6 r7 hA hB hE
                    by_cases hAB : A < B
                    case pos =>
                      have hdAB : decide (A < B) = true := by simpa using hAB
                      go_wp2_with fail
                      refine HI.out.mono ?_; rintro e w2 ⟨rfl, h1⟩
                      have H1 := Lib.hid (hs3'.out.trans h1)
                      clear h1
                      go_wp2_with fail
                      have hrec := IH.out w2 d4 a' mid l' (by clear y0 y1 y2 y3; omega) H1.out.holds H1.out.lt' HD4.out r1 (by clear y0 y1 y2 y3; omega) hl'64 HR4.out
                      refine hrec.mono ?_; rintro e w3 ⟨d5, rfl, h1, h2, h3⟩
                      have H2 := Lib.hid (H1.out.trans h1)
                      have h4 := HR6.out d5 h2 h3
                      have HV : Hid (Inv a b d (mid + 1) b' d5) := ⟨h4.1, fun R e1 e2 => by
                        have e3 := h4.2 R e1 e2
                        exact hv3.out.fin R e3.1 e3.2⟩
                      clear h1 h2 h3 h4 hrec
                      go_wp2_with fail
                      go_roundw
                      case rel => exact ⟨mid + 1, b', l', _, _, d5, by clear y0 y1 y2 y3; omega, by clear y0 y1 y2 y3; omega, hb1, hl'64, by go_num, rfl, rfl, rfl, rfl, H2, HV⟩
                      case measure => clear y0 y1 y2 y3; simp [intOf]; omega
                    case neg =>
                      have hdAB : decide (A < B) = false := by simpa using hAB
                      obtain ⟨M1, hM1⟩ : ∃ M1, M1 = mid + 1 := ⟨_, rfl⟩
                      have y4 : (mid : Int) + 1 = (M1 : Int) := by clear y0 y1 y2 y3; omega
                      rw [← hM1] at HR5 HR7
                      have HM1 := Lib.hid hM1
                      have hM1b : M1 ≤ b' := by clear y0 y1 y2 y3 y4; omega
                      have hM1a : b' - M1 < b - a := by clear y0 y1 y2 y3 y4; omega
                      clear hM1
                      go_wp2_with fail
                      refine HI.out.mono ?_; rintro e w2 ⟨rfl, h1⟩
                      have H1 := Lib.hid (hs3'.out.trans h1)
                      clear h1
                      go_wp2_with fail
                      have hrec := IH.out w2 d4 M1 b' l' hM1a H1.out.holds H1.out.lt' HD4.out hM1b hb'n hl'64 HR5.out
                      refine hrec.mono ?_; rintro e w3 ⟨d5, rfl, h1, h2, h3⟩
                      have H2 := Lib.hid (H1.out.trans h1)
                      have h4 := HR7.out d5 h2 h3
                      have HV : Hid (Inv a b d a' mid d5) := ⟨h4.1, fun R e1 e2 => by
                        have e3 := h4.2 R e1 e2
                        exact hv3.out.fin R e3.1 e3.2⟩
                      clear h1 h2 h3 h4 hrec
                      go_wp2_with fail
                      go_roundw
                      case rel => exact ⟨a', mid, l', _, _, d5, ha1, r1, by clear y0 y1 y2 y3 y4; omega, hl'64, rfl, rfl, rfl, rfl, rfl, H2, HV⟩
                      case measure => clear y0 y1 y2 y3 y4; simp [intOf]; omega
end Go.Proofs.Ytmdgmnaaopineaa
/- slices.Sort at numbers, of a row of one's own, or of no row. -/
namespace Go.Proofs.Ytmdgmnaaopineaa
open Go.ChangeShapes Go.WideShapes Go.ChangeAt Go.RowKit
set_option linter.unusedVariables false
def Idle (w : World) (e : Ending) (w' : World) : Prop := e = .returned (.tuple #[]) ∧ w = w'
theorem sins_nil (A : Option Addr) (c : Nat) (w : World) : Calls Try.prog 148 #[.slice A 0 c, .int .i64 0, .int .i64 0] w fun e w' => e = .returned (.tuple #[]) ∧ w = w' := by
  go_enter Try.func148, Try.ntmps148
  go_wp2_with fail
  go_loopw [6] (fun vi wr => vi = .int .i64 1 ∧ w = wr) (fun _ _ => 0)
  case atStart => exact ⟨by go_num, rfl⟩
  case round =>
    obtain ⟨rfl, rfl⟩ := hrel
    go_wp2_with fail
    go_end0
    exact ⟨rfl, rfl⟩
set_option maxRecDepth 100000 in
theorem spdq_nil (A : Option Addr) (c k : Nat) (w : World) : Calls Try.prog 143 #[.slice A 0 c, .int .i64 0, .int .i64 0, .int .i64 k] w (Idle w) := by
  go_enter Try.func143, Try.ntmps143
  go_wp2_with fail
  go_loopw [1, 2, 3, 8, 9] (fun va vb vl vwb vwp wr => va = .int .i64 0 ∧ vb = .int .i64 0 ∧ w = wr) (fun _ _ _ _ _ _ => 0)
  case atStart => exact ⟨rfl, rfl, rfl⟩
  case round =>
    obtain ⟨rfl, rfl, rfl⟩ := hrel
    go_wp2_with fail
    refine (sins_nil A c _).mono ?_; rintro e w1 ⟨rfl, rfl⟩
    go_wp2_with fail
    go_end0
    exact ⟨rfl, rfl⟩
theorem ssort_nil (A : Option Addr) (c : Nat) (w : World) : Calls Try.prog 118 #[.slice A 0 c] w fun e w' => e = .returned (.tuple #[]) ∧ w = w' := by
  go_enter Try.func118, Try.ntmps118
  go_wp2_with fail
  refine (len_any 0 _ (by decide)).mono ?_; rintro e w1 ⟨rfl, rfl⟩
  go_wp2_with fail
  refine (spdq_nil A c _ _).mono ?_; rintro e w1 ⟨rfl, rfl⟩
  go_wp2_with fail
  go_end0
  exact ⟨rfl, rfl⟩
theorem ssort_any {blk off c n : Nat} {d : Array Int} {w : World} (hH : Sort.Holds eu w blk off d) (hl : blk < w.heap.size) (hn : d.size = n) (hsz : n < 65536) :
    Calls Try.prog 118 #[.slice (some ⟨blk, off, none⟩) n c] w (SortsIn w blk off 0 n d) := by
  have hp := fun k hk => spdq_ind n hsz blk off c n w d 0 n k (by omega) hH hl hn (Nat.zero_le _) (Nat.le_refl _) hk (Or.inl rfl)
  have HP := Lib.hid hp
  have hle : Lib.bitLen n ≤ 64 := Nat.le_trans (Lib.bitLen_le n 16 (by decide) (by omega)) (by decide)
  have HLE := Lib.hid hle
  obtain ⟨k, hk⟩ : ∃ k, k = Lib.bitLen n := ⟨_, rfl⟩
  have hlen : ∀ w, Calls Try.prog 144 #[.int .u64 n] w fun e w' => e = .returned (.int .i64 (k : Int)) ∧ w' = w := fun w => by rw [hk]; exact len_any n w hsz
  rw [← hk] at HLE
  have HL := Lib.hid hlen
  have hnn : (n : Int) < 65536 := by omega
  clear hp hle hlen hk hH hl hn
  go_enter Try.func118, Try.ntmps118
  go_wp2_with fail
  refine (HL.out _).mono ?_; rintro e w1 ⟨rfl, rfl⟩
  go_wp2_with fail
  refine (HP.out k HLE.out).mono ?_; rintro e w1 ⟨d', rfl, h1, h2, h3⟩
  have H1 := Lib.hid h1
  have H2 := Lib.hid h2
  have H3 := Lib.hid h3
  clear h1 h2 h3
  go_wp2_with fail
  go_end0
  exact ⟨d', rfl, H1.out, H2.out, H3.out⟩
/-- The numbers of a list, as the sort has them. -/
def arrOf (l : List Nat) : Array Int := (l.map (fun (x : Nat) => (x : Int))).toArray
theorem arr_size (l : List Nat) : (arrOf l).size = l.length := by simp [arrOf]
theorem arr_at {l : List Nat} {i x : Nat} (h : l[i]? = some x) : (arrOf l)[i]! = (x : Int) := by
  have hi := (List.getElem?_eq_some_iff.1 h).1
  rw [getElem!_pos _ i (by rw [arr_size]; exact hi)]
  simp only [arrOf, List.getElem_toArray, List.getElem_map]
  rw [(List.getElem?_eq_some_iff.1 h).2]
theorem arr_toList (l : List Nat) : (arrOf l).toList = l.map (fun (x : Nat) => (x : Int)) := by simp [arrOf]
/-- A sorted permutation is the list that comes of sorting. -/
theorem sorted_list {l : List Nat} {d' : Array Int} (hp : Sort.PermIn 0 l.length (arrOf l) d') (hs : Sort.SortedIn lti 0 l.length d') :
    ∃ l' : List Nat, d' = arrOf l' ∧ l'.Perm l ∧ l'.Pairwise (· ≤ ·) := by
  have hsz : d'.size = l.length := by rw [hp.1, arr_size]
  have hperm : d'.toList.Perm (l.map (fun (x : Nat) => (x : Int))) := by
    have h := hp.2.2
    rw [Array.extract_eq_self_of_le (by rw [hsz]; exact Nat.le_refl _), Array.extract_eq_self_of_le (by rw [arr_size]; exact Nat.le_refl _), arr_toList] at h
    exact h
  have hnat : ∀ y ∈ d'.toList, ∃ x : Nat, y = (x : Int) := fun y hy => by
    obtain ⟨x, _, rfl⟩ := List.mem_map.1 (hperm.mem_iff.1 hy)
    exact ⟨x, rfl⟩
  have hback : d'.toList = (d'.toList.map Int.toNat).map (fun (x : Nat) => (x : Int)) := by
    rw [List.map_map]
    have e : d'.toList.map ((fun (x : Nat) => (x : Int)) ∘ Int.toNat) = d'.toList.map id := List.map_congr_left (fun y hy => by
      obtain ⟨x, rfl⟩ := hnat y hy
      simp)
    rw [e, List.map_id]
  refine ⟨d'.toList.map Int.toNat, ?_, ?_, ?_⟩
  · unfold arrOf
    rw [← hback]
  · have h := hperm.map Int.toNat
    rw [List.map_map] at h
    have e : l.map (Int.toNat ∘ fun (x : Nat) => (x : Int)) = l := by
      conv => rhs; rw [← List.map_id l]
      exact List.map_congr_left fun x _ => by simp
    rw [e] at h
    exact h
  · rw [List.pairwise_map, List.pairwise_iff_getElem]
    intro i j hi hj hij
    have h := hs i j (Nat.zero_le _) hij (by rw [← hsz]; simpa using hj)
    rw [getElem!_pos _ j (by simpa using hj), getElem!_pos _ i (by simpa using hi)] at h
    have h' : ¬ d'[j] < d'[i] := by simpa [Sort.ltInt] using h
    simp only [Array.getElem_toList]
    omega
section
variable {w w' : World} {base n c : Nat} {A : Option Addr} {l : List Nat}
theorem uv_holds {g : Nat} {cur : Array Value} {e : TypeId} (hb : Blk w g e cur) (ht : cur.toList.take l.length = l.map uv) : Sort.Holds eu w g 0 (arrOf l) := fun t htt => by
  rw [arr_size] at htt
  refine ⟨?_, by rw [Nat.zero_add]; exact hb.frozen t⟩
  rw [Nat.zero_add, hb.cell]
  have h1 : (l.map uv)[t]? = some (uv l[t]) := by rw [List.getElem?_map, List.getElem?_eq_getElem htt]; rfl
  rw [← ht, List.getElem?_take, if_pos htt] at h1
  have h2 : cur[t]? = some (uv l[t]) := by simpa using h1
  rw [h2, arr_at (List.getElem?_eq_getElem htt)]
  rfl
/-- What a sort makes of a row of one's own. -/
theorem SW.own {g : Nat} {l' : List Nat} {e : TypeId} (h : SW w w' g 0 (arrOf l) (arrOf l')) (ho : w.ownsRow base e 1 (.slice (some ⟨g, 0, none⟩) n c) n (l.map uv)) : w'.ownsRow base e 1 (.slice (some ⟨g, 0, none⟩) n c) n (l'.map uv) := by
  have hsz : l'.length = l.length := by have := h.sz; rwa [arr_size, arr_size] at this
  have hn : l.length = n := by have := ho.1; simpa using this
  refine ⟨by have := ho.1; simpa [hsz] using this, ?_⟩
  rcases ho.2 with ⟨hv, h0⟩ | ⟨q, cap, cur, hv, hq, hh, hnc, hcm, hcs, htake⟩
  · injection hv with h1; cases h1
  · injection hv with h1 _ h3
    injection h1 with h1
    injection h1 with h1
    subst h1; subst h3
    rw [Nat.mul_one] at htake hcs
    have hrow := h.row
    refine .inr ⟨g, c, Sort.putCells eu 0 (arrOf l') cur, rfl, hq, ?_, hnc, hcm, by simpa [Sort.putCells] using hcs, ?_⟩
    · rw [hrow]
      unfold Sort.putRow Sort.mapBlock
      simp only [Array.getElem?_modify, if_true, hh]
      rfl
    · apply List.ext_getElem?
      intro i
      rw [Nat.mul_one, List.getElem?_take]
      by_cases hi : i < n
      · rw [if_pos hi, List.getElem?_map, List.getElem?_eq_getElem (show i < l'.length by omega)]
        have hcl : i < cur.size := by
          have h2 := congrArg List.length htake
          simp only [List.length_take, List.length_map, Array.length_toList] at h2
          omega
        simp only [Sort.putCells, Array.getElem?_toList, Array.getElem?_mapIdx, Array.getElem?_eq_getElem hcl, Option.map_some]
        rw [if_pos ⟨Nat.zero_le _, by rw [arr_size]; omega⟩, Nat.sub_zero, arr_at (List.getElem?_eq_getElem (show i < l'.length by omega))]
        rfl
      · rw [if_neg hi, List.getElem?_map, List.getElem?_eq_none (show l'.length ≤ i by omega)]
        rfl
/-- What slices.Sort ends in. -/
def Sorted (w : World) (base : Nat) (A : Option Addr) (n c : Nat) (l : List Nat) (e : Ending) (w' : World) : Prop :=
  ∃ l' : List Nat, e = .returned (.tuple #[]) ∧ l'.Perm l ∧ l'.Pairwise (· ≤ ·) ∧ w'.ownsRow base 22 1 (.slice A n c) n (l'.map uv) ∧ Chg (fun k => some k = (Value.slice A n c).ownBlock) w w'
theorem sort_own (h : w.ownsRow base 22 1 (.slice A n c) n (l.map uv)) (hn : n < 65536) : Calls Try.prog 118 #[.slice A n c] w (Sorted w base A n c l) := by
  have hlen : l.length = n := by have := h.1; simpa using this
  rcases Nat.eq_zero_or_pos n with h0 | h0
  · subst h0
    obtain rfl := List.eq_nil_of_length_eq_zero hlen
    exact (ssort_nil A c w).mono fun e w' ⟨he, hw⟩ => ⟨[], he, List.Perm.refl _, List.Pairwise.nil, hw ▸ h, hw ▸ Chg.refl _ _⟩
  · rcases h.2 with ⟨_, hx⟩ | ⟨q, cap, cur, hv, hq, hh, hnc, hcm, hcs, htake⟩
    · omega
    · injection hv with h1 _ h3
      subst h1; subst h3
      rw [Nat.mul_one] at htake
      have hb : Blk w q 22 cur := hh
      have hH := uv_holds hb (by rw [hlen]; exact htake)
      refine (ssort_any hH hb.lt (by rw [arr_size]; exact hlen) hn).mono ?_
      rintro e w' ⟨d', rfl, h1, h2, h3⟩
      rw [← hlen] at h2 h3
      obtain ⟨l', rfl, hp, hs⟩ := sorted_list h2 h3
      exact ⟨l', rfl, hp, hs, h1.own h, h1.ch.more fun k _ hk => by rw [show k = q from hk]; rfl⟩
end
end Go.Proofs.Ytmdgmnaaopineaa
/- stripe.Nodes, stripe.Set. -/
namespace Go.Proofs.Ytmdgmnaaopineaa
open Go.ChangeShapes Go.WideShapes Go.ChangeAt Go.RowKit
set_option linter.unusedVariables false
/-- All nodes of a good stripe, rising. -/
def AllIs (sets : List (List Nat)) (w : World) (e : Ending) (w' : World) : Prop :=
  ∃ (A : Option Addr) (c : Nat) (r : List Nat), e = .returned (.slice A r.length c) ∧ w'.ownsRow w.heap.size 22 1 (.slice A r.length c) r.length (r.map uv) ∧ r.Perm sets.flatten ∧ Rises r ∧ Below w.heap.size w w'
section
variable {D : Dom} {A : Option Addr} {n c f t : Nat} {sets : List (List Nat)} {w : World}
set_option maxRecDepth 100000 in
set_option maxHeartbeats 1000000 in
theorem stnodes_any (hs : (rpSlice rpU64).sl w D A n c sets) (hD : ∀ k, D k → k < w.heap.size) (hok : SOk (f, t, sets)) (hf : f ≤ 18446744073709551615) (ht : t ≤ 18446744073709551615) :
    Calls Try.prog 66 #[.agg (stpV f t A n c)] w (AllIs sets w) := by
  have hb0 := below1 w (.cells (stpV f t A n c) 31)
  have HS := Lib.hid (keepS (show Sl (rpSlice rpU64) w D A n c sets from ⟨hs, hD⟩) hb0)
  have hlen := (Rp.sl_len hs).1
  have hn : n ≤ 100 := by have h8 : sets.length ≤ 8 := hok.2.2.2.1; omega
  have h64 := sok_flat hok
  have hr := right_any (f := f) (t := t) HS.out.1 HS.out.2 hf ht
  rw [dec_true hok] at hr
  have HR := Lib.hid hr
  have HB := Lib.hid hb0
  have HK := Lib.hid (blk11 w 31 (stpV f t A n c))
  have HND := Lib.hid (sok_nodup hok)
  have H64 := Lib.hid h64
  clear hs hD hb0 hr hlen hok h64
  go_enter Try.func66, Try.ntmps66
  go_upto_region 1 with (fail)
  generalize World.alloc w _ = w0 at *
  have k0 := (show Blk w0 w.heap.size 31 _ from HK.out).cell 0
  have k1 := (show Blk w0 w.heap.size 31 _ from HK.out).cell 1
  have k2 := (show Blk w0 w.heap.size 31 _ from HK.out).cell 2
  go_wp2_with fail
  refine HR.out.mono ?_; rintro e w1 ⟨rfl, hb⟩
  have HS1 := Lib.hid (keepS HS.out hb)
  have HB1 := Lib.hid (stepB HB.out hb)
  have hk1 := keepB (show Blk w0 w.heap.size 31 _ from HK.out) hb
  clear k0 k1 k2 hb
  have k2 := hk1.cell 2
  clear hk1
  go_wp2_with fail
  refine (concat_any HS1.out.1 HS1.out.2 hn (Nat.le_trans H64.out (by omega))).mono ?_; rintro e w2 ⟨A2, c2, rfl, ho, hb⟩
  obtain ⟨m, hm⟩ : ∃ m, m = sets.flatten.length := ⟨_, rfl⟩
  have h64' := H64.out
  rw [← hm] at ho h64'
  rw [← hm]
  have HM := Lib.hid hm
  have HO := Lib.hid (own_down ho HB1.out.size)
  have HB2 := Lib.hid (stepB HB1.out hb)
  clear ho hb hm k2
  go_wp2_with fail
  refine (sort_own (l := sets.flatten) HO.out (by omega)).mono ?_; rintro e w3 ⟨r, rfl, hp, hsr, ho, hc⟩
  have HB3 := Lib.hid (HB2.out.trans (hc.below HB2.out.size (fun k hk => (HO.out.lt k hk.symm).1)))
  have HO3 := Lib.hid ho
  have HP := Lib.hid hp
  have HSR := Lib.hid hsr
  have HRL : Hid (r.length = m) := by show r.length = m; rw [HM.out]; exact hp.length_eq
  clear hp hsr ho hc
  go_wp2_with fail
  go_ret
  refine ⟨A2, c2, r, ?_, ?_, HP.out, rises_sorted HSR.out (HP.out.nodup_iff.2 HND.out), HB3.out⟩
  · rw [HRL.out]; rfl
  · rw [HRL.out]; exact HO3.out
theorem stset1_any {g x : Nat} {l : List Nat} (hl : rpU64.sl w D A n c l) (hg : w.cell? ⟨g, 0, none⟩ = some (.int .u64 (x : Int))) :
    Calls Try.prog 120 #[.slice A n c, .pointer (some ⟨g, 0, none⟩)] w fun e w' => e = .returned (.bool (dec (x ∈ l))) ∧ w = w' := by
  have HC := Lib.hid (contains_any x hl)
  clear hl
  go_enter Try.func120, Try.ntmps120
  go_wp2_with fail
  refine HC.out.mono ?_; rintro e w1 ⟨rfl, rfl⟩
  go_wp2_with fail
  go_ret
  exact ⟨rfl, rfl⟩
/-- The first set that has x, or -1. -/
def FindIs (sets : List (List Nat)) (x : Nat) (w : World) (e : Ending) (w' : World) : Prop :=
  ∃ r : Int, e = .returned (.int .i64 r) ∧ ((∃ k : Nat, r = k ∧ k < sets.length ∧ AtSet sets x sets.length k true) ∨ (r = -1 ∧ AtSet sets x sets.length 0 false)) ∧ w = w'
set_option maxRecDepth 100000 in
set_option maxHeartbeats 1000000 in
theorem stfind_any {g x : Nat} (hs : (rpSlice rpU64).sl w D A n c sets) (hn : n ≤ 100) (hg : w.cell? ⟨g, 0, none⟩ = some (.int .u64 (x : Int))) :
    Calls Try.prog 119 #[.slice A n c, .func (Fn.func 120) #[] #[.pointer (some ⟨g, 0, none⟩)]] w (FindIs sets x w) := by
  have HN := Lib.hid (Rp.sl_len hs).1
  have HS := Lib.hid hs
  have HG := Lib.hid hg
  clear hs hg
  go_enter Try.func119, Try.ntmps119
  go_wp2_with fail
  go_loopw [8] (fun vi wr => ∃ k : Nat, k ≤ n ∧ vi = .int .i64 k ∧ Hid (AtSet sets x k 0 false) ∧ wr = w) (fun vi _ => n - (intOf vi).toNat)
  case atStart => exact ⟨0, Nat.zero_le _, rfl, atSet_zero _ _, rfl⟩
  case round =>
    obtain ⟨k, hkn', rfl, hat, hw⟩ := hrel
    subst hw
    by_cases hkn : k < n
    case pos =>
      have hd : decide (k < n) = true := by simpa using hkn
      obtain ⟨b, off, l, A3, c3, rfl, hbD, hx, hcell, hrow⟩ := rows_at HS.out hkn
      have HC := Lib.hid (stset1_any hrow HG.out)
      have hkI : (0 : Int) ≤ (k : Int) := by omega
      have hkI2 : (k : Int) < (n : Int) := by omega
      have HX := Lib.hid hx
      clear hrow hx hbD
      go_wp2_with fail
      refine HC.out.mono ?_; rintro e w1 ⟨rfl, rfl⟩
      by_cases hm : x ∈ l
      · rw [dec_true hm]
        have HA := Lib.hid (atSet_yes HX.out hm)
        clear hm
        go_wp2_with fail
        go_ret
        refine ⟨(k : Int), rfl, .inl ⟨k, rfl, by rw [HN.out]; exact hkn, fun _ => ⟨by rw [HN.out]; exact hkn, (HA.out.1 rfl).2⟩, fun h => (by cases h)⟩, rfl⟩
      · rw [dec_false hm]
        have HA := Lib.hid (atSet_no hat.out HX.out hm)
        clear hm
        go_wp2_with fail
        go_roundw
        case rel => exact ⟨k + 1, hkn, by go_num, HA, trivial⟩
        case measure => simp [intOf]; omega
    case neg =>
      have hd : decide (k < n) = false := by simpa using hkn
      obtain rfl : k = n := by omega
      go_wp2_with fail
      go_ret
      exact ⟨-1, rfl, .inr ⟨rfl, by rw [HN.out]; exact hat.out⟩, rfl⟩
end
end Go.Proofs.Ytmdgmnaaopineaa
/- stripe.Set. -/
namespace Go.Proofs.Ytmdgmnaaopineaa
open Go.ChangeShapes Go.WideShapes Go.ChangeAt Go.RowKit
set_option linter.unusedVariables false
def SetIs (sets : List (List Nat)) (x : Nat) (w : World) (e : Ending) (w' : World) : Prop :=
  ∃ (k : Nat) (q : Bool), e = .returned (.tuple #[.int .i64 (k : Int), .bool q]) ∧ AtSet sets x sets.length k q ∧ Below w.heap.size w w'
section
variable {D : Dom} {A : Option Addr} {n c f t x : Nat} {sets : List (List Nat)} {w : World}
set_option maxRecDepth 100000 in
set_option maxHeartbeats 1000000 in
theorem stset_any (hs : (rpSlice rpU64).sl w D A n c sets) (hD : ∀ k, D k → k < w.heap.size) (hok : SOk (f, t, sets)) (hf : f ≤ 18446744073709551615) (ht : t ≤ 18446744073709551615) :
    Calls Try.prog 68 #[.agg (stpV f t A n c), .int .u64 (x : Int)] w (SetIs sets x w) := by
  have hb0 := below1 w (.cells (stpV f t A n c) 31)
  have hb00 := below1 (w.alloc (.cells (stpV f t A n c) 31)) (.cells #[.int .u64 (x : Int)] 22)
  have hz : (w.alloc (.cells (stpV f t A n c) 31)).heap.size = w.heap.size + 1 := by simp
  have HS := Lib.hid (keepS (keepS (show Sl (rpSlice rpU64) w D A n c sets from ⟨hs, hD⟩) hb0) hb00)
  have hlen := (Rp.sl_len hs).1
  have hn : n ≤ 100 := by have h8 : sets.length ≤ 8 := hok.2.2.2.1; omega
  have hr := right_any (f := f) (t := t) HS.out.1 HS.out.2 hf ht
  rw [dec_true hok] at hr
  have HR := Lib.hid hr
  have HB := Lib.hid (stepB hb0 hb00)
  have HK := Lib.hid (keepB (blk11 w 31 (stpV f t A n c)) hb00)
  have hx := blk11 (w.alloc (.cells (stpV f t A n c) 31)) 22 #[.int .u64 (x : Int)]
  rw [hz] at hx
  have HX := Lib.hid hx
  have HN := Lib.hid hlen
  clear hs hD hb0 hr hlen hok hb00 hz hx
  go_enter Try.func68, Try.ntmps68
  go_upto_region 1 with (fail)
  generalize World.alloc (World.alloc w _) _ = w0 at *
  have k0 := (show Blk w0 w.heap.size 31 _ from HK.out).cell 0
  have k1 := (show Blk w0 w.heap.size 31 _ from HK.out).cell 1
  have k2 := (show Blk w0 w.heap.size 31 _ from HK.out).cell 2
  go_wp2_with fail
  refine HR.out.mono ?_; rintro e w1 ⟨rfl, hb⟩
  have HS1 := Lib.hid (keepS HS.out hb)
  have HB1 := Lib.hid (stepB HB.out hb)
  have hk1 := keepB (show Blk w0 w.heap.size 31 _ from HK.out) hb
  have HX1 := Lib.hid ((keepB (show Blk w0 (w.heap.size + 1) 22 _ from HX.out) hb).cell 0)
  clear k0 k1 k2 hb
  have k2 := hk1.cell 2
  clear hk1
  go_wp2_with fail
  refine (stfind_any (x := x) HS1.out.1 hn HX1.out).mono ?_; rintro e w2 ⟨r, rfl, hr, rfl⟩
  rcases hr with ⟨k, rfl, hk, hat⟩ | ⟨rfl, hat⟩
  · have HAT := Lib.hid hat
    have h1 : ¬ ((k : Int) < 0) := by omega
    have h2 : decide ((k : Int) < 0) = false := by simp
    have h3 : decide ((0 : Int) ≤ (k : Int)) = true := by simp
    clear hat hk
    go_wp2_with fail
    go_ret2
    exact ⟨k, true, rfl, HAT.out, HB1.out⟩
  · have HAT := Lib.hid hat
    clear hat
    go_wp2_with fail
    go_ret2
    exact ⟨0, false, rfl, HAT.out, HB1.out⟩
end
end Go.Proofs.Ytmdgmnaaopineaa
/- Stripes of one's own whose rows lie apart: a row may be turned where it lies, or another one put in its place. -/
namespace Go.Proofs.Ytmdgmnaaopineaa
open Go.ChangeShapes Go.WideShapes Go.ChangeAt Go.RowKit
set_option linter.unusedVariables false
/-- Two values lead to one block only where they are one and the same. -/
def Ap (vals : List Value) : Prop := ∀ (i j : Nat) u v g, vals[i]? = some u → vals[j]? = some v → u.ownBlock = some g → v.ownBlock = some g → i = j
theorem Ap.nil : Ap [] := fun i j u v g h => by simp at h
theorem Ap.push {vals : List Value} {v : Value} (h : Ap vals) (hv : ∀ (i : Nat) u g, vals[i]? = some u → u.ownBlock = some g → v.ownBlock ≠ some g) : Ap (vals ++ [v]) := by
  have key : ∀ (i : Nat) u, (vals ++ [v])[i]? = some u → (i < vals.length ∧ vals[i]? = some u) ∨ (i = vals.length ∧ u = v) := fun i u hu => by
    by_cases hi : i < vals.length
    · rw [List.getElem?_append_left hi] at hu
      exact .inl ⟨hi, hu⟩
    · rw [List.getElem?_append_right (by omega)] at hu
      have h0 : i - vals.length = 0 := by
        rcases Nat.eq_zero_or_pos (i - vals.length) with h0 | h0
        · exact h0
        · rw [List.getElem?_eq_none (by simp; omega)] at hu; cases hu
      rw [h0] at hu
      simp only [List.getElem?_cons_zero, Option.some.injEq] at hu
      exact .inr ⟨by omega, hu.symm⟩
  intro i j u u' g hi hj hu hu'
  rcases key i u hi with ⟨h1, h2⟩ | ⟨h1, rfl⟩
  · rcases key j u' hj with ⟨h3, h4⟩ | ⟨h3, rfl⟩
    · exact h i j u u' g h2 h4 hu hu'
    · exact absurd hu' (hv i u g h2 hu)
  · rcases key j u' hj with ⟨h3, h4⟩ | ⟨h3, rfl⟩
    · exact absurd hu (hv j u' g h4 hu')
    · omega
/-- A row of numbers of one's own. -/
def RowOf (w : World) (base : Nat) (v : Value) (x : List Nat) : Prop := (∃ A' c', v = .slice A' x.length c' ∧ w.ownsRow base 22 1 (.slice A' x.length c') x.length (x.map uv)) ∧ ∀ y ∈ x, y < 18446744073709551616
def LQv (vals : List Value) (w : World) (base : Nat) (A : Option Addr) (n c : Nat) (sets : List (List Nat)) : Prop :=
  w.ownsRow base 46 1 (.slice A n c) n vals ∧ sets.length = n ∧ (∀ (i : Nat) x, sets[i]? = some x → ∃ v, vals[i]? = some v ∧ RowOf w base v x) ∧ Ap vals
def LQ (w : World) (base : Nat) (A : Option Addr) (n c : Nat) (sets : List (List Nat)) : Prop := ∃ vals, LQv vals w base A n c sets
/-- Blocks of the two types of rows stay. -/
def Still (w w' : World) (base : Nat) (P : Dom) : Prop := ∀ k cs t, w.heap[k]? = some (.cells cs t (0, 0)) → (t = 22 ∨ t = 46 ∨ t = 31) → base ≤ k → ¬ P k → w'.heap[k]? = w.heap[k]?
theorem own_same {w w' : World} {base size n : Nat} {e : TypeId} {v : Value} {xs : List Value} (h : w.ownsRow base e size v n xs) (hs : ∀ k cs, w.heap[k]? = some (.cells cs e (0, 0)) → base ≤ k → v.ownBlock = some k → w'.heap[k]? = w.heap[k]?) : w'.ownsRow base e size v n xs := by
  refine ⟨h.1, ?_⟩
  rcases h.2 with h0 | ⟨g, cap, cur, rfl, hg, hh, hr⟩
  · exact .inl h0
  · exact .inr ⟨g, cap, cur, rfl, hg, (hs g cur hh hg rfl).trans hh, hr⟩
section
variable {w w' : World} {base n c g : Nat} {A : Option Addr} {sets : List (List Nat)} {vals : List Value}
theorem RowOf.same {v : Value} {x : List Nat} (h : RowOf w base v x) (hs : ∀ k cs, w.heap[k]? = some (.cells cs 22 (0, 0)) → base ≤ k → v.ownBlock = some k → w'.heap[k]? = w.heap[k]?) : RowOf w' base v x := by
  obtain ⟨⟨A', c', rfl, ho⟩, hy⟩ := h
  exact ⟨⟨A', c', rfl, own_same ho hs⟩, hy⟩
theorem RowOf.lo {v : Value} {x : List Nat} {base' : Nat} (h : RowOf w base v x) (hb : base' ≤ base) : RowOf w base' v x := by
  obtain ⟨⟨A', c', rfl, ho⟩, hy⟩ := h
  exact ⟨⟨A', c', rfl, own_down ho hb⟩, hy⟩
theorem RowOf.lt {v : Value} {x : List Nat} (h : RowOf w base v x) {k : Nat} (hk : v.ownBlock = some k) : base ≤ k ∧ k < w.heap.size := by
  obtain ⟨⟨A', c', rfl, ho⟩, hy⟩ := h
  exact ho.lt k hk
theorem LQ.nil (w : World) (base : Nat) : LQ w base none 0 0 [] := ⟨[], World.ownsRow_nil _ _ _ _, rfl, fun i x h => by simp at h, Ap.nil⟩
theorem LQv.same (h : LQv vals w base A n c sets) (hs : ∀ k cs t, w.heap[k]? = some (.cells cs t (0, 0)) → (t = 22 ∨ t = 46) → base ≤ k → w'.heap[k]? = w.heap[k]?) : LQv vals w' base A n c sets := by
  obtain ⟨ho, hn, hi, ha⟩ := h
  refine ⟨own_same ho fun k cs hk hb _ => hs k cs _ hk (.inr rfl) hb, hn, fun i x hx => ?_, ha⟩
  obtain ⟨v, hv, hr⟩ := hi i x hx
  exact ⟨v, hv, hr.same fun k cs hk hb _ => hs k cs _ hk (.inl rfl) hb⟩
theorem LQ.same (h : LQ w base A n c sets) (hs : ∀ k cs t, w.heap[k]? = some (.cells cs t (0, 0)) → (t = 22 ∨ t = 46) → base ≤ k → w'.heap[k]? = w.heap[k]?) : LQ w' base A n c sets := by
  obtain ⟨vals, h⟩ := h
  exact ⟨vals, h.same hs⟩
theorem LQv.below (h : LQv vals w base A n c sets) (hb : Below w.heap.size w w') : LQv vals w' base A n c sets :=
  h.same (fun k cs t hk _ _ => hb.block k (Blk.lt (w := w) hk))
theorem LQ.below (h : LQ w base A n c sets) (hb : Below w.heap.size w w') : LQ w' base A n c sets :=
  h.same (fun k cs t hk _ _ => hb.block k (Blk.lt (w := w) hk))
theorem LQ.lo {base' : Nat} (h : LQ w base A n c sets) (hb : base' ≤ base) : LQ w base' A n c sets := by
  obtain ⟨vals, ho, hn, hi, ha⟩ := h
  exact ⟨vals, own_down ho hb, hn, fun i x hx => (hi i x hx).imp fun v h => ⟨h.1, h.2.lo hb⟩, ha⟩
/-- A store into a block of another type. -/
theorem LQ.put {t : TypeId} {cs : Array Value} (h : LQ w base A n c sets) (hb : Blk w g t cs) (ht : t ≠ 22) (ht2 : t ≠ 46) {a : Addr} (ha : a.block = g) (u : Value) : LQ (w.setCell a u) base A n c sets :=
  h.same (fun k cs' t' hk ht' _ => Below.heap_setCell w a u k (by
    rintro rfl
    rw [ha] at hk
    obtain rfl := blk_type hb hk
    rcases ht' with rfl | rfl
    · exact ht rfl
    · exact ht2 rfl))
theorem LQ.grownC {t : TypeId} {cs : Array Value} (h : LQ w base A n c sets) (hb : Blk w g t cs) (ht : t ≠ 22) (ht2 : t ≠ 46) (hg : w.grownBy w' (some g)) : LQ w' base A n c sets :=
  h.same (fun j cs' t' hj ht' _ => hg.block j (Blk.lt (w := w) hj) (fun e => by
    injection e with e
    subst e
    obtain rfl := blk_type hb hj
    rcases ht' with rfl | rfl
    · exact ht rfl
    · exact ht2 rfl))
theorem LQ.len (h : LQ w base A n c sets) : sets.length = n := by obtain ⟨_, _, hn, _⟩ := h; exact hn
theorem LQ.ll (h : LQ w base A n c sets) : LL w base A n c sets := by
  obtain ⟨vals, ho, hn, hi, ha⟩ := h
  refine ⟨vals, ho, hn, fun i x hx => ?_⟩
  obtain ⟨v, hv, ⟨A', c', rfl, hw⟩, hy⟩ := hi i x hx
  exact ⟨⟨A', c', hv, hw⟩, hy⟩
/-- One list more, made behind a world w0. -/
theorem LQv.push {w0 : World} (h : LQv vals w0 base A n c sets) (hb : Below w0.heap.size w0 w) {w3 : World} {A3 : Option Addr} {c3 : Nat} {v : Value} {x : List Nat} (ho3 : w3.ownsRow base 46 1 (.slice A3 (n + 1) c3) (n + 1) (vals ++ [v])) (hg : w.grownBy w3 (Value.slice A n c).ownBlock)
    (hx : RowOf w w0.heap.size v x) (hbz : base ≤ w0.heap.size) : LQ w3 base A3 (n + 1) c3 (sets ++ [x]) := by
  have hw := h.below hb
  obtain ⟨ho, hn, hi, ha⟩ := h
  obtain ⟨how, _, hiw, _⟩ := hw
  have hvl : vals.length = n := by have := ho.1; simpa using this
  have key : ∀ {v : Value} {x : List Nat} {b : Nat}, RowOf w b v x → RowOf w3 b v x := by
    intro v x b hr
    refine hr.same fun k cs hk _ _ => hg.block k (Blk.lt (w := w) hk) (fun e => ?_)
    exact absurd e (Pen.ne' (t := 22) (cs := cs) hk how (by decide))
  refine ⟨_, ho3, by rw [List.length_append, hn]; rfl, fun i y hy => ?_, ha.push fun i u g hu hug hvg => ?_⟩
  · by_cases hin : i < n
    · rw [List.getElem?_append_left (by omega)] at hy
      obtain ⟨u, hu, hr⟩ := hiw i y hy
      exact ⟨u, by rw [List.getElem?_append_left (by omega)]; exact hu, key hr⟩
    · rw [List.getElem?_append_right (by omega)] at hy
      have hi2 : i - sets.length = 0 := by
        rcases Nat.eq_zero_or_pos (i - sets.length) with h0 | h0
        · exact h0
        · rw [List.getElem?_eq_none (by simp; omega)] at hy; cases hy
      rw [hi2] at hy
      simp only [List.getElem?_cons_zero, Option.some.injEq] at hy
      subst hy
      refine ⟨v, ?_, (key hx).lo hbz⟩
      rw [List.getElem?_append_right (by omega), show i - vals.length = 0 by omega]; rfl
  · have h1 := (hx.lt hvg).1
    have hil : i < vals.length := (List.getElem?_eq_some_iff.1 hu).1
    obtain ⟨u', hu', hr⟩ := hi i sets[i] (List.getElem?_eq_getElem (by omega))
    rw [hu] at hu'
    injection hu' with hu'
    subst hu'
    have h2 := (hr.lt hug).2
    omega
end
/-! ### Stripes -/
def OQv (vals : List Value) (rv : Nat → List Value) (w : World) (base : Nat) (A : Option Addr) (n c : Nat) (l : List Stp) : Prop :=
  w.ownsRow base 31 rpStp.size (.slice A n c) n vals ∧ l.length = n ∧
  (∀ (i : Nat) s, l[i]? = some s → s.1 ≤ 18446744073709551615 ∧ s.2.1 ≤ 18446744073709551615 ∧ ∃ A' c', (∀ (j : Nat) u, (stpV s.1 s.2.1 A' s.2.2.length c').toList[j]? = some u → vals[i * rpStp.size + j]? = some u) ∧
    w.ownsRow base 46 1 (.slice A' s.2.2.length c') s.2.2.length (rv i) ∧ (∀ (k : Nat) x, s.2.2[k]? = some x → ∃ v, (rv i)[k]? = some v ∧ RowOf w base v x)) ∧
  (∀ (i j : Nat) u v g, i < n → j < n → vals[i * rpStp.size + 2]? = some u → vals[j * rpStp.size + 2]? = some v → u.ownBlock = some g → v.ownBlock = some g → i = j) ∧
  (∀ (i j k m : Nat) u v g, i < n → j < n → (rv i)[k]? = some u → (rv j)[m]? = some v → u.ownBlock = some g → v.ownBlock = some g → i = j ∧ k = m)
def OQ (w : World) (base : Nat) (A : Option Addr) (n c : Nat) (l : List Stp) : Prop := ∃ vals rv, OQv vals rv w base A n c l
section
variable {w w' : World} {base n c g : Nat} {A : Option Addr} {l : List Stp} {vals : List Value} {rv : Nat → List Value}
theorem size3 : rpStp.size = 3 := by kernel_rfl
theorem OQ.nil (w : World) (base : Nat) : OQ w base none 0 0 [] := ⟨[], fun _ => [], World.ownsRow_nil _ _ _ _, rfl, fun i x h => by simp at h, fun i j u v g h => absurd h (Nat.not_lt_zero _), fun i j k m u v g h => absurd h (Nat.not_lt_zero _)⟩
theorem OQv.same (h : OQv vals rv w base A n c l) (hs : ∀ k cs t, w.heap[k]? = some (.cells cs t (0, 0)) → (t = 22 ∨ t = 46 ∨ t = 31) → base ≤ k → w'.heap[k]? = w.heap[k]?) : OQv vals rv w' base A n c l := by
  obtain ⟨ho, hn, hi, h1, h2⟩ := h
  refine ⟨own_same ho fun k cs hk hb _ => hs k cs _ hk (.inr (.inr rfl)) hb, hn, fun i s hx => ?_, h1, h2⟩
  obtain ⟨f1, f2, A', c', hv, hr, hk⟩ := hi i s hx
  refine ⟨f1, f2, A', c', hv, own_same hr fun k cs hk hb _ => hs k cs _ hk (.inr (.inl rfl)) hb, fun k x hx => ?_⟩
  obtain ⟨v, hv, hro⟩ := hk k x hx
  exact ⟨v, hv, hro.same fun k cs hk hb _ => hs k cs _ hk (.inl rfl) hb⟩
theorem OQ.same (h : OQ w base A n c l) (hs : ∀ k cs t, w.heap[k]? = some (.cells cs t (0, 0)) → (t = 22 ∨ t = 46 ∨ t = 31) → base ≤ k → w'.heap[k]? = w.heap[k]?) : OQ w' base A n c l := by
  obtain ⟨vals, rv, h⟩ := h
  exact ⟨vals, rv, h.same hs⟩
theorem OQv.below (h : OQv vals rv w base A n c l) (hb : Below w.heap.size w w') : OQv vals rv w' base A n c l :=
  h.same (fun k cs t hk _ _ => hb.block k (Blk.lt (w := w) hk))
theorem OQ.below (h : OQ w base A n c l) (hb : Below w.heap.size w w') : OQ w' base A n c l :=
  h.same (fun k cs t hk _ _ => hb.block k (Blk.lt (w := w) hk))
theorem OQ.put {t : TypeId} {cs : Array Value} (h : OQ w base A n c l) (hb : Blk w g t cs) (ht : t ≠ 22) (ht2 : t ≠ 46) (ht3 : t ≠ 31) {a : Addr} (ha : a.block = g) (u : Value) : OQ (w.setCell a u) base A n c l :=
  h.same (fun k cs' t' hk ht' _ => Below.heap_setCell w a u k (by
    rintro rfl
    rw [ha] at hk
    obtain rfl := blk_type hb hk
    rcases ht' with rfl | rfl | rfl
    · exact ht rfl
    · exact ht2 rfl
    · exact ht3 rfl))
theorem OQ.grown {t : TypeId} {cs : Array Value} (h : OQ w base A n c l) (hb : Blk w g t cs) (ht : t ≠ 22) (ht2 : t ≠ 46) (ht3 : t ≠ 31) (hg : w.grownBy w' (some g)) : OQ w' base A n c l :=
  h.same (fun j cs' t' hj ht' _ => hg.block j (Blk.lt (w := w) hj) (fun e => by
    injection e with e
    subst e
    obtain rfl := blk_type hb hj
    rcases ht' with rfl | rfl | rfl
    · exact ht rfl
    · exact ht2 rfl
    · exact ht3 rfl))
theorem OQ.len (h : OQ w base A n c l) : l.length = n := by obtain ⟨_, _, _, hn, _⟩ := h; exact hn
theorem OQ.lo {base' : Nat} (h : OQ w base A n c l) (hb : base' ≤ base) : OQ w base' A n c l := by
  obtain ⟨vals, rv, ho, hn, hi, h1, h2⟩ := h
  refine ⟨vals, rv, own_down ho hb, hn, fun i s hx => ?_, h1, h2⟩
  obtain ⟨f1, f2, A', c', hv, hr, hk⟩ := hi i s hx
  exact ⟨f1, f2, A', c', hv, own_down hr hb, fun k x hx => (hk k x hx).imp fun v h => ⟨h.1, h.2.lo hb⟩⟩
theorem OQ.os (h : OQ w base A n c l) : OS w base A n c l := by
  obtain ⟨vals, rv, ho, hn, hi, h1, h2⟩ := h
  refine ⟨vals, ho, hn, fun i s hx => ?_⟩
  obtain ⟨f1, f2, A', c', hv, hr, hk⟩ := hi i s hx
  have hll : LL w base A' s.2.2.length c' s.2.2 := ⟨rv i, hr, rfl, fun k x hx => by
    obtain ⟨v, hv, ⟨A2, c2, rfl, hw⟩, hy⟩ := hk k x hx
    exact ⟨⟨A2, c2, hv, hw⟩, hy⟩⟩
  exact ⟨_, stp_ok f1 f2 (LL.tb (D0 := fun _ => False) hll), hv⟩
/-- One stripe more, whose rows were made behind a world w0. -/
theorem OQv.push {w0 : World} (h : OQv vals rv w0 base A n c l) (hb : Below w0.heap.size w0 w) {w3 : World} {A3 A' : Option Addr} {c3 c' f t m : Nat} {sets : List (List Nat)} (ho3 : w3.ownsRow base 31 rpStp.size (.slice A3 (n + 1) c3) (n + 1) (vals ++ (stpV f t A' m c').toList)) (hg : w.grownBy w3 (Value.slice A n c).ownBlock)
    (hx : LQ w w0.heap.size A' m c' sets) (hf : f ≤ 18446744073709551615) (ht : t ≤ 18446744073709551615) (hbz : base ≤ w0.heap.size) : OQ w3 base A3 (n + 1) c3 (l ++ [(f, t, sets)]) := by
  have hw := h.below hb
  obtain ⟨ho, hn, hi, h1, h2⟩ := h
  obtain ⟨how, _, hiw, _, _⟩ := hw
  obtain ⟨rn, hro, hrn, hri, hra⟩ := hx
  have hvl : vals.length = n * 3 := by have := ho.1; rw [size3] at this; exact this
  have stay : ∀ (k : Nat) (cs : Array Value) (t : TypeId), w.heap[k]? = some (.cells cs t (0, 0)) → (t = 22 ∨ t = 46) → w3.heap[k]? = w.heap[k]? := by
    intro k cs t hk htt
    refine hg.block k (Blk.lt (w := w) hk) (fun e => ?_)
    refine absurd e (Pen.ne' (t := t) (cs := cs) hk how ?_)
    rcases htt with rfl | rfl <;> decide
  have key : ∀ {v : Value} {x : List Nat} {b : Nat}, RowOf w b v x → RowOf w3 b v x := fun hr => hr.same fun k cs hk _ _ => stay k cs _ hk (.inl rfl)
  have oldlt : ∀ (i k : Nat) v q, i < n → (rv i)[k]? = some v → v.ownBlock = some q → q < w0.heap.size := by
    intro i k v q hin hv hq
    obtain ⟨_, _, A1, c1, _, hr1, hk1⟩ := hi i l[i] (List.getElem?_eq_getElem (by omega))
    have hkl : k < (rv i).length := (List.getElem?_eq_some_iff.1 hv).1
    have hrl : (rv i).length = l[i].2.2.length := by have := hr1.1; simpa using this
    obtain ⟨v', hv', hro'⟩ := hk1 k l[i].2.2[k] (List.getElem?_eq_getElem (by omega))
    rw [hv] at hv'
    injection hv' with hv'
    subst hv'
    exact (hro'.lt hq).2
  have newge : ∀ (k : Nat) v q, rn[k]? = some v → v.ownBlock = some q → w0.heap.size ≤ q := by
    intro k v q hv hq
    have hkl : k < rn.length := (List.getElem?_eq_some_iff.1 hv).1
    have hrl : rn.length = m := by have := hro.1; simpa using this
    obtain ⟨v', hv', hro'⟩ := hri k sets[k] (List.getElem?_eq_getElem (by omega))
    rw [hv] at hv'
    injection hv' with hv'
    subst hv'
    exact (hro'.lt hq).1
  have mainlt : ∀ (i : Nat) v q, i < n → vals[i * rpStp.size + 2]? = some v → v.ownBlock = some q → q < w0.heap.size := by
    intro i v q hin hv hq
    obtain ⟨_, _, A1, c1, hc1, hr1, hk1⟩ := hi i l[i] (List.getElem?_eq_getElem (by omega))
    have := hc1 2 _ rfl
    rw [hv] at this
    injection this with this
    subst this
    exact (hr1.lt q hq).2
  have mainat : ∀ (i : Nat) v, i < n + 1 → (vals ++ (stpV f t A' m c').toList)[i * rpStp.size + 2]? = some v → (i < n ∧ vals[i * rpStp.size + 2]? = some v) ∨ (i = n ∧ v = .slice A' m c') := by
    intro i v hin hv
    rw [size3] at hv ⊢
    rcases Nat.lt_or_ge i n with hlt | hge
    · rw [List.getElem?_append_left (by omega)] at hv
      exact .inl ⟨hlt, hv⟩
    · obtain rfl : i = n := by omega
      rw [List.getElem?_append_right (by omega), hvl, Nat.add_sub_cancel_left] at hv
      injection hv with hv
      exact .inr ⟨rfl, hv.symm⟩
  refine ⟨_, fun i => if i < n then rv i else rn, ho3, by rw [List.length_append, hn]; rfl, fun i s hs => ?_, ?_, ?_⟩
  · by_cases hin : i < n
    · rw [List.getElem?_append_left (by omega)] at hs
      obtain ⟨f1, f2, A1, c1, hv, hr, hk⟩ := hiw i s hs
      simp only [if_pos hin]
      refine ⟨f1, f2, A1, c1, fun j u hu => ?_, own_same hr fun k cs hk _ _ => stay k cs _ hk (.inr rfl), fun k x hx => (hk k x hx).imp fun v h => ⟨h.1, key h.2⟩⟩
      have hj : j < 3 := (List.getElem?_eq_some_iff.1 hu).1
      have := hv j u hu
      rw [List.getElem?_append_left (by rw [size3]; omega)]
      exact this
    · rw [List.getElem?_append_right (by omega)] at hs
      have hi2 : i - l.length = 0 := by
        rcases Nat.eq_zero_or_pos (i - l.length) with h0 | h0
        · exact h0
        · rw [List.getElem?_eq_none (by simp; omega)] at hs; cases hs
      rw [hi2] at hs
      simp only [List.getElem?_cons_zero, Option.some.injEq] at hs
      subst hs
      obtain rfl : i = n := by
        have : ¬ i < n := hin
        omega
      simp only [if_neg hin]
      subst hrn
      refine ⟨hf, ht, A', c', fun j u hu => ?_, own_down (own_same hro fun k cs hk _ _ => stay k cs _ hk (.inr rfl)) hbz, fun k x hx => (hri k x hx).imp fun v h => ⟨h.1, (key h.2).lo hbz⟩⟩
      rw [size3, List.getElem?_append_right (by omega), hvl, Nat.add_sub_cancel_left]
      exact hu
  · intro i j u v g hi' hj' hu hv hug hvg
    rcases mainat i u hi' hu with ⟨a1, a2⟩ | ⟨a1, rfl⟩
    · rcases mainat j v hj' hv with ⟨b1, b2⟩ | ⟨b1, rfl⟩
      · exact h1 i j u v g a1 b1 a2 b2 hug hvg
      · have q1 := mainlt i u g a1 a2 hug
        have q2 := (hro.lt g hvg).1
        omega
    · rcases mainat j v hj' hv with ⟨b1, b2⟩ | ⟨b1, rfl⟩
      · have q1 := mainlt j v g b1 b2 hvg
        have q2 := (hro.lt g hug).1
        omega
      · omega
  · intro i j k q u v g hi' hj' hu hv hug hvg
    replace hu : (if i < n then rv i else rn)[k]? = some u := hu
    replace hv : (if j < n then rv j else rn)[q]? = some v := hv
    by_cases a1 : i < n
    · rw [if_pos a1] at hu
      by_cases b1 : j < n
      · rw [if_pos b1] at hv
        exact h2 i j k q u v g a1 b1 hu hv hug hvg
      · rw [if_neg b1] at hv
        have q1 := oldlt i k u g a1 hu hug
        have q2 := newge q v g hv hvg
        omega
    · rw [if_neg a1] at hu
      by_cases b1 : j < n
      · rw [if_pos b1] at hv
        have q1 := oldlt j q v g b1 hv hvg
        have q2 := newge k u g hu hug
        omega
      · rw [if_neg b1] at hv
        exact ⟨by omega, hra k q u v g hu hv hug hvg⟩
end
end Go.Proofs.Ytmdgmnaaopineaa
/- A row of a stripe of one's own is turned where it lies; another row is put in its place. -/
namespace Go.Proofs.Ytmdgmnaaopineaa
open Go.ChangeShapes Go.WideShapes Go.ChangeAt Go.RowKit
set_option linter.unusedVariables false
section
variable {w w' : World} {base n c g : Nat} {A : Option Addr}
theorem own_cell {e : TypeId} {size : Nat} {vals : List Value} (h : w.ownsRow base e size (.slice A n c) n vals) {j : Nat} {u : Value} (hj : vals[j]? = some u) :
    ∃ g cur, A = some ⟨g, 0, none⟩ ∧ base ≤ g ∧ Blk w g e cur ∧ w.cell? ⟨g, j, none⟩ = some u ∧ (Value.slice A n c).ownBlock = some g := by
  rcases h.2 with ⟨hv, h0⟩ | ⟨g, cap, cur, hv, hg, hh, hnc, hcm, hcs, htake⟩
  · have h1 := h.1
    rw [h0, Nat.zero_mul] at h1
    have := (List.getElem?_eq_some_iff.1 hj).1
    omega
  · injection hv with h1 h2 h3
    subst h1; subst h3
    have hb : Blk w g e cur := hh
    refine ⟨g, cur, rfl, hg, hb, ?_, rfl⟩
    rw [hb.cell]
    rw [← htake, List.getElem?_take] at hj
    split at hj
    · simpa using hj
    · cases hj
theorem own_put {e : TypeId} {size : Nat} {xs : List Value} (h : w.ownsRow base e size (.slice (some ⟨g, 0, none⟩) n c) n xs) (j : Nat) (u : Value) : (w.setCell ⟨g, j, none⟩ u).ownsRow base e size (.slice (some ⟨g, 0, none⟩) n c) n (xs.set j u) := by
  refine ⟨by rw [List.length_set]; exact h.1, ?_⟩
  rcases h.2 with ⟨hv, _⟩ | ⟨q, cap, cur, hv, hg, hh, hnc, hcm, hcs, htake⟩
  · cases hv
  · injection hv with h1 _ h3
    injection h1 with h1
    injection h1 with h1
    subst h1; subst h3
    have hb : Blk w g e cur := hh
    exact .inr ⟨g, c, cur.setIfInBounds j u, rfl, hg, hb.put _ u, hnc, hcm, by simpa using hcs, by rw [Array.toList_setIfInBounds, List.take_set, htake]⟩
/-- What the row k of the stripe i may become. -/
structure RowAt (w : World) (base : Nat) (A : Option Addr) (n c : Nat) (l : List Stp) (i : Nat) (s : Stp) (gs k : Nat) (x : List Nat) (g cx : Nat) : Prop where
  gs0 : base ≤ gs
  gs1 : gs < w.heap.size
  g0 : base ≤ g
  g1 : g < w.heap.size
  blk : ∃ cur, Blk w gs 46 cur
  cell : w.cell? ⟨gs, k, none⟩ = some (.slice (some ⟨g, 0, none⟩) x.length cx)
  own : w.ownsRow base 22 1 (.slice (some ⟨g, 0, none⟩) x.length cx) x.length (x.map uv)
  lt : ∀ y ∈ x, y < 18446744073709551616
  turn : ∀ (w' : World) (x' : List Nat), x'.length = x.length → (∀ y ∈ x', y < 18446744073709551616) → Chg (fun q => q = g) w w' → w'.ownsRow base 22 1 (.slice (some ⟨g, 0, none⟩) x.length cx) x.length (x'.map uv) → OQ w' base A n c (l.set i (s.1, s.2.1, s.2.2.set k x'))
  put : ∀ (w1 : World) (v : Value) (x' : List Nat), Below w.heap.size w w1 → RowOf w1 w.heap.size v x' → OQ (w1.setCell ⟨gs, k, none⟩ v) base A n c (l.set i (s.1, s.2.1, s.2.2.set k x'))
theorem OQ.at {l : List Stp} (h : OQ w base A n c l) {i : Nat} {s : Stp} (hs : l[i]? = some s) : ∃ (gm : Nat) (A' : Option Addr) (c' : Nat), A = some ⟨gm, 0, none⟩ ∧ base ≤ gm ∧ gm < w.heap.size ∧
    w.cell? ⟨gm, i * 3, none⟩ = some (.int .u64 (s.1 : Int)) ∧ w.cell? ⟨gm, i * 3 + 1, none⟩ = some (.int .u64 (s.2.1 : Int)) ∧ w.cell? ⟨gm, i * 3 + 2, none⟩ = some (.slice A' s.2.2.length c') ∧ s.1 ≤ 18446744073709551615 ∧ s.2.1 ≤ 18446744073709551615 ∧
    Sl (rpSlice rpU64) w (fun k => base ≤ k ∧ k < w.heap.size) A' s.2.2.length c' s.2.2 ∧ ∀ (k : Nat) x, s.2.2[k]? = some x → x ≠ [] → ∃ gs g cx, A' = some ⟨gs, 0, none⟩ ∧ RowAt w base A n c l i s gs k x g cx := by
  obtain ⟨vals, rv, ho, hn, hi, h1, h2⟩ := h
  have hil : i < l.length := (List.getElem?_eq_some_iff.1 hs).1
  obtain ⟨f1, f2, A', c', hv, hr, hk⟩ := hi i s hs
  have v0 := hv 0 _ rfl
  have v1 := hv 1 _ rfl
  have v2 := hv 2 _ rfl
  obtain ⟨gm, cur, rfl, hgm, hbm, q0, _⟩ := own_cell ho v0
  obtain ⟨gm1, _, e1, _, _, q1, _⟩ := own_cell ho v1
  obtain ⟨gm2, _, e2, _, _, q2, _⟩ := own_cell ho v2
  injection e1 with e1
  injection e1 with e1
  injection e2 with e2
  injection e2 with e2
  subst e1; subst e2
  rw [size3] at q0 q1 q2
  have hll : LL w base A' s.2.2.length c' s.2.2 := ⟨rv i, hr, rfl, fun k x hx => by
    obtain ⟨v, hv, ⟨A2, c2, rfl, hw⟩, hy⟩ := hk k x hx
    exact ⟨⟨A2, c2, hv, hw⟩, hy⟩⟩
  refine ⟨gm, A', c', rfl, hgm, hbm.lt, q0, q1, q2, f1, f2, LL.sl hll, fun k x hx hne => ?_⟩
  obtain ⟨v, hvk, ⟨Ax, cx, rfl, hox⟩, hlt⟩ := hk k x hx
  obtain ⟨gs, curs, rfl, hgs, hbs, qs, hos⟩ := own_cell hr hvk
  have hx0 : ∃ y, x[0]? = some y := by
    rcases x with _ | ⟨y, x⟩
    · exact absurd rfl hne
    · exact ⟨y, rfl⟩
  obtain ⟨y0, hy0⟩ := hx0
  obtain ⟨g, curg, rfl, hg, hbg, _, hog⟩ := own_cell hox (show (x.map uv)[0]? = some (uv y0) by rw [List.getElem?_map, hy0]; rfl)
  have hkl : k < s.2.2.length := (List.getElem?_eq_some_iff.1 hx).1
  have hrl : (rv i).length = s.2.2.length := by have := hr.1; simpa using this
  have htg : ∀ {k' : Nat} {cs : Array Value} {t : TypeId}, w.heap[k']? = some (.cells cs t (0, 0)) → t ≠ 22 → k' ≠ g := fun hk' ht e => by
    subst e
    exact ht (blk_type hbg hk')
  have hts : ∀ {k' : Nat} {cs : Array Value} {t : TypeId}, w.heap[k']? = some (.cells cs t (0, 0)) → t ≠ 46 → k' ≠ gs := fun hk' ht e => by
    subst e
    exact ht (blk_type hbs hk')
  refine ⟨gs, g, cx, rfl, ⟨hgs, hbs.lt, hg, hbg.lt, ⟨_, hbs⟩, qs, hox, hlt, ?_, ?_⟩⟩
  · intro w' x' hxl hlt' hc hown
    refine ⟨vals, rv, own_same ho fun k' cs hk' _ _ => hc.block k' (Blk.lt (w := w) hk') (htg hk' (by decide)), by rw [List.length_set]; exact hn, fun j t ht => ?_, h1, h2⟩
    have key : ∀ (m : Nat) (o : List Nat), j < n → (∃ v, (rv j)[m]? = some v ∧ RowOf w base v o) → ¬ (j = i ∧ m = k) → ∃ v, (rv j)[m]? = some v ∧ RowOf w' base v o := by
      rintro m o hj ⟨v, hv, hro⟩ hne
      refine ⟨v, hv, hro.same fun k' cs hk' _ hvb => hc.block k' (Blk.lt (w := w) hk') (fun e => hne ?_)⟩
      have e' : k' = g := e
      subst e'
      exact h2 j i m k v _ k' hj (by omega) hv hvk hvb rfl
    by_cases hji : j = i
    · subst hji
      rw [List.getElem?_set_self hil] at ht
      injection ht with ht
      subst ht
      refine ⟨f1, f2, some ⟨gs, 0, none⟩, c', ?_, ?_, fun m o hm => ?_⟩
      · dsimp only
        rw [List.length_set]
        exact hv
      · dsimp only
        rw [List.length_set]
        exact own_same hr fun k' cs hk' _ _ => hc.block k' (Blk.lt (w := w) hk') (htg hk' (by decide))
      · dsimp only at hm
        by_cases hmk : m = k
        · subst hmk
          rw [List.getElem?_set_self hkl] at hm
          injection hm with hm
          subst hm
          exact ⟨_, hvk, ⟨some ⟨g, 0, none⟩, cx, by rw [hxl], by rw [hxl]; exact hown⟩, hlt'⟩
        · rw [List.getElem?_set_ne (fun e => hmk e.symm)] at hm
          exact key m o (by omega) (hk m o hm) (fun e => hmk e.2)
    · rw [List.getElem?_set_ne (fun e => hji e.symm)] at ht
      obtain ⟨a1, a2, Aj, cj, hvj, hrj, hkj⟩ := hi j t ht
      refine ⟨a1, a2, Aj, cj, hvj, own_same hrj fun k' cs hk' _ _ => hc.block k' (Blk.lt (w := w) hk') (htg hk' (by decide)), fun m o hm => key m o (by have := (List.getElem?_eq_some_iff.1 ht).1; omega) (hkj m o hm) (fun e => hji e.1)⟩
  · intro w1 v x' hb hro'
    have hst : ∀ (k' : Nat), k' < w.heap.size → k' ≠ gs → (w1.setCell ⟨gs, k, none⟩ v).heap[k']? = w.heap[k']? := fun k' hk' hne => (Below.heap_setCell w1 ⟨gs, k, none⟩ v k' (fun e => hne e)).trans (hb.block k' hk')
    have hnew : ∀ (k' : Nat) (cs : Array Value), w1.heap[k']? = some (.cells cs 22 (0, 0)) → (w1.setCell ⟨gs, k, none⟩ v).heap[k']? = w1.heap[k']? := fun k' cs hk' => Below.heap_setCell w1 ⟨gs, k, none⟩ v k' (fun e => by
      subst e
      have h := blk_type (hbs.below hb hbs.lt) hk'
      exact absurd h (by decide))
    have hlen2 : ∀ q, v.ownBlock = some q → w.heap.size ≤ q := fun q hq => (hro'.lt hq).1
    have hold : ∀ (j m : Nat) u q, j < n → (rv j)[m]? = some u → u.ownBlock = some q → q < w.heap.size := by
      intro j m u q hj hu hq
      obtain ⟨_, _, Aj, cj, _, hrj, hkj⟩ := hi j l[j] (List.getElem?_eq_getElem (by omega))
      have hml : m < (rv j).length := (List.getElem?_eq_some_iff.1 hu).1
      have hrl' : (rv j).length = l[j].2.2.length := by have := hrj.1; simpa using this
      obtain ⟨u', hu', hro⟩ := hkj m l[j].2.2[m] (List.getElem?_eq_getElem (by omega))
      rw [hu] at hu'
      injection hu' with hu'
      subst hu'
      exact (hro.lt hq).2
    refine ⟨vals, fun j => if j = i then (rv i).set k v else rv j, own_same ho fun k' cs hk' _ _ => hst k' (Blk.lt (w := w) hk') (hts hk' (by decide)), by rw [List.length_set]; exact hn, fun j t ht => ?_, h1, ?_⟩
    · have key : ∀ (m : Nat) (o : List Nat), (∃ v, (rv j)[m]? = some v ∧ RowOf w base v o) → ∃ u, (rv j)[m]? = some u ∧ RowOf (w1.setCell ⟨gs, k, none⟩ v) base u o := by
        rintro m o ⟨u, hu, hro⟩
        exact ⟨u, hu, hro.same fun k' cs hk' _ _ => hst k' (Blk.lt (w := w) hk') (hts hk' (by decide))⟩
      by_cases hji : j = i
      · subst hji
        rw [List.getElem?_set_self hil] at ht
        injection ht with ht
        subst ht
        refine ⟨f1, f2, some ⟨gs, 0, none⟩, c', ?_, ?_, fun m o hm => ?_⟩
        · dsimp only
          rw [List.length_set]
          exact hv
        · dsimp only
          simp only [List.length_set, if_true]
          exact own_put (keepO hr hb) k v
        · dsimp only at hm
          simp only [if_true]
          by_cases hmk : m = k
          · subst hmk
            rw [List.getElem?_set_self hkl] at hm
            injection hm with hm
            subst hm
            refine ⟨v, List.getElem?_set_self (by omega), ?_⟩
            exact (hro'.same fun k' cs hk' _ _ => hnew k' cs hk').lo (by have := hbg.lt; omega)
          · rw [List.getElem?_set_ne (fun e => hmk e.symm)] at hm
            rw [List.getElem?_set_ne (fun e => hmk e.symm)]
            exact key m o (hk m o hm)
      · rw [List.getElem?_set_ne (fun e => hji e.symm)] at ht
        obtain ⟨a1, a2, Aj, cj, hvj, hrj, hkj⟩ := hi j t ht
        simp only [if_neg hji]
        refine ⟨a1, a2, Aj, cj, hvj, own_same hrj fun k' cs hk' _ hob => hst k' (Blk.lt (w := w) hk') (fun e => hji ?_), fun m o hm => key m o (hkj m o hm)⟩
        subst e
        exact h1 j i _ _ k' (by have := (List.getElem?_eq_some_iff.1 ht).1; omega) (by omega) (hvj 2 _ rfl) v2 hob rfl
    · have at' : ∀ (j m : Nat) u, (if j = i then (rv i).set k v else rv j)[m]? = some u → (j = i ∧ m = k ∧ u = v) ∨ (¬ (j = i ∧ m = k) ∧ (rv j)[m]? = some u) := by
        intro j m u hu
        by_cases hji : j = i
        · subst hji
          rw [if_pos rfl] at hu
          by_cases hmk : m = k
          · subst hmk
            rw [List.getElem?_set_self (by omega)] at hu
            injection hu with hu
            exact .inl ⟨rfl, rfl, hu.symm⟩
          · rw [List.getElem?_set_ne (fun e => hmk e.symm)] at hu
            exact .inr ⟨fun e => hmk e.2, hu⟩
        · rw [if_neg hji] at hu
          exact .inr ⟨fun e => hji e.1, hu⟩
      intro j j' m m' u u' q hj hj' hu hu' hq hq'
      rcases at' j m u hu with ⟨rfl, rfl, rfl⟩ | ⟨a, hu2⟩
      · rcases at' j' m' u' hu' with ⟨rfl, rfl, rfl⟩ | ⟨b, hu2'⟩
        · exact ⟨rfl, rfl⟩
        · have q1 := hlen2 q hq
          have q2 := hold j' m' u' q hj' hu2' hq'
          omega
      · rcases at' j' m' u' hu' with ⟨rfl, rfl, rfl⟩ | ⟨b, hu2'⟩
        · have q1 := hlen2 q hq'
          have q2 := hold j m u q hj hu2 hq
          omega
        · exact h2 j j' m m' u u' q hj hj' hu2 hu2' hq hq'
end
end Go.Proofs.Ytmdgmnaaopineaa
/- A node in the place of another one, in plain words. No walk. -/
namespace Go.Proofs.Ytmdgmnaaopineaa
set_option linter.unusedVariables false
def rpl (old node x : Nat) : Nat := if x = old then node else x
/-- The rising row of a set with a node in the place of another one. -/
def sw (old node : Nat) (o : List Nat) : List Nat := (o.map (rpl old node)).mergeSort (fun a b => decide (a ≤ b))
def SwOf (old node : Nat) (o out : List Nat) : Prop := out.Perm (o.map (rpl old node)) ∧ out.Pairwise (· ≤ ·)
theorem sw_is (old node : Nat) (o : List Nat) : SwOf old node o (sw old node o) := by
  refine ⟨List.mergeSort_perm _ _, ?_⟩
  have h := List.pairwise_mergeSort (le := fun a b : Nat => decide (a ≤ b)) (fun a b c h1 h2 => by simp only [decide_eq_true_eq] at *; omega) (fun a b => by simp only [Bool.or_eq_true, decide_eq_true_eq]; omega) (o.map (rpl old node))
  exact h.imp fun hab => by simpa using hab
theorem sorted_eq {a b : List Nat} (ha : a.Pairwise (· ≤ ·)) (hb : b.Pairwise (· ≤ ·)) (hp : a.Perm b) : a = b :=
  List.Perm.eq_of_pairwise (le := fun x y => x ≤ y) (fun x y _ _ h1 h2 => Nat.le_antisymm h1 h2) ha hb hp
theorem SwOf.eq {old node : Nat} {o out : List Nat} (h : SwOf old node o out) : out = sw old node o := sorted_eq h.2 (sw_is old node o).2 (h.1.trans (sw_is old node o).1.symm)
theorem sw_len (old node : Nat) (o : List Nat) : (sw old node o).length = o.length := by rw [(sw_is old node o).1.length_eq, List.length_map]
theorem sw_mem {old node : Nat} {o : List Nat} {y : Nat} (h : y ∈ sw old node o) : y = node ∨ y ∈ o := by
  obtain ⟨x, hx, rfl⟩ := List.mem_map.1 ((sw_is old node o).1.mem_iff.1 h)
  unfold rpl
  by_cases e : x = old
  · rw [if_pos e]; exact .inl rfl
  · rw [if_neg e]; exact .inr hx
theorem sw_new {old node : Nat} {o : List Nat} (h : old ∈ o) : node ∈ sw old node o :=
  (sw_is old node o).1.mem_iff.2 (List.mem_map.2 ⟨old, h, by unfold rpl; rw [if_pos rfl]⟩)
theorem sw_back {old node : Nat} {o : List Nat} (hr : o.Pairwise (· < ·)) (hn : node ∉ o) : sw node old (sw old node o) = o := by
  refine (SwOf.eq (old := node) (node := old) (o := sw old node o) (out := o) ⟨?_, hr.imp Nat.le_of_lt⟩).symm
  have h := ((sw_is old node o).1.map (rpl node old))
  rw [List.map_map] at h
  refine (h.trans (List.Perm.of_eq ?_)).symm
  conv => rhs; rw [← List.map_id o]
  refine List.map_congr_left fun x hx => ?_
  show rpl node old (rpl old node x) = x
  unfold rpl
  by_cases e : x = old
  · rw [if_pos e, if_pos rfl, e]
  · rw [if_neg e, if_neg (fun e2 : x = node => hn (e2 ▸ hx))]
/-- What a set becomes. -/
def swO (old node : Nat) (o : List Nat) : List Nat := if old ∈ o then sw old node o else o
theorem swO_yes {old node : Nat} {o : List Nat} (h : old ∈ o) : swO old node o = sw old node o := by unfold swO; rw [if_pos h]
theorem swO_no {old node : Nat} {o : List Nat} (h : old ∉ o) : swO old node o = o := by unfold swO; rw [if_neg h]
theorem swO_back {old node : Nat} {o : List Nat} (hr : o.Pairwise (· < ·)) (hn : node ∉ o) : swO node old (swO old node o) = o := by
  by_cases h : old ∈ o
  · rw [swO_yes h, swO_yes (sw_new h), sw_back hr hn]
  · rw [swO_no h, swO_no hn]
def swS (old node : Nat) (s : Stp) : Stp := (s.1, s.2.1, s.2.2.map (swO old node))
def swL (old node : Nat) (l : List Stp) : List Stp := l.map (swS old node)
def Met (l : List Stp) (old : Nat) : Prop := ∃ (i : Nat) (s : Stp) (k : Nat) (o : List Nat), l[i]? = some s ∧ s.2.2[k]? = some o ∧ old ∈ o
theorem set_pairs {s : Stp} (h : SOk s) {k : Nat} {o : List Nat} (ho : s.2.2[k]? = some o) : o.Pairwise (· < ·) := rises_lt (h.2.2.2.2 k o ho).2.2.1
theorem swS_back {old node : Nat} {s : Stp} (h : SOk s) (hn : ∀ (k : Nat) (o : List Nat), s.2.2[k]? = some o → node ∉ o) : swS node old (swS old node s) = s := by
  obtain ⟨f, t, sets⟩ := s
  unfold swS
  dsimp only
  rw [List.map_map]
  refine congrArg (fun z => (f, t, z)) ?_
  conv => rhs; rw [← List.map_id sets]
  refine List.map_congr_left fun o ho => ?_
  obtain ⟨k, hk⟩ := List.getElem?_of_mem ho
  exact swO_back (set_pairs h hk) (hn k o hk)
theorem pOk_at {p : Prj} (h : POk p) {i : Nat} {s : Stp} (hs : p.2[i]? = some s) : SOk s := (h.1.2 i s (List.getElem?_eq_some_iff.1 hs).1 hs).1
theorem swL_back {e old node : Nat} {l : List Stp} (h : POk (e, l)) (hn : ¬ Met l node) : swL node old (swL old node l) = l := by
  unfold swL
  rw [List.map_map]
  conv => rhs; rw [← List.map_id l]
  refine List.map_congr_left fun s hs => ?_
  obtain ⟨i, hi⟩ := List.getElem?_of_mem hs
  exact swS_back (pOk_at h hi) (fun k o ho hm => hn ⟨i, s, k, o, hi, ho, hm⟩)
theorem met_swL {l : List Stp} {old node : Nat} (h : Met l old) : Met (swL old node l) node := by
  obtain ⟨i, s, k, o, hi, hk, hm⟩ := h
  refine ⟨i, swS old node s, k, swO old node o, ?_, ?_, ?_⟩
  · unfold swL; rw [List.getElem?_map, hi]; rfl
  · unfold swS; dsimp only; rw [List.getElem?_map, hk]; rfl
  · rw [swO_yes hm]; exact sw_new hm
theorem pOk_e {e e' : Nat} {l : List Stp} (h : POk (e, l)) (he : EOk e') : POk (e', l) := ⟨⟨⟨he, h.1.1.2⟩, h.1.2⟩, h.2⟩
/-- One after the other: the first k of a list are done. -/
def Upd {α : Type} (f : α → α) (l : List α) (k : Nat) (L : List α) : Prop := L.length = l.length ∧ ∀ (i : Nat) x, l[i]? = some x → L[i]? = some (if i < k then f x else x)
section
variable {α : Type} {f : α → α} {l L : List α} {k : Nat} {x : α}
theorem Upd.zero (f : α → α) (l : List α) : Upd f l 0 l := ⟨rfl, fun i x hx => by rw [if_neg (Nat.not_lt_zero _)]; exact hx⟩
theorem Upd.at (h : Upd f l k L) (hx : l[k]? = some x) : L[k]? = some x := by rw [h.2 k x hx, if_neg (Nat.lt_irrefl _)]
theorem Upd.step (h : Upd f l k L) (hx : l[k]? = some x) : Upd f l (k + 1) (L.set k (f x)) := by
  have hk := (List.getElem?_eq_some_iff.1 hx).1
  refine ⟨by rw [List.length_set]; exact h.1, fun i y hy => ?_⟩
  by_cases hi : i = k
  · subst hi
    rw [hx] at hy
    injection hy with hy
    subst hy
    rw [List.getElem?_set_self (by rw [h.1]; exact hk), if_pos (by omega)]
  · rw [List.getElem?_set_ne (fun e => hi e.symm), h.2 i y hy]
    by_cases h2 : i < k
    · rw [if_pos h2, if_pos (by omega)]
    · rw [if_neg h2, if_neg (by omega)]
theorem Upd.same (h : Upd f l k L) (hx : l[k]? = some x) (hf : f x = x) : Upd f l (k + 1) L := by
  have h2 := h.step hx
  rw [hf] at h2
  have e : L.set k x = L := by
    apply List.ext_getElem?
    intro i
    by_cases hi : i = k
    · subst hi
      rw [List.getElem?_set_self (by rw [h.1]; exact (List.getElem?_eq_some_iff.1 hx).1), h.at hx]
    · rw [List.getElem?_set_ne (fun e => hi e.symm)]
  rw [e] at h2
  exact h2
theorem Upd.all (h : Upd f l k L) (hk : l.length ≤ k) : L = l.map f := by
  apply List.ext_getElem?
  intro i
  rw [List.getElem?_map]
  by_cases hi : i < l.length
  · rw [h.2 i l[i] (List.getElem?_eq_getElem hi), if_pos (by omega), List.getElem?_eq_getElem hi]; rfl
  · rw [List.getElem?_eq_none (by rw [h.1]; omega), List.getElem?_eq_none (by omega)]; rfl
/-- The element at hand is in work. -/
theorem Upd.inner {y : α} (h : Upd f l k (L.set k x)) (hx : l[k]? = some x) (hy : L[k]? = some y) (hf : y = f x) : Upd f l (k + 1) L := by
  have h2 := h.step hx
  rw [List.set_set, ← hf] at h2
  have e : L.set k y = L := by
    apply List.ext_getElem?
    intro i
    by_cases hi : i = k
    · subst hi
      rw [List.getElem?_set_self (List.getElem?_eq_some_iff.1 hy).1, hy]
    · rw [List.getElem?_set_ne (fun e => hi e.symm)]
  rw [e] at h2
  exact h2
theorem Upd.outer (h : Upd f l k L) (hx : l[k]? = some x) : Upd f l k (L.set k x) := by
  refine ⟨by rw [List.length_set]; exact h.1, fun i y hy => ?_⟩
  by_cases hi : i = k
  · subst hi
    rw [hx] at hy
    injection hy with hy
    subst hy
    rw [List.getElem?_set_self (by rw [h.1]; exact (List.getElem?_eq_some_iff.1 hx).1), if_neg (Nat.lt_irrefl _)]
  · rw [List.getElem?_set_ne (fun e => hi e.symm)]
    exact h.2 i y hy
end
/-- In a good stripe one set alone has the node. -/
theorem swS_at {old node k : Nat} {s : Stp} {o : List Nat} (h : SOk s) (ha : AtSet s.2.2 old s.2.2.length k true) (ho : s.2.2[k]? = some o) : swS old node s = (s.1, s.2.1, s.2.2.set k (sw old node o)) := by
  obtain ⟨a, o', b, c⟩ := ha.1 rfl
  rw [ho] at b
  injection b with b
  subst b
  unfold swS
  refine congrArg (fun z => (s.1, s.2.1, z)) ?_
  apply List.ext_getElem?
  intro i
  rw [List.getElem?_map]
  by_cases hi : i = k
  · subst hi
    rw [List.getElem?_set_self a, ho]
    show some (swO old node o) = _
    rw [swO_yes c]
  · rw [List.getElem?_set_ne (fun e => hi e.symm)]
    cases hq : s.2.2[i]? with
    | none => rfl
    | some q =>
      show some (swO old node q) = some q
      rw [swO_no]
      intro hm
      have hs := h.2.2.2.2
      rcases Nat.lt_or_gt_of_ne hi with h3 | h3
      · exact absurd hm ((hs k o ho).2.2.2.2 i q h3 hq old c)
      · exact absurd c ((hs i q hq).2.2.2.2 k o h3 ho old hm)
theorem swS_none {old node k : Nat} {s : Stp} (ha : AtSet s.2.2 old s.2.2.length k false) : swS old node s = s := by
  unfold swS
  have e : s.2.2.map (swO old node) = s.2.2 := by
    conv => rhs; rw [← List.map_id s.2.2]
    refine List.map_congr_left fun o ho => ?_
    obtain ⟨j, hj⟩ := List.getElem?_of_mem ho
    exact swO_no ((ha.2 rfl).2 j o (List.getElem?_eq_some_iff.1 hj).1 hj)
  rw [e]
theorem set_rpl {o : List Nat} {old node i : Nat} (h : o.Pairwise (· < ·)) (hi : o[i]? = some old) : o.set i node = o.map (rpl old node) := by
  apply List.ext_getElem?
  intro j
  rw [List.getElem?_map]
  obtain ⟨hil, hie⟩ := List.getElem?_eq_some_iff.1 hi
  by_cases hj : j = i
  · subst hj
    rw [List.getElem?_set_self hil, hi]
    show some node = some (rpl old node old)
    unfold rpl
    rw [if_pos rfl]
  · rw [List.getElem?_set_ne (fun e => hj e.symm)]
    cases hq : o[j]? with
    | none => rfl
    | some q =>
      show some q = some (rpl old node q)
      unfold rpl
      rw [if_neg]
      intro e
      obtain ⟨hjl, hje⟩ := List.getElem?_eq_some_iff.1 hq
      rcases Nat.lt_or_gt_of_ne hj with h3 | h3
      · have := List.pairwise_iff_getElem.1 h j i hjl hil h3; omega
      · have := List.pairwise_iff_getElem.1 h i j hil hjl h3; omega
theorem sw_set {o r : List Nat} {old node i : Nat} (h : o.Pairwise (· < ·)) (hi : o[i]? = some old) (hp : r.Perm (o.set i node)) (hs : r.Pairwise (· ≤ ·)) : r = sw old node o :=
  SwOf.eq ⟨by rw [set_rpl h hi] at hp; exact hp, hs⟩
/-- Where a number is put into a rising row. -/
def InsAt (x : Nat) (out : List Nat) (a : Nat) : Prop := a ≤ out.length ∧ (∀ (j y : Nat), j < a → out[j]? = some y → y < x) ∧ ∀ y, out[a]? = some y → x ≤ y
theorem ins_sorted {x a : Nat} {out : List Nat} (hs : out.Pairwise (· ≤ ·)) (h : InsAt x out a) : (out.take a ++ [x] ++ out.drop a).Pairwise (· ≤ ·) := by
  have hp := List.pairwise_iff_getElem.1 hs
  have hlow : ∀ y ∈ out.take a, y < x := fun y hy => by
    obtain ⟨j, hj, rfl⟩ := List.mem_iff_getElem.1 hy
    rw [List.length_take] at hj
    rw [List.getElem_take]
    exact h.2.1 j _ (by omega) (List.getElem?_eq_getElem (by omega))
  have hhigh : ∀ y ∈ out.drop a, x ≤ y := fun y hy => by
    obtain ⟨j, hj, rfl⟩ := List.mem_iff_getElem.1 hy
    rw [List.length_drop] at hj
    rw [List.getElem_drop]
    have h0 := h.2.2 out[a] (List.getElem?_eq_getElem (by omega))
    rcases Nat.eq_zero_or_pos j with hj0 | hj0
    · subst hj0; exact h0
    · exact Nat.le_trans h0 (hp a (a + j) (by omega) (by omega) (by omega))
  rw [List.append_assoc, List.pairwise_append]
  refine ⟨hs.sublist (List.take_sublist _ _), ?_, fun y hy z hz => ?_⟩
  · rw [List.singleton_append, List.pairwise_cons]
    exact ⟨hhigh, hs.sublist (List.drop_sublist _ _)⟩
  · rw [List.singleton_append, List.mem_cons] at hz
    have h1 := hlow y hy
    rcases hz with rfl | hz
    · omega
    · have := hhigh z hz; omega
theorem ins_perm (x a : Nat) (out : List Nat) : (out.take a ++ [x] ++ out.drop a).Perm (out ++ [x]) := by
  rw [List.append_assoc]
  refine (List.perm_append_comm_assoc _ _ _).trans ?_
  rw [List.take_append_drop]
  exact List.perm_append_comm
theorem swOf_zero (old node : Nat) : SwOf old node [] [] := ⟨List.Perm.refl _, List.Pairwise.nil⟩
theorem swOf_succ {old node x y a : Nat} {o out : List Nat} {k : Nat} (h : SwOf old node (o.take k) out) (hx : o[k]? = some x) (hy : y = rpl old node x) (ha : InsAt y out a) : SwOf old node (o.take (k + 1)) (out.take a ++ [y] ++ out.drop a) := by
  refine ⟨(ins_perm y a out).trans ?_, ins_sorted h.2 ha⟩
  have e : o.take (k + 1) = o.take k ++ [x] := by rw [List.take_add_one, hx]; rfl
  rw [e, List.map_append, hy]
  exact h.1.append (List.Perm.refl _)
/-! ### What comes of it -/
open Classical in
noncomputable def swapP (p : Prj) (old node : Nat) : Prj × Int :=
  if POk p then if Met p.2 old then if EOk (p.1 + 1) then if POk (p.1 + 1, swL old node p.2) then ((p.1 + 1, swL old node p.2), 0) else ((0, []), 3) else ((0, []), 18) else ((0, []), 16) else ((0, []), 3)
section
variable {p : Prj} {old node : Nat}
theorem swapP_no (h : ¬ POk p) : swapP p old node = ((0, []), 3) := by unfold swapP; rw [if_neg h]
theorem swapP_16 (h : POk p) (h2 : ¬ Met p.2 old) : swapP p old node = ((0, []), 16) := by unfold swapP; rw [if_pos h, if_neg h2]
theorem swapP_18 (h : POk p) (h2 : Met p.2 old) (h4 : ¬ EOk (p.1 + 1)) : swapP p old node = ((0, []), 18) := by unfold swapP; rw [if_pos h, if_pos h2, if_neg h4]
theorem swapP_3 (h : POk p) (h2 : Met p.2 old) (h4 : EOk (p.1 + 1)) (h5 : ¬ POk (p.1 + 1, swL old node p.2)) : swapP p old node = ((0, []), 3) := by unfold swapP; rw [if_pos h, if_pos h2, if_pos h4, if_neg h5]
theorem swapP_0 (h : POk p) (h2 : Met p.2 old) (h4 : EOk (p.1 + 1)) (h5 : POk (p.1 + 1, swL old node p.2)) : swapP p old node = ((p.1 + 1, swL old node p.2), 0) := by unfold swapP; rw [if_pos h, if_pos h2, if_pos h4, if_pos h5]
theorem swapP_ways (p : Prj) (old node : Nat) : (∃ cd : Int, cd ≠ 0 ∧ swapP p old node = ((0, []), cd)) ∨ (POk p ∧ Met p.2 old ∧ POk (p.1 + 1, swL old node p.2) ∧ swapP p old node = ((p.1 + 1, swL old node p.2), 0)) := by
  by_cases h1 : POk p
  · by_cases h2 : Met p.2 old
    · by_cases h4 : EOk (p.1 + 1)
      · by_cases h5 : POk (p.1 + 1, swL old node p.2)
        · exact .inr ⟨h1, h2, h5, swapP_0 h1 h2 h4 h5⟩
        · exact .inl ⟨3, by decide, swapP_3 h1 h2 h4 h5⟩
      · exact .inl ⟨18, by decide, swapP_18 h1 h2 h4⟩
    · exact .inl ⟨16, by decide, swapP_16 h1 h2⟩
  · exact .inl ⟨3, by decide, swapP_no h1⟩
/-- Swapped back: the same stripes, or no further epoch. -/
theorem swapP_back {e : Nat} {l : List Stp} (h : POk (e, l)) (hm : Met l old) (h5 : POk (e + 1, swL old node l)) (hn : ¬ Met l node) :
    (∃ e2, swapP (e + 1, swL old node l) node old = ((e2, l), 0)) ∨ swapP (e + 1, swL old node l) node old = ((0, []), 18) := by
  have hb := swL_back (old := old) h hn
  by_cases h4 : EOk (e + 1 + 1)
  · refine .inl ⟨e + 1 + 1, ?_⟩
    have h0 := swapP_0 (p := (e + 1, swL old node l)) (old := node) (node := old) h5 (met_swL hm) h4 (by dsimp only; rw [hb]; exact pOk_e h h4)
    rw [h0]
    dsimp only
    rw [hb]
  · exact .inr (swapP_18 (p := (e + 1, swL old node l)) h5 (met_swL hm) h4)
end
end Go.Proofs.Ytmdgmnaaopineaa
/- The walks of the reference's Right of a projection, and whether stripes are too many. -/
namespace Go.Proofs.Ytmdgmnaaopineaa
open Go.ChangeShapes Go.WideShapes Go.ChangeAt Go.RowKit
set_option linter.unusedVariables false
theorem startOf_pos {l : List Stp} {k : Nat} {s : Stp} (hk : 0 < k) (h : l[k - 1]? = some s) : startOf l k = s.2.1 := by
  obtain ⟨j, rfl⟩ : ∃ j, k = j + 1 := ⟨k - 1, by omega⟩
  exact startOf_succ h

set_option maxRecDepth 100000 in
set_option maxHeartbeats 4000000 in
theorem rpright_any {D : Dom} {A : Option Addr} {n c e : Nat} {l : List Stp} {w : World} (hs : rpStp.sl w D A n c l) (hD : ∀ k, D k → k < w.heap.size) (he : e ≤ 18446744073709551615) :
    Calls Try.prog 29 #[.agg (prjV e A n c)] w fun en w' => en = .returned (.bool (dec (POk (e, l)))) ∧ Below w.heap.size w w' := by
  obtain ⟨hlen, hnc, hcm⟩ := Rp.sl_len hs
  unfold maxLen at hcm
  subst hlen
  have hb0 : Below w.heap.size w (w.alloc (.cells (prjV e A l.length c) 25)) := (Below.refl _ _).alloc (Nat.le_refl _) _
  have HS := Lib.hid (Rp.sl_below hs hb0 hD)
  have HB0 := Lib.hid hb0
  have HD := Lib.hid (fun k hk => Nat.lt_of_lt_of_le (hD k hk) hb0.size)
  have HK := Lib.hid (Blk.new w 25 (prjV e A l.length c))
  clear hs hD hb0
  have her := fun w => reright_any e w he
  cases hq : dec (EOk e)
  · rw [hq] at her
    have HE := Lib.hid her
    rw [dec_false (fun h : POk (e, l) => of_not_dec hq h.1.1.1)]
    clear her hq
    go_enter Try.func29, Try.ntmps29
    go_wp2_with fail
    refine (HE.out _).mono ?_; rintro en w1 ⟨rfl, rfl⟩
    go_wp2_with fail
    go_ret
    exact ⟨rfl, HB0.out⟩
  rw [hq] at her
  have HE := Lib.hid her
  have HEO := Lib.hid (of_dec hq)
  clear her hq
  by_cases hpre : 1 ≤ l.length ∧ l.length ≤ 64
  case neg =>
    rw [dec_false (fun h : POk (e, l) => hpre h.1.1.2)]
    have hc : l.length < 1 ∨ (1 ≤ l.length ∧ 64 < l.length) := by omega
    clear hpre
    rcases hc with d1 | ⟨d1, d2⟩
    all_goals
      go_enter Try.func29, Try.ntmps29
      go_wp2_with fail
      refine (HE.out _).mono ?_; rintro en w1 ⟨rfl, rfl⟩
      go_wp2_with fail
      go_ret
      exact ⟨rfl, HB0.out⟩
  obtain ⟨d1, d2⟩ := hpre
  have v1 : decide ((l.length : Int) < 1) = false := by simp; omega
  have v2 : decide ((64 : Int) < (l.length : Int)) = false := by simp; omega
  have HP0 : Hid (PUpTo (e, l) 0) := ⟨⟨HEO.out, d1, d2⟩, fun i s h => by omega⟩
  obtain ⟨b0, off0, s0, A0, c0, rfl, hb0, hs0, g00, g01, g02, _, hs01, hs02⟩ := stps_at HS.out (show 0 < l.length by omega)
  rw [Nat.zero_mul, Nat.add_zero] at g00
  have HS0 := Lib.hid hs0
  clear hs0 g01 g02 hb0
  obtain ⟨f0, hf0⟩ : ∃ f0, f0 = s0.1 := ⟨_, rfl⟩
  rw [← hf0] at g00 hs01
  have HF0 := Lib.hid hf0
  clear hf0
  by_cases hz : f0 = 0
  case neg =>
    have hn : ((f0 : Int) != 0) = true := by simp; omega
    have hno := Lib.hid (show ¬ POk (e, l) from fun h => hz (by
      have := (h.1.2 0 s0 (List.getElem?_eq_some_iff.1 HS0.out).1 HS0.out).2
      rw [HF0.out]; exact this))
    rw [dec_false hno.out]
    clear hz
    go_enter Try.func29, Try.ntmps29
    go_wp2_with fail
    refine (HE.out _).mono ?_; rintro en w1 ⟨rfl, rfl⟩
    go_wp2_with fail
    go_ret
    exact ⟨rfl, HB0.out⟩
  subst hz
  obtain ⟨b1, off1, s1, A1, c1, hA1, hb1, hs1, g10, g11, g12, _, hs11, hs12⟩ := stps_at HS.out (show l.length - 1 < l.length by omega)
  injection hA1 with hA1
  injection hA1 with hA1 hA2
  subst hA1; subst hA2
  have HS1 := Lib.hid hs1
  clear hs1 g10 g12 hb1
  obtain ⟨t1, ht1⟩ : ∃ t1, t1 = s1.2.1 := ⟨_, rfl⟩
  rw [← ht1] at g11 hs12
  have HT1 := Lib.hid ht1
  have hn1 : ((l.length : Int) - 1).toNat = l.length - 1 := by omega
  have hn2 : ((l.length - 1 : Nat) : Int) = (l.length : Int) - 1 := by omega
  clear ht1
  by_cases hz : t1 = 4611686018427387904
  case neg =>
    have hn : ((t1 : Int) != 4611686018427387904) = true := by simp; omega
    have hno := Lib.hid (show ¬ POk (e, l) from fun h => hz (by
      have := h.2
      rw [startOf_pos (by exact d1) HS1.out] at this
      rw [HT1.out]; exact this))
    rw [dec_false hno.out]
    clear hz
    go_enter Try.func29, Try.ntmps29
    go_wp2_with fail
    refine (HE.out _).mono ?_; rintro en w1 ⟨rfl, rfl⟩
    go_wp2_with fail
    go_ret
    exact ⟨rfl, HB0.out⟩
  have hn : ((t1 : Int) != 4611686018427387904) = false := by simp; omega
  have HZ := Lib.hid hz
  clear hz
  go_enter Try.func29, Try.ntmps29
  go_wp2_with fail
  refine (HE.out _).mono ?_; rintro en w1 ⟨rfl, rfl⟩
  go_wp2_with fail
  clear g00 g11 hn1 hn2
  generalize World.alloc w _ = w0 at *
  have hz0 := HB0.out.size
  have hkl := (show Blk _ _ _ _ from HK.out).lt
  go_loopw [4] (fun i wr => ∃ (k : Nat), k ≤ l.length ∧ i = .int .i64 k ∧ Hid (PUpTo (e, l) k) ∧ Below w0.heap.size w0 wr) (fun i _ => l.length - (intOf i).toNat)
  case atStart => exact ⟨0, by omega, rfl, HP0, Below.refl _ _⟩
  case round =>
    obtain ⟨k, hk, rfl, hup, hbr⟩ := hrel
    have HBR := Lib.hid hbr
    have hzr := hbr.size
    by_cases hkn : k < l.length
    · obtain ⟨b, off, s, A2, c2, hA, hb, hsk, g0, g1, g2, hrow, hs1, hs2⟩ := stps_at (Rp.sl_below HS.out hbr HD.out) hkn
      injection hA with hA
      injection hA with hA hA2
      subst hA; subst hA2
      have hbl : b0 < wr.heap.size := Nat.lt_of_lt_of_le (HD.out _ hb) hzr
      have HSK := Lib.hid hsk
      have HR := Lib.hid hrow
      have hdk : decide ((k : Int) < (l.length : Int)) = true := by simp; omega
      obtain ⟨sf, hsf⟩ : ∃ sf, sf = s.1 := ⟨_, rfl⟩
      obtain ⟨st, hst2⟩ : ∃ st, st = s.2.1 := ⟨_, rfl⟩
      obtain ⟨sn, hsn⟩ : ∃ sn, sn = s.2.2.length := ⟨_, rfl⟩
      rw [← hsf] at g0 hs1
      rw [← hst2] at g1 hs2
      rw [← hsn] at g2
      have HSF := Lib.hid hsf
      have HST := Lib.hid hst2
      have HSN := Lib.hid hsn
      have gq0 : ∀ q : Gr wr.heap.size wr, q.val.cell? ⟨b0, off0 + k * 3, none⟩ = some (.int .u64 (sf : Int)) := fun q => (q.is.cell (p := ⟨b0, off0 + k * 3, none⟩) hbl).trans g0
      have gq1 : ∀ q : Gr wr.heap.size wr, q.val.cell? ⟨b0, off0 + k * 3 + 1, none⟩ = some (.int .u64 (st : Int)) := fun q => (q.is.cell (p := ⟨b0, off0 + k * 3 + 1, none⟩) hbl).trans g1
      have gq2 : ∀ q : Gr wr.heap.size wr, q.val.cell? ⟨b0, off0 + k * 3 + 2, none⟩ = some (.slice A2 sn c2) := fun q => (q.is.cell (p := ⟨b0, off0 + k * 3 + 2, none⟩) hbl).trans g2
      have hbk := HK.out.below hbr hkl
      have gqk : ∀ q : Gr wr.heap.size wr, q.val.cell? ⟨w.heap.size, 1, none⟩ = some (.slice (some ⟨b0, off0, none⟩) l.length c) := fun q => (Blk.below hbk q.is hbk.lt).cell 1
      have hrt : ∀ q : Gr wr.heap.size wr, _ := fun q => rright_any (f := s.1) (t := s.2.1) (Rp.sl_below HR.out q.is (fun k hk => Nat.lt_of_lt_of_le (HD.out k hk) hzr)) (fun k hk => Nat.lt_of_lt_of_le (Nat.lt_of_lt_of_le (HD.out k hk) hzr) q.is.size) (by rw [← HSF.out]; omega) (by rw [← HST.out]; omega)
      rw [← HSF.out, ← HST.out, ← HSN.out] at hrt
      have hk0 : (0 : Int) ≤ (k : Int) := by omega
      have hk1 : (k : Int) < (l.length : Int) := by omega
      clear hsk hrow hbr hsf hst2 hsn hbk g0 g1 g2
      cases hq : dec (SOk (sf, st, s.2.2))
      · rw [hq] at hrt
        have HRT := Lib.hid hrt
        have hno := Lib.hid (show ¬ POk (e, l) from fun h => of_not_dec hq (by
          have := (h.1.2 k s (List.getElem?_eq_some_iff.1 HSK.out).1 HSK.out).1
          rw [HSF.out, HST.out]; exact this))
        clear hrt hq
        go_wp2_with fail
        refine wp_region_grow (by kernel_rfl) (by kernel_rfl) wr.heap.size ?_
        repeat (first | go_big_quiet_step (((go_at_call 46; exact Gr.call _ (Nat.le_refl _) (HRT.out _)))) | quiet_step (((go_at_call 46; exact Gr.call _ (Nat.le_refl _) (HRT.out _)))))
        refine wpQuiet_nil ?_
        rintro w3 ⟨⟨_, hb3⟩, rfl⟩
        clear gq0 gq1 gq2 gqk
        go_wp2_with fail
        go_ret
        rw [dec_false hno.out]
        exact ⟨rfl, HB0.out.trans ((HBR.out.trans (hb3.mono hzr)).mono hz0)⟩
      · rw [hq] at hrt
        have HRT := Lib.hid hrt
        have HOK := Lib.hid (of_dec hq)
        clear hrt hq
        by_cases hkz : k = 0
        · have hd0 : decide (0 < k) = false := by simp; omega
          have hd1 : decide ((0 : Int) < (k : Int)) = false := by simp; omega
          have HKZ := Lib.hid hkz
          clear hkz
          go_wp2_with fail
          refine wp_region_grow (by kernel_rfl) (by kernel_rfl) wr.heap.size ?_
          repeat (first | go_big_quiet_step (((go_at_call 46; exact Gr.call _ (Nat.le_refl _) (HRT.out _)))) | quiet_step (((go_at_call 46; exact Gr.call _ (Nat.le_refl _) (HRT.out _)))))
          refine wpQuiet_nil ?_
          rintro w3 ⟨⟨_, hb3⟩, rfl⟩
          clear gq0 gq1 gq2 gqk
          go_wp2_with fail
          go_roundw
          case rel =>
            refine ⟨k + 1, by omega, by go_num, (pUpTo_succ HSK.out).2 ⟨hup.out, ?_, ?_⟩, HBR.out.trans (hb3.mono hzr)⟩
            · have := HOK.out
              rw [HSF.out, HST.out] at this
              exact this
            · have h0 := HS0.out
              rw [← HKZ.out, HSK.out] at h0
              injection h0 with h0
              rw [h0, HKZ.out, ← HF0.out]; rfl
          case measure => simp [intOf]; omega
        · have hd0 : decide (0 < k) = true := by simp; omega
          have hd1 : decide ((0 : Int) < (k : Int)) = true := by simp; omega
          obtain ⟨b9, off9, s9, A9, c9, hA9, hb9, hs9, g90, g91, g92, _, hs91, hs92⟩ := stps_at (Rp.sl_below HS.out HBR.out HD.out) (show k - 1 < l.length by omega)
          injection hA9 with hA9
          injection hA9 with hA9 hA99
          subst hA9; subst hA99
          obtain ⟨t9, ht9⟩ : ∃ t9, t9 = s9.2.1 := ⟨_, rfl⟩
          rw [← ht9] at g91 hs92
          have HT9 := Lib.hid ht9
          have HS9 := Lib.hid hs9
          have gq9 : ∀ q : Gr wr.heap.size wr, q.val.cell? ⟨b0, off0 + (k - 1) * 3 + 1, none⟩ = some (.int .u64 (t9 : Int)) := fun q => (q.is.cell (p := ⟨b0, off0 + (k - 1) * 3 + 1, none⟩) hbl).trans g91
          have m1 : IntKind.i64.wrap ((k : Int) - 1) = (k : Int) - 1 := IntWalk.i64_in _ (by omega)
          have m2 : (0 : Int) ≤ (k : Int) - 1 := by omega
          have m3 : (k : Int) - 1 < (l.length : Int) := by omega
          have m4 : ((k : Int) - 1).toNat = k - 1 := by omega
          have HKZ := Lib.hid (show 0 < k by omega)
          clear hkz ht9 hs9 g90 g91 g92
          by_cases hne : sf = t9
          · have hdn : ((sf : Int) != (t9 : Int)) = false := by simp; omega
            have HNE := Lib.hid hne
            clear hne
            go_wp2_with fail
            refine wp_region_grow (by kernel_rfl) (by kernel_rfl) wr.heap.size ?_
            repeat (first | go_big_quiet_step (((go_at_call 46; exact Gr.call _ (Nat.le_refl _) (HRT.out _)))) | quiet_step (((go_at_call 46; exact Gr.call _ (Nat.le_refl _) (HRT.out _)))))
            refine wpQuiet_nil ?_
            rintro w3 ⟨⟨_, hb3⟩, rfl⟩
            clear gq0 gq1 gq2 gqk gq9 m1 m4
            go_wp2_with fail
            go_roundw
            case rel =>
              refine ⟨k + 1, by omega, by go_num, (pUpTo_succ HSK.out).2 ⟨hup.out, ?_, ?_⟩, HBR.out.trans (hb3.mono hzr)⟩
              · have := HOK.out
                rw [HSF.out, HST.out] at this
                exact this
              · show s.1 = startOf l k
                rw [← HSF.out, startOf_pos HKZ.out HS9.out, HNE.out, HT9.out]
            case measure => simp [intOf]; omega
          · have hdn : ((sf : Int) != (t9 : Int)) = true := by simp; omega
            have hno := Lib.hid (show ¬ POk (e, l) from fun h => hne (by
              have := (h.1.2 k s (List.getElem?_eq_some_iff.1 HSK.out).1 HSK.out).2
              rw [startOf_pos HKZ.out HS9.out] at this
              rw [HSF.out, HT9.out]; exact this))
            clear hne
            go_wp2_with fail
            refine wp_region_grow (by kernel_rfl) (by kernel_rfl) wr.heap.size ?_
            repeat (first | go_big_quiet_step (((go_at_call 46; exact Gr.call _ (Nat.le_refl _) (HRT.out _)))) | quiet_step (((go_at_call 46; exact Gr.call _ (Nat.le_refl _) (HRT.out _)))))
            refine wpQuiet_nil ?_
            rintro w3 ⟨⟨_, hb3⟩, rfl⟩
            clear gq0 gq1 gq2 gqk gq9 m1 m4
            go_wp2_with fail
            go_ret
            rw [dec_false hno.out]
            exact ⟨rfl, HB0.out.trans ((HBR.out.trans (hb3.mono hzr)).mono hz0)⟩
    · obtain rfl : k = l.length := by omega
      have hdk : decide ((l.length : Int) < (l.length : Int)) = false := by simp
      clear hbr
      have hyes := Lib.hid (show POk (e, l) from ⟨hup.out, by
        show startOf l l.length = _
        rw [startOf_pos (by omega) HS1.out, ← HT1.out]; exact HZ.out⟩)
      go_wp2_with fail
      go_ret
      rw [dec_true hyes.out]
      exact ⟨rfl, HB0.out.trans (HBR.out.mono hz0)⟩

def AnyBool (w : World) (e : Ending) (w' : World) : Prop := ∃ b : Bool, e = .returned (.bool b) ∧ Below w.heap.size w w'
theorem plong_any {D : Dom} {A : Option Addr} {n c e : Nat} {l : List Stp} {w : World} (hs : rpStp.sl w D A n c l) (hD : ∀ k, D k → k < w.heap.size) :
    Calls Try.prog 16 #[.agg (prjV e A n c)] w (AnyBool w) := by
  obtain ⟨hlen, hnc, hcm⟩ := Rp.sl_len hs
  unfold maxLen at hcm
  subst hlen
  have hb0 : Below w.heap.size w (w.alloc (.cells (prjV e A l.length c) 25)) := (Below.refl _ _).alloc (Nat.le_refl _) _
  have HS := Lib.hid (Rp.sl_below hs hb0 hD)
  have HB0 := Lib.hid hb0
  have HD := Lib.hid (fun k hk => Nat.lt_of_lt_of_le (hD k hk) hb0.size)
  have HK := Lib.hid (Blk.new w 25 (prjV e A l.length c))
  clear hs hD hb0
  go_enter Try.func16, Try.ntmps16
  go_wp2_with fail
  generalize World.alloc w _ = w0 at *
  have hz0 := HB0.out.size
  have hkl := (show Blk _ _ _ _ from HK.out).lt
  go_loopw [3] (fun i wr => ∃ k : Nat, k ≤ l.length ∧ k ≤ 70 ∧ i = .int .i64 k ∧ Below w0.heap.size w0 wr) (fun i _ => l.length - (intOf i).toNat)
  case atStart => exact ⟨0, by omega, by omega, rfl, Below.refl _ _⟩
  case round =>
    obtain ⟨k, hk, hk70, rfl, hbr⟩ := hrel
    have HBR := Lib.hid hbr
    have hzr := hbr.size
    have hbk := HK.out.below hbr hkl
    have gk : wr.cell? ⟨w.heap.size, 1, none⟩ = some (.slice A l.length c) := hbk.cell 1
    clear hbk
    by_cases hin : k < l.length ∧ k < 70
    · obtain ⟨h1, h2⟩ := hin
      obtain ⟨b, off, s, A2, c2, rfl, hb, hsk, g0, g1, g2, hrow, hs1, hs2⟩ := stps_at (Rp.sl_below HS.out hbr HD.out) h1
      have HR := Lib.hid hrow
      have hd1 : decide ((k : Int) < (l.length : Int)) = true := by simp; omega
      have hd2 : decide ((k : Int) < 70) = true := by simp; omega
      clear hrow hsk hbr
      go_wp2_with fail
      refine (long_any HR.out (fun k hk => Nat.lt_of_lt_of_le (HD.out k hk) hzr)).mono ?_; rintro en w1 ⟨bb, rfl, _, hb1⟩
      clear g0 g1 g2 gk
      cases bb
      · go_wp2_with fail
        go_roundw
        case rel => exact ⟨k + 1, by omega, by omega, by go_num, HBR.out.trans (hb1.mono hzr)⟩
        case measure => simp [intOf]; omega
      · go_wp2_with fail
        go_ret
        exact ⟨true, rfl, HB0.out.trans ((HBR.out.trans (hb1.mono hzr)).mono hz0)⟩
    · have hc : k = l.length ∨ (k < l.length ∧ k = 70) := by omega
      clear hin hbr
      rcases hc with rfl | ⟨h1, rfl⟩
      · have hd1 : decide ((l.length : Int) < (l.length : Int)) = false := by simp
        go_wp2_with fail
        go_ret
        exact ⟨_, rfl, HB0.out.trans (HBR.out.mono hz0)⟩
      · have hd1 : decide ((70 : Int) < (l.length : Int)) = true := by simp; omega
        go_wp2_with fail
        go_ret
        exact ⟨_, rfl, HB0.out.trans (HBR.out.mono hz0)⟩
end Go.Proofs.Ytmdgmnaaopineaa
/- ref20.copied and ref20.ends. -/
namespace Go.Proofs.Ytmdgmnaaopineaa
open Go.ChangeShapes Go.WideShapes Go.ChangeAt Go.RowKit
set_option linter.unusedVariables false
theorem LL.mono {w : World} {base base' n c : Nat} {A : Option Addr} {sets : List (List Nat)} (h : LL w base A n c sets) (hb : base' ≤ base) : LL w base' A n c sets := by
  obtain ⟨vals, ho, hn, hi⟩ := h
  refine ⟨vals, own_mono ho hb, hn, fun i x hx => ?_⟩
  obtain ⟨⟨A', c', hv, hw⟩, h64⟩ := hi i x hx
  exact ⟨⟨A', c', hv, own_mono hw hb⟩, h64⟩
section
variable {D : Dom} {A : Option Addr} {n c e e2 : Nat} {l : List Stp} {w : World}
set_option maxRecDepth 100000 in
set_option maxHeartbeats 4000000 in
theorem rcopied_any (hs : rpStp.sl w D A n c l) (hD : ∀ k, D k → k < w.heap.size) (hn : n ≤ 1000) (hl : ∀ s ∈ l, s.2.2.length ≤ 1000 ∧ ∀ (j : Nat) x, s.2.2[j]? = some x → x.length ≤ 1000) (he : e2 = e + 1) (he2 : e2 ≤ 18446744073709551615) :
    Calls Try.prog 88 #[.agg (prjV e A n c)] w fun en w' => ∃ A2 c2, en = .returned (.agg (prjV e2 A2 n c2)) ∧ OS w' w.heap.size A2 n c2 l ∧ Below w.heap.size w w' := by
  have H : Hid ((Try.prog.info? 25).map (·.size) = some 2) := by unfold Hid; kernel_rfl
  have hlen := (Rp.sl_len hs).1
  have HZ := Lib.hid (below3 w (.cells (prjV e A n c) 25) (.cells (prjV 0 none 0 0) 25) (.cells (prjV e2 none 0 0) 25))
  have HK := Lib.hid ((blk21 w 25 25 (prjV e A n c) (prjV 0 none 0 0)).alloc (.cells (prjV e2 none 0 0) 25))
  have HR := Lib.hid ((blk22 w 25 25 (prjV e A n c) (prjV 0 none 0 0)).alloc (.cells (prjV e2 none 0 0) 25))
  have HO : Hid (Blk (((w.alloc (.cells (prjV e A n c) 25)).alloc (.cells (prjV 0 none 0 0) 25)).alloc (.cells (prjV e2 none 0 0) 25)) (w.heap.size + 1 + 1) 25 (prjV e2 none 0 0)) := Blk.newAt (by rw [size_alloc, size_alloc]) _ _
  have HS := Lib.hid (show Sl rpStp w D A n c l from ⟨hs, hD⟩)
  have HN := Lib.hid hlen
  have HLE := Lib.hid hl
  have s0 : IntKind.u64.wrap ((e : Int) + 1) = (e2 : Int) := by rw [IntWalk.u64_in _ (by omega)]; omega
  clear hs hD hlen hl he
  go_enter Try.func88, Try.ntmps88
  go_wp2_with fail
  generalize World.alloc (World.alloc (World.alloc w _) _) _ = w0 at *
  go_loopw [4] (fun i wr => ∃ (k : Nat) (As : Option Addr) (cs : Nat), k ≤ n ∧ i = .int .i64 k ∧ Hid (OS wr w.heap.size As k cs (l.take k)) ∧ Hid (Blk wr w.heap.size 25 (prjV e A n c)) ∧ Hid (Blk wr (w.heap.size + 1) 25 (prjV 0 none 0 0)) ∧ Hid (Blk wr (w.heap.size + 1 + 1) 25 (prjV e2 As k cs)) ∧ Hid (Below w.heap.size w wr)) (fun i _ => n - (intOf i).toNat)
  case atStart => exact ⟨0, none, 0, by omega, rfl, OL.nil _ _ _ _ _ _, HK.out, HR.out, HO.out, HZ.out⟩
  case round =>
    clear HK HR HZ HO
    obtain ⟨k, As, cs, hk, rfl, hll, hkb, hkr, hko, hbel⟩ := hrel
    obtain ⟨wo, hwo⟩ : ∃ wo, wo = wr := ⟨_, rfl⟩
    subst hwo
    have hzr := hbel.out.size
    have hlto := (show Blk wo (w.heap.size + 1 + 1) 25 _ from hko.out).lt
    by_cases hkn : k < n
    case neg =>
      obtain rfl : k = n := by omega
      have hd : decide ((k : Int) < (k : Int)) = false := by simp
      have k1 := (show Blk wo w.heap.size 25 _ from hkb.out).cell 1
      have o0 := (show Blk wo (w.heap.size + 1 + 1) 25 _ from hko.out).cell 0
      have o1 := (show Blk wo (w.heap.size + 1 + 1) 25 _ from hko.out).cell 1
      have HE : Hid (l.take k = l) := List.take_of_length_le (by rw [HN.out]; exact Nat.le_refl _)
      go_wp2_with (refine wpList_put_row rfl 25 (.tmp 2) (.tmp 66) rfl (w.heap.size + 1) (prjV e2 As k cs) rfl rfl 25 _ (show Blk _ _ _ _ from hkr.out) H.out rfl (by simp [Value.oneCell']) ?_; intro w9 hblk hgr)
      have hl9 := (show OS wo w.heap.size As k cs (l.take k) from hll.out).grown (show Blk _ _ _ _ from hkr.out) id tss_prj (by decide) hgr
      rw [HE.out] at hl9
      exact bodyPost_ret (results_cell_row rfl _ _ (w.heap.size + 1) 25 _ (0, 0) _ rfl hblk Try.underlying25 rfl H.out) rfl ⟨As, cs, rfl, hl9, hbel.out.grown hgr hbel.out.size (fun j hj => by injection hj with hj; omega)⟩
    case pos =>
      have hd : decide ((k : Int) < (n : Int)) = true := by simp; omega
      have hkI : (0 : Int) ≤ (k : Int) := by omega
      have hkI2 : (k : Int) < (n : Int) := by omega
      have hsr := keepS HS.out hbel.out
      obtain ⟨bo, off, s, A3, c3, rfl, hbD, hx, g0, g1, g2, hrow, hs1, hs2⟩ := stps_at hsr.1 hkn
      have hbo := hsr.2 _ hbD
      obtain ⟨sf, hsf⟩ : ∃ sf, sf = s.1 := ⟨_, rfl⟩
      obtain ⟨st, hst⟩ : ∃ st, st = s.2.1 := ⟨_, rfl⟩
      obtain ⟨ss, hss⟩ : ∃ ss, ss = s.2.2 := ⟨_, rfl⟩
      have es : s = (sf, st, ss) := by rw [hsf, hst, hss]
      rw [← hsf] at g0 hs1
      rw [← hst] at g1 hs2
      rw [← hss] at g2 hrow
      subst es
      obtain ⟨sn, hsn⟩ : ∃ sn, sn = ss.length := ⟨_, rfl⟩
      rw [← hsn] at g2 hrow
      have HSN := Lib.hid hsn
      have hle := HLE.out _ (List.mem_of_getElem? hx)
      have hsn1 : sn ≤ 1000 := by rw [hsn]; exact hle.1
      have HLS := Lib.hid hle.2
      have HRW := Lib.hid (show Sl (rpSlice rpU64) wo _ A3 sn c3 ss from ⟨hrow, hsr.2⟩)
      have HTK : Hid (l.take (k + 1) = l.take k ++ [(sf, st, ss)]) := by
        show l.take (k + 1) = l.take k ++ [(sf, st, ss)]
        rw [List.take_add_one, hx]; rfl
      have hk16 : k + 1 ≤ maxLen := by unfold maxLen; omega
      have k1 := (show Blk wo w.heap.size 25 _ from hkb.out).cell 1
      have G2 := Lib.hid g2
      clear hx hle hrow hsr hsf hst hss hsn
      go_wp2_with fail
      go_region_held3 (fun w' => w'.cell? ⟨w.heap.size, 1, none⟩ = some (.slice (some ⟨bo, off, none⟩) n c) ∧ w'.cell? ⟨bo, off + k * 3, none⟩ = some (.int .u64 (sf : Int)) ∧ w'.cell? ⟨bo, off + k * 3 + 1, none⟩ = some (.int .u64 (st : Int)) ∧ w'.cell? ⟨bo, off + k * 3 + 2, none⟩ = some (.slice A3 sn c3)) (go_keep) (fail)
      go_wp2_with fail
      have HG1 : Hid (Blk (wo.alloc (.cells (stpV sf st none 0 0) 31)).drew wo.heap.size 31 (stpV sf st none 0 0)) := blk11 _ _ _
      have HB1 : Hid (Below wo.heap.size wo (wo.alloc (.cells (stpV sf st none 0 0) 31)).drew) := (below1 wo _).drew
      generalize World.drew (World.alloc wo _) = w1 at *
      clear g0 g1 g2 k1
      go_loopw [6] (fun i wr => ∃ (j : Nat) (Ai : Option Addr) (ci : Nat), j ≤ sn ∧ i = .int .i64 j ∧ Hid (Blk wr wo.heap.size 31 (stpV sf st Ai j ci)) ∧ Hid (LL wr wo.heap.size Ai j ci (ss.take j)) ∧ Hid (Below wo.heap.size wo wr)) (fun i _ => sn - (intOf i).toNat)
      case atStart => exact ⟨0, none, 0, by omega, rfl, HG1.out, LL.nil _ _, HB1.out⟩
      case round =>
        clear HG1 HB1
        obtain ⟨j, Ai, ci, hj, rfl, hsb, hli, hbi⟩ := hrel
        have hzi := hbi.out.size
        have hlts := (show Blk wr wo.heap.size 31 _ from hsb.out).lt
        have hkbi := keepB (show Blk wo w.heap.size 25 _ from hkb.out) hbi.out
        have k1 := hkbi.cell 1
        have g2 := (hbi.out.cell (p := ⟨bo, off + k * 3 + 2, none⟩) hbo).trans G2.out
        by_cases hjn : j < sn
        case neg =>
          obtain rfl : j = sn := by omega
          have hdj : decide ((j : Int) < (j : Int)) = false := by simp
          have HTS : Hid (ss.take j = ss) := List.take_of_length_le (by rw [HSN.out]; exact Nat.le_refl _)
          have hkoi := keepB (show Blk wo (w.heap.size + 1 + 1) 25 _ from hko.out) hbi.out
          have o1 := hkoi.cell 1
          have v0 := (show Blk wr wo.heap.size 31 _ from hsb.out).cell 0
          have v1 := (show Blk wr wo.heap.size 31 _ from hsb.out).cell 1
          have v2 := (show Blk wr wo.heap.size 31 _ from hsb.out).cell 2
          have hba := below1 wr (.cells (stpV sf st Ai j ci) 31)
          have hbw := stepB hbi.out hba
          have HBW := Lib.hid hbw
          obtain ⟨vals, hov, hln, hvi⟩ := (show OS wo w.heap.size As k cs (l.take k) from hll.out).below hbw
          have HOV := Lib.hid hov
          have HVI := Lib.hid hvi
          have HLN := Lib.hid hln
          have hlit := (show LL wr wo.heap.size Ai j ci (ss.take j) from hli.out).below hba
          rw [HTS.out] at hlit
          have HX5 := Lib.hid (stp_ok hs1 hs2 (LL.tb (D0 := fun _ => False) hlit))
          have HSR := Lib.hid (Src.blk (size := rpStp.size) (blk11 wr 31 (stpV sf st Ai j ci)) (by kernel_rfl) (by simp [Value.oneCell']))
          have HKO7 := Lib.hid (keepB hkoi hba)
          clear hba hbw hov hvi hln hlit hkoi hkbi
          go_wp2_with (at_builtin; refine wpList_app rfl (.tmp 61) (.tmp 63) _ rfl elemStp rfl HOV.out rfl HSR.out hk16 (by omega) (by simp; omega) ?_; intro A6 c6 w6 ho6 hg6 hat6
                       have HO6 := Lib.hid ho6
                       have HG6 := Lib.hid hg6
                       have hko6 := (show Blk (wr.alloc (.cells (stpV sf st Ai j ci) 31)) (w.heap.size + 1 + 1) 25 _ from HKO7.out).grown hg6 (Pen.ne (show Blk _ _ _ _ from HKO7.out) HOV.out (by decide))
                       have HKO6 := Lib.hid hko6
                       have q1 := hko6.cell 1
                       have q1f := hko6.frozen 1
                       clear ho6 hg6 hat6 hko6)
          have hll6 := (show OS (wr.alloc (.cells (stpV sf st Ai j ci) 31)) w.heap.size As k cs (l.take k) from ⟨vals, HOV.out, HLN.out, HVI.out⟩).push HOV.out HVI.out tss_stp (fun _ h => h.elim) HO6.out HG6.out HX5.out
          have hll7 := hll6.put (show Blk w6 (w.heap.size + 1 + 1) 25 _ from HKO6.out) id tss_prj (by decide) (a := ⟨w.heap.size + 1 + 1, 1, none⟩) rfl (.slice A6 (k + 1) c6)
          have hkb6 := (keepB (show Blk wo w.heap.size 25 _ from hkb.out) HBW.out).grown HG6.out (Pen.ne (keepB (show Blk wo w.heap.size 25 _ from hkb.out) HBW.out) HOV.out (by decide))
          have hkr6 := (keepB (show Blk wo (w.heap.size + 1) 25 _ from hkr.out) HBW.out).grown HG6.out (Pen.ne (keepB (show Blk wo (w.heap.size + 1) 25 _ from hkr.out) HBW.out) HOV.out (by decide))
          have hb6 := (stepB hbel.out HBW.out).grown HG6.out (stepB hbel.out HBW.out).size (fun j hj => (HOV.out.lt j hj).1)
          go_roundw
          case rel => exact ⟨k + 1, A6, c6, by omega, by go_num, by rw [HTK.out]; exact hll7, hkb6.far (by dsimp only; omega) _, hkr6.far (by dsimp only; omega) _, (show Blk w6 (w.heap.size + 1 + 1) 25 _ from HKO6.out).put 1 _, hb6.setCell (by dsimp only; omega) _⟩
          case measure => simp [intOf]; omega
        case pos =>
          have hdj : decide ((j : Int) < (sn : Int)) = true := by simp; omega
          have hjI : (0 : Int) ≤ (j : Int) := by omega
          have hjI2 : (j : Int) < (sn : Int) := by omega
          have hsr := keepS HRW.out hbi.out
          obtain ⟨b2, off2, x, A4, c4, rfl, hbD2, hx, hcell, hrow⟩ := rows_at hsr.1 hjn
          have hx1 := HLS.out j x hx
          obtain ⟨xn, hxn⟩ : ∃ xn, xn = x.length := ⟨_, rfl⟩
          rw [← hxn] at hcell hrow hx1
          have HXN := Lib.hid hxn
          have HSR := Lib.hid (Src.u64 hrow)
          have HLT := Lib.hid (u64_lt hrow)
          have HTS : Hid (ss.take (j + 1) = ss.take j ++ [x]) := by
            show ss.take (j + 1) = ss.take j ++ [x]
            rw [List.take_add_one, hx]; rfl
          have hmx : 0 + xn ≤ maxLen := by unfold maxLen; omega
          have hj16 : j + 1 ≤ maxLen := by unfold maxLen; omega
          have HNIL := Lib.hid (World.ownsRow_nil wr wo.heap.size 22 1)
          clear hx hrow hsr hxn hkbi
          go_wp2_with (first
            | (at_builtin; refine wpList_app rfl (.tmp 43) (.tmp 52) _ rfl elem64 rfl HNIL.out rfl HSR.out hmx (by omega) (by omega) ?_; intro A5 c5 w5 ho5 hg5 hat5
               have hb5 : Below wr.heap.size wr w5 := (Below.refl _ _).grown hg5 (Nat.le_refl _) (fun j hj => by cases hj)
               have HB5 := Lib.hid hb5
               have ho5' : w5.ownsRow wo.heap.size 22 1 (.slice A5 xn c5) xn (x.map uv) := by
                 have := ho5
                 rw [List.nil_append] at this
                 simpa using this
               have hb5a := below1 w5 (.cells #[.slice A5 xn c5] 46)
               have hsb5 := keepB (show Blk wr wo.heap.size 31 _ from hsb.out) hb5
               have q2 := hsb5.cell 2
               have HO5 := Lib.hid (keepO ho5' hb5a)
               obtain ⟨vals, hov, hln, hvi⟩ := ((show LL wr wo.heap.size Ai j ci (ss.take j) from hli.out).below hb5).below hb5a
               have HOV := Lib.hid hov
               have HVI := Lib.hid hvi
               have HLN := Lib.hid hln
               have HSB5 := Lib.hid (keepB hsb5 hb5a)
               have hz5 := hb5.size
               clear ho5 hg5 hat5 hb5 ho5' hov hvi hln hb5a hsb5)
            | (at_builtin; refine wpList_app rfl (.tmp 55) (.tmp 57) _ rfl elemSets rfl HOV.out rfl (Src.new w5 (.slice A5 xn c5) _ rfl) hj16 (by omega) (by simp; omega) ?_; intro A6 c6 w6 ho6 hg6 hat6
               have HO6 := Lib.hid ho6
               have HG6 := Lib.hid hg6
               have hsb6 := (show Blk (w5.alloc (.cells #[.slice A5 xn c5] 46)) wo.heap.size 31 _ from HSB5.out).grown hg6 (Pen.ne' (show Blk _ _ _ _ from HSB5.out) HOV.out (by decide))
               have HSB6 := Lib.hid hsb6
               have q3 := hsb6.cell 2
               have q3f := hsb6.frozen 2
               clear ho6 hg6 hat6 hsb6))
          have ho6 := HO6.out
          have ho5 := HO5.out
          rw [HXN.out] at ho5
          rw [show Value.slice A5 xn c5 = Value.slice A5 x.length c5 by rw [HXN.out]] at ho6
          have hov6 := HOV.out
          have hg6 := HG6.out
          have hl6 := (show LL (w5.alloc (.cells #[.slice A5 xn c5] 46)) wo.heap.size Ai j ci (ss.take j) from ⟨vals, HOV.out, HLN.out, HVI.out⟩).push HOV.out HVI.out ho6 HG6.out (by rw [← HXN.out] at ho5 ⊢; exact ho5) HLT.out
          have hl7 := hl6.put (show Blk w6 wo.heap.size 31 _ from HSB6.out) (by decide) (by decide) (a := ⟨wo.heap.size, 2, none⟩) rfl (.slice A6 (j + 1) c6)
          have hb6 := (stepB (stepB hbi.out HB5.out) (below1 w5 (.cells #[.slice A5 xn c5] 46))).grown HG6.out (stepB (stepB hbi.out HB5.out) (below1 w5 _)).size (fun j hj => (HOV.out.lt j hj).1)
          go_roundw
          case rel => exact ⟨j + 1, A6, c6, by omega, by go_num, (show Blk w6 wo.heap.size 31 _ from HSB6.out).put 2 _, by rw [HTS.out]; exact hl7, hb6.setCell (by dsimp only; omega) _⟩
          case measure => simp [intOf]; omega
end
section
variable {D : Dom} {A : Option Addr} {n c e : Nat} {l : List Stp} {w : World}
set_option maxRecDepth 100000 in
theorem rends_ok (hs : rpStp.sl w D A n c l) (hD : ∀ k, D k → k < w.heap.size) (hok : POk (e, l)) :
    Calls Try.prog 89 #[.agg (prjV e A n c)] w fun en w' => en = .returned (.tuple #[.agg (prjV e A n c), .int .i64 0]) ∧ Below w.heap.size w w' := by
  have H : Hid ((Try.prog.info? 25).map (·.size) = some 2) := by unfold Hid; kernel_rfl
  have hb0 := below2 w (.cells (prjV e A n c) 25) (.cells (prjV 0 none 0 0) 25)
  have HZ := Lib.hid hb0
  have HK := Lib.hid (blk21 w 25 25 (prjV e A n c) (prjV 0 none 0 0))
  have HR := Lib.hid (blk22 w 25 25 (prjV e A n c) (prjV 0 none 0 0))
  have he64 : e ≤ 18446744073709551615 := by have := hok.1.1.1.2; simp only at this; omega
  have her := fun w => reright_any e w he64
  rw [dec_true hok.1.1.1] at her
  have HE := Lib.hid her
  have hr := rpright_any (Rp.sl_below hs hb0 hD) (fun k hk => Nat.lt_of_lt_of_le (hD k hk) hb0.size) he64
  rw [dec_true hok] at hr
  have HRT := Lib.hid hr
  clear hs hD hb0 her hr hok
  go_enter Try.func89, Try.ntmps89
  go_wp2_with fail
  generalize World.alloc (World.alloc w _) _ = w0 at *
  have k0 := (show Blk w0 w.heap.size 25 _ from HK.out).cell 0
  have k1 := (show Blk w0 w.heap.size 25 _ from HK.out).cell 1
  go_wp2_with fail
  refine (HE.out _).mono ?_; rintro en w1 ⟨rfl, rfl⟩
  go_wp2_with fail
  refine HRT.out.mono ?_; rintro en w1 ⟨rfl, hb1⟩
  have HB1 := Lib.hid (stepB HZ.out hb1)
  have HR1 := Lib.hid (keepB (show Blk w0 (w.heap.size + 1) 25 _ from HR.out) hb1)
  have hk1 := keepB (show Blk w0 w.heap.size 25 _ from HK.out) hb1
  clear k0 k1
  have k0 := hk1.cell 0
  have k1 := hk1.cell 1
  clear hb1 hk1
  go_wp2_with (refine wpList_put_row rfl 25 (.tmp 2) (.tmp 13) rfl (w.heap.size + 1) _ rfl rfl 25 _ (show Blk _ _ _ _ from HR1.out) H.out rfl (by simp [Value.oneCell']) ?_; intro w5 hblk hgr)
  have hbz : Below w.heap.size w w5 := HB1.out.grown hgr HB1.out.size (fun k hk => by injection hk with hk; omega)
  have f0 := hblk.cell 0
  have f1 := hblk.cell 1
  exact bodyPost_ret (v := .tuple #[.agg (prjV e A n c), .int .i64 0]) (by simp [results, Try.results89, go_sem, f0, f1]) rfl ⟨rfl, hbz⟩
set_option maxRecDepth 100000 in
theorem rends_bad (cd : Int) (hs : rpStp.sl w D A n c l) (hD : ∀ k, D k → k < w.heap.size) (he64 : e ≤ 18446744073709551615) (hno : (¬ EOk e ∧ cd = 18) ∨ (EOk e ∧ ¬ POk (e, l) ∧ cd = 3)) :
    Calls Try.prog 89 #[.agg (prjV e A n c)] w fun en w' => en = .returned (.tuple #[.agg (prjV 0 none 0 0), .int .i64 cd]) ∧ Below w.heap.size w w' := by
  have H : Hid ((Try.prog.info? 25).map (·.size) = some 2) := by unfold Hid; kernel_rfl
  have hb0 := below2 w (.cells (prjV e A n c) 25) (.cells (prjV 0 none 0 0) 25)
  have HZ := Lib.hid hb0
  have HK := Lib.hid (blk21 w 25 25 (prjV e A n c) (prjV 0 none 0 0))
  have HR := Lib.hid (blk22 w 25 25 (prjV e A n c) (prjV 0 none 0 0))
  have her := fun w => reright_any e w he64
  have hr := rpright_any (Rp.sl_below hs hb0 hD) (fun k hk => Nat.lt_of_lt_of_le (hD k hk) hb0.size) he64
  clear hs hD hb0
  rcases hno with ⟨h1, rfl⟩ | ⟨h1, h2, rfl⟩
  · rw [dec_false h1] at her
    have HE := Lib.hid her
    clear her hr h1
    go_enter Try.func89, Try.ntmps89
    go_wp2_with fail
    generalize World.alloc (World.alloc w _) _ = w0 at *
    have k0 := (show Blk w0 w.heap.size 25 _ from HK.out).cell 0
    go_wp2_with fail
    refine (HE.out _).mono ?_; rintro en w1 ⟨rfl, rfl⟩
    go_wp2_with (refine wpList_put_row rfl 25 (.tmp 2) (.tmp 8) rfl (w.heap.size + 1) _ rfl rfl 25 _ (show Blk _ _ _ _ from HR.out) H.out rfl (by simp [Value.oneCell']) ?_; intro w5 hblk hgr)
    have hbz : Below w.heap.size w w5 := HZ.out.grown hgr HZ.out.size (fun k hk => by injection hk with hk; omega)
    have f0 := hblk.cell 0
    have f1 := hblk.cell 1
    exact bodyPost_ret (v := .tuple #[.agg (prjV 0 none 0 0), .int .i64 18]) (by simp [results, Try.results89, go_sem, f0, f1]) rfl ⟨rfl, hbz⟩
  · rw [dec_true h1] at her
    have HE := Lib.hid her
    rw [dec_false h2] at hr
    have HRT := Lib.hid hr
    clear her hr h1 h2
    go_enter Try.func89, Try.ntmps89
    go_wp2_with fail
    generalize World.alloc (World.alloc w _) _ = w0 at *
    have k0 := (show Blk w0 w.heap.size 25 _ from HK.out).cell 0
    have k1 := (show Blk w0 w.heap.size 25 _ from HK.out).cell 1
    go_wp2_with fail
    refine (HE.out _).mono ?_; rintro en w1 ⟨rfl, rfl⟩
    go_wp2_with fail
    refine HRT.out.mono ?_; rintro en w1 ⟨rfl, hb1⟩
    have HB1 := Lib.hid (stepB HZ.out hb1)
    have HR1 := Lib.hid (keepB (show Blk w0 (w.heap.size + 1) 25 _ from HR.out) hb1)
    clear hb1 k0 k1
    go_wp2_with (refine wpList_put_row rfl 25 (.tmp 2) (.tmp 12) rfl (w.heap.size + 1) _ rfl rfl 25 _ (show Blk _ _ _ _ from HR1.out) H.out rfl (by simp [Value.oneCell']) ?_; intro w5 hblk hgr)
    have hbz : Below w.heap.size w w5 := HB1.out.grown hgr HB1.out.size (fun k hk => by injection hk with hk; omega)
    have f0 := hblk.cell 0
    have f1 := hblk.cell 1
    exact bodyPost_ret (v := .tuple #[.agg (prjV 0 none 0 0), .int .i64 3]) (by simp [results, Try.results89, go_sem, f0, f1]) rfl ⟨rfl, hbz⟩
end
end Go.Proofs.Ytmdgmnaaopineaa

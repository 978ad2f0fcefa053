/- Seals: the program's and the reference's functions of one seal. -/
import Derived.Test.YtkhomkklamegmaaSealM
import Derived.Test.YtkhomkklamegmaaVarS
import Derived.Test.YtkhomkklamegmaaPut
import Derived.Test.YtkhomkklamegmaaCurBad
namespace Go.Proofs.Ytkhomkklamegmaa
open Go.ChangeShapes Go.WideShapes Go.ChangeAt Go.RowKit
set_option linter.unusedVariables false
abbrev sV (s : Sea) : Array Value := #[.int .u64 (s.1 : Int), .int .u64 (s.2.1 : Int), .int .u64 (s.2.2 : Int)]
theorem sright_any (s : Sea) (w : World) : Calls Try.prog 13 #[.agg (sV s)] w fun e w' => e = .returned (.bool (seaOk s)) ∧ Below w.heap.size w w' := by
  obtain ⟨x, y, z⟩ := s
  have HE : Hid (∀ w, Calls Try.prog 29 #[.int .u64 (x : Int)] w fun e w' => e = .returned (.bool (isEpoch x)) ∧ w = w') := fun w => eright2_any x w
  unfold seaOk
  simp only
  generalize isEpoch x = b1 at *
  obtain ⟨b2, hb2⟩ : ∃ b, b = decide (y ≤ 4294967295) := ⟨_, rfl⟩
  obtain ⟨b3, hb3⟩ : ∃ b, b = isTail z := ⟨_, rfl⟩
  have hd2 : decide ((y : Int) ≤ 4294967295) = b2 := by rw [hb2]; apply decide_eq_decide.2; omega
  have hd3 : decide ((z : Int) ≤ 4611686018427387904) = b3 := by rw [hb3]; unfold isTail; apply decide_eq_decide.2; omega
  rw [← hb2, ← hb3]
  clear hb2 hb3
  cases b1 <;> cases b2
  all_goals
    go_enter Try.func13, Try.ntmps13
    go_wp2_with fail
    refine (HE.out _).mono ?_; rintro e w1 ⟨rfl, rfl⟩
    go_wp2_with fail
    go_ret
    exact ⟨rfl, (Below.refl _ _).alloc (Nat.le_refl _) _⟩
theorem rsright_any (s : Sea) (w : World) : Calls Try.prog 14 #[.agg (sV s)] w fun e w' => e = .returned (.bool (seaOk s)) ∧ Below w.heap.size w w' := by
  obtain ⟨x, y, z⟩ := s
  have HE : Hid (∀ w, Calls Try.prog 30 #[.int .u64 (x : Int)] w fun e w' => e = .returned (.bool (isEpoch x)) ∧ w = w') := fun w => rr17_any x w
  unfold seaOk
  simp only
  generalize isEpoch x = b1 at *
  obtain ⟨b2, hb2⟩ : ∃ b, b = decide (y ≤ 4294967295) := ⟨_, rfl⟩
  obtain ⟨b3, hb3⟩ : ∃ b, b = isTail z := ⟨_, rfl⟩
  have hd2 : decide ((y : Int) ≤ 4294967295) = b2 := by rw [hb2]; apply decide_eq_decide.2; omega
  have hd3 : decide ((z : Int) ≤ 4611686018427387904) = b3 := by rw [hb3]; unfold isTail; apply decide_eq_decide.2; omega
  rw [← hb2, ← hb3]
  clear hb2 hb3
  cases b1 <;> cases b2
  all_goals
    go_enter Try.func14, Try.ntmps14
    go_wp2_with fail
    refine (HE.out _).mono ?_; rintro e w1 ⟨rfl, rfl⟩
    go_wp2_with fail
    go_ret
    exact ⟨rfl, (Below.refl _ _).alloc (Nat.le_refl _) _⟩

def spieces (s : Sea) : List (List UInt8) := [s.1, s.2.1, s.2.2].map vbytes
theorem spieces_flat (s : Sea) : (spieces s).flatten = sbytes s := by unfold spieces sbytes; simp
theorem seaOk_lt {s : Sea} (h : seaOk s = true) : ∀ x ∈ [s.1, s.2.1, s.2.2], x < 18446744073709551616 := by
  unfold seaOk isEpoch isTail at h
  simp only [Bool.and_eq_true, decide_eq_true_eq] at h
  intro x hx
  simp only [List.mem_cons, List.mem_nil_iff, or_false] at hx
  rcases hx with rfl | rfl | rfl <;> omega
section
variable {w : World} {F : Dom} {g : Nat} {most : Int} {b : List UInt8} {code : Int}
set_option maxHeartbeats 1000000 in
theorem sput_ok (s : Sea) (hs : seaOk s = true) (h : Pen w F g most b code) (h0 : 0 ≤ most) (h1 : most ≤ 9223372036854775807) (hb : b.length ≤ 100000000) :
    Calls Try.prog 10 #[.pointer (some ⟨g, 0, none⟩), .agg (sV s)] w fun e w' => e = .returned (.tuple #[]) ∧ ∃ F', Pen w' F' g most (putsB most (b, code) (spieces s)).1 (putsB most (b, code) (spieces s)).2 ∧ Chg F w w' ∧ (∀ k, F' k → F k ∨ w.heap.size ≤ k) := by
  have HP := Lib.hid h
  have HS : Hid (∀ w, Calls Try.prog 13 #[.agg (sV s)] w fun e w' => e = .returned (.bool true) ∧ Below w.heap.size w w') := fun w => by have := sright_any s w; rwa [hs] at this
  have HLT := Lib.hid (seaOk_lt hs)
  have HK0 := Lib.hid (Blk.new w 24 (sV s))
  have HB0 : Hid (Below w.heap.size w (w.alloc (.cells (sV s) 24))) := (Below.refl _ _).alloc (Nat.le_refl _) _
  have HFL := Lib.hid h.lt
  clear h hs
  go_enter Try.func10, Try.ntmps10
  go_wp2_with fail
  generalize World.alloc w _ = w0 at *
  have hz0 := HB0.out.size
  have hl0 := (show Blk _ _ _ _ from HK0.out).lt
  have k00 := (show Blk w0 _ _ _ from HK0.out).cell 0
  have k01 := (show Blk w0 _ _ _ from HK0.out).cell 1
  have k02 := (show Blk w0 _ _ _ from HK0.out).cell 2
  go_wp2_with fail
  refine (HS.out _).mono ?_; rintro e w1 ⟨rfl, hb1⟩
  have hk1 := Blk.below (show Blk w0 _ _ _ from HK0.out) hb1 hl0
  have c0 := hk1.cell 0
  have c1 := hk1.cell 1
  have c2 := hk1.cell 2
  have HB1 := Lib.hid (HB0.out.trans (hb1.mono hz0))
  have hz1 := hb1.size
  have HB2 : Hid (Below w.heap.size w (w1.alloc (.cells #[.int .u64 (s.1 : Int), .int .u64 (s.2.1 : Int), .int .u64 (s.2.2 : Int)] 22))) := HB1.out.alloc (by omega) _
  have HK2 := Lib.hid (Blk.new w1 22 #[.int .u64 (s.1 : Int), .int .u64 (s.2.1 : Int), .int .u64 (s.2.2 : Int)])
  clear hb1 hk1 k00 k01 k02
  go_wp2_with fail
  clear c0 c1 c2
  generalize hgs : w1.heap.size = gs at *
  generalize World.alloc w1 _ = w2 at *
  have hl2 := (show Blk w2 _ _ _ from HK2.out).lt
  have hz2 := HB2.out.size
  have HG := Lib.hid hgs
  clear hgs
  go_loopw [19] (fun i wr => ∃ (k : Nat) (F' : Dom), k ≤ 3 ∧ i = .int .i64 k ∧ Hid (Pen wr F' g most (putsB most (b, code) ((spieces s).take k)).1 (putsB most (b, code) ((spieces s).take k)).2) ∧ Hid (Chg (fun k => F k ∨ w2.heap.size ≤ k) w2 wr) ∧ Hid (∀ q, F' q → F q ∨ w2.heap.size ≤ q)) (fun i _ => 3 - (intOf i).toNat)
  case atStart => exact ⟨0, F, by omega, rfl, HP.out.below HB2.out, Chg.refl _ _, fun q hq => .inl hq⟩
  case round =>
    obtain ⟨k, F', hk, rfl, hpen, hchg, hF'⟩ := hrel
    by_cases hlt : k < 3
    · obtain ⟨x, hx⟩ : ∃ x, [s.1, s.2.1, s.2.2][k]? = some x := ⟨_, List.getElem?_eq_getElem (by simpa using hlt)⟩
      have hx64 := HLT.out x (List.mem_of_getElem? hx)
      have hblkr : Blk wr gs 22 #[.int .u64 (s.1 : Int), .int .u64 (s.2.1 : Int), .int .u64 (s.2.2 : Int)] := (hchg.out.block gs hl2 (fun hF => by
        rcases hF with hF | hF
        · have := HFL.out gs hF; omega
        · omega)).trans HK2.out
      have hcell : wr.cell? ⟨gs, k, none⟩ = some (.int .u64 (x : Int)) := by
        rw [hblkr.cell]
        match k, hx with
        | 0, hx | 1, hx | 2, hx => cases hx; rfl
      have hpx : (spieces s)[k]? = some (vbytes x) := by unfold spieces; rw [List.getElem?_map, hx]; rfl
      have hts : (spieces s).take (k + 1) = (spieces s).take k ++ [vbytes x] := by rw [List.take_add_one, hpx]; rfl
      have hlen : (putsB most (b, code) ((spieces s).take k)).1.length ≤ 1000000000 := by
        have h1 := putsB_len most (b, code) ((spieces s).take k)
        have h2 : ((spieces s).take k).flatten.length ≤ 10 * ([s.1, s.2.1, s.2.2].take k).length := by
          unfold spieces
          rw [← List.map_take]
          exact vpieces_len _ (fun y hy => HLT.out y (List.mem_of_mem_take hy))
        have h3 : ([s.1, s.2.1, s.2.2].take k).length ≤ 3 := by rw [List.length_take]; simp; omega
        simp only at h1
        omega
      have HV := Lib.hid (vput_at hpen.out h0 h1 hlen x hx64)
      have HTS := Lib.hid hts
      have hzr := hchg.out.size
      clear hblkr hpx hts hlen hx hx64
      go_wp2_with fail
      refine HV.out.mono ?_; rintro e w3 ⟨rfl, F3, hp3, hch3, hF3⟩
      have HP3 := Lib.hid hp3
      have HCH3 := Lib.hid hch3
      have HF3 := Lib.hid hF3
      clear hp3 hch3 hF3
      go_wp2_with fail
      go_roundw
      case rel =>
        refine ⟨k + 1, F3, by omega, by go_num, ?_, ?_, ?_⟩
        · show Pen _ _ _ _ _ _
          rw [HTS.out, putsB_snoc]; exact HP3.out
        · exact hchg.out.trans (HCH3.out.more (fun q _ hq => hF'.out q hq))
        · intro q hq
          rcases HF3.out q hq with h | h
          · exact hF'.out q h
          · exact .inr (by omega)
      case measure => simp [intOf]; omega
    · obtain rfl : k = 3 := by omega
      have HP3 : Hid (Pen wr F' g most (putsB most (b, code) (spieces s)).1 (putsB most (b, code) (spieces s)).2) := hpen.out
      clear hpen
      go_wp2_with fail
      go_end0
      refine ⟨rfl, F', HP3.out, (Chg.of_pure HB2.out F).trans (hchg.out.more (fun k hk h => ?_)), fun k hk => ?_⟩
      · rcases h with h | h
        · exact h
        · omega
      · rcases hF'.out k hk with h | h
        · exact .inl h
        · exact .inr (by omega)
theorem sput_bad (s : Sea) (hs : seaOk s = false) (h : Pen w F g most b code) :
    Calls Try.prog 10 #[.pointer (some ⟨g, 0, none⟩), .agg (sV s)] w fun e w' => e = .returned (.tuple #[]) ∧ Pen w' F g most b (if code = 0 then 3 else code) ∧ Chg F w w' := by
  have HP := Lib.hid h
  have HS : Hid (∀ w, Calls Try.prog 13 #[.agg (sV s)] w fun e w' => e = .returned (.bool false) ∧ Below w.heap.size w w') := fun w => by have := sright_any s w; rwa [hs] at this
  have HB0 : Hid (Below w.heap.size w (w.alloc (.cells (sV s) 24))) := (Below.refl _ _).alloc (Nat.le_refl _) _
  obtain ⟨cd, hcd⟩ : ∃ cd : Int, cd = (if code = 0 then 3 else code) := ⟨_, rfl⟩
  rw [← hcd]
  have HCD := Lib.hid hcd
  clear h hs hcd
  go_enter Try.func10, Try.ntmps10
  go_wp2_with fail
  refine (HS.out _).mono ?_; rintro e w1 ⟨rfl, hb1⟩
  have HB1 := Lib.hid (HB0.out.trans (hb1.mono HB0.out.size))
  clear hb1
  go_wp2_with fail
  refine (fail_at (HP.out.below HB1.out) 3).mono ?_; rintro e w2 ⟨rfl, hp2, hc2⟩
  rw [← HCD.out] at hp2
  have HP2 := Lib.hid hp2
  have HC2 := Lib.hid hc2
  clear hp2 hc2
  go_wp2_with fail
  exact bodyPost_ret (v := .tuple #[]) (by simp [results, Try.results10, go_sem]) rfl ⟨rfl, HP2.out, (Chg.of_pure HB1.out F).trans HC2.out⟩
end
theorem sbytes_ok (s : Sea) (hs : seaOk s = true) (w : World) :
    Calls Try.prog 8 #[.agg (sV s)] w fun e w' => ∃ A n c, e = .returned (.tuple #[.slice A n c, .int .i64 0]) ∧ w'.ownsRow w.heap.size 5 1 (.slice A n c) n ((sbytes s).map bv) ∧ Below w.heap.size w w' := by
  have HS := Lib.hid hs
  have HK0 := Lib.hid (Blk.new w 24 (sV s))
  have HB0 : Hid (Below w.heap.size w (w.alloc (.cells (sV s) 24))) := (Below.refl _ _).alloc (Nat.le_refl _) _
  have HFIT : Hid (putsB 30 ([], 0) (spieces s) = (sbytes s, 0)) := by
    have h30 := sbytes_len hs
    have := putsB_fit (most := 30) (b := []) (xs := spieces s) (by rw [spieces_flat]; simp; omega)
    rw [spieces_flat] at this
    exact this
  have hl30 := sbytes_len hs
  clear hs
  go_enter Try.func8, Try.ntmps8
  go_wp2_with fail
  generalize World.alloc w _ = w0 at *
  have hz0 := HB0.out.size
  have hl0 := (show Blk _ _ _ _ from HK0.out).lt
  refine (new_any 30 _).mono ?_; rintro e w1 ⟨rfl, hp1, hb1⟩
  have hk1 := Blk.below (show Blk w0 _ _ _ from HK0.out) hb1 hl0
  have c0 := hk1.cell 0
  have c1 := hk1.cell 1
  have c2 := hk1.cell 2
  have HB1 := Lib.hid (HB0.out.trans (hb1.mono hz0))
  have HP1 := Lib.hid hp1
  clear hb1 hk1 hp1
  go_wp2_with fail
  refine (sput_ok s HS.out HP1.out (by decide) (by decide) (by simp)).mono ?_; rintro e w2 ⟨rfl, F2, hp2, hch2, hF2⟩
  rw [show max (30 : Int) 0 = 30 from rfl, HFIT.out] at hp2
  have HP2 := Lib.hid hp2
  have HB2 := Lib.hid (HB1.out.trans (hch2.below HB1.out.size (fun k hk => by have : k = w0.heap.size := hk; omega)))
  clear hp2 hch2 hF2 c0 c1 c2
  go_wp2_with fail
  refine (bytes_ok HP2.out (by omega)).mono ?_; rintro e w3 ⟨A, n, c, rfl, ho, hb3⟩
  have HO := Lib.hid ho
  have HB3 := Lib.hid (HB2.out.trans (hb3.mono HB2.out.size))
  clear ho hb3
  go_wp2_with fail
  go_ret2
  exact ⟨A, n, c, rfl, own_mono HO.out HB2.out.size, HB3.out⟩
theorem sbytes_bad (s : Sea) (hs : seaOk s = false) (w : World) :
    Calls Try.prog 8 #[.agg (sV s)] w fun e w' => e = .returned (.tuple #[.slice none 0 0, .int .i64 3]) ∧ Below w.heap.size w w' := by
  have HS := Lib.hid hs
  have HK0 := Lib.hid (Blk.new w 24 (sV s))
  have HB0 : Hid (Below w.heap.size w (w.alloc (.cells (sV s) 24))) := (Below.refl _ _).alloc (Nat.le_refl _) _
  clear hs
  go_enter Try.func8, Try.ntmps8
  go_wp2_with fail
  generalize World.alloc w _ = w0 at *
  have hz0 := HB0.out.size
  have hl0 := (show Blk _ _ _ _ from HK0.out).lt
  refine (new_any 30 _).mono ?_; rintro e w1 ⟨rfl, hp1, hb1⟩
  have hk1 := Blk.below (show Blk w0 _ _ _ from HK0.out) hb1 hl0
  have c0 := hk1.cell 0
  have c1 := hk1.cell 1
  have c2 := hk1.cell 2
  have HB1 := Lib.hid (HB0.out.trans (hb1.mono hz0))
  have HP1 := Lib.hid hp1
  clear hb1 hk1 hp1
  go_wp2_with fail
  refine (sput_bad s HS.out HP1.out).mono ?_; rintro e w2 ⟨rfl, hp2, hch2⟩
  have HP2 := Lib.hid hp2
  have HB2 := Lib.hid (HB1.out.trans (hch2.below HB1.out.size (fun k hk => by have : k = w0.heap.size := hk; omega)))
  clear hp2 hch2 c0 c1 c2
  go_wp2_with fail
  refine (bytes_bad HP2.out (by decide)).mono ?_; rintro e w3 ⟨rfl, rfl⟩
  go_wp2_with fail
  go_ret2
  exact ⟨rfl, HB2.out⟩
end Go.Proofs.Ytkhomkklamegmaa

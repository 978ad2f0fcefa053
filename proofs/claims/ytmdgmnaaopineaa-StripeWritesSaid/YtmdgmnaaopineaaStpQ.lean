/- A stripe is written: stripe.Put, stripe.Bytes. -/
import Derived.Test.YtmdgmnaaopineaaStpP
import Derived.Test.YtmdgmnaaopineaaStrM
namespace Go.Proofs.Ytmdgmnaaopineaa
open Go.ChangeShapes Go.WideShapes Go.ChangeAt Go.RowKit
set_option linter.unusedVariables false
def pn (T N : Nat) (sets : List (List Nat)) (k : Nat) : List Nat := T :: N :: ((sets.take k).map setn).flatten
theorem pn_step {T N k : Nat} {sets : List (List Nat)} {x : List Nat} (h : sets[k]? = some x) : pn T N sets (k + 1) = (pn T N sets k ++ [x.length]) ++ stepsFrom none x := by
  unfold pn
  rw [List.take_add_one, h]
  simp [setn]
theorem pn_end {f t : Nat} {sets : List (List Nat)} : pn (t - f - 1) sets.length sets sets.length = stn (f, t, sets) := by
  unfold pn stn
  rw [List.take_length]
theorem setn_lt {x : List Nat} (h : NodesOk x) : ∀ y ∈ setn x, y < 18446744073709551616 := by
  intro y hy
  rcases List.mem_cons.1 hy with rfl | hy
  · have := h.2.1; omega
  · exact stepsFrom_lt none x _ (fun z hz => by have := nodesOk_lt h z hz; omega) y hy
theorem setn_length {x : List Nat} (h : NodesOk x) : (setn x).length ≤ 9 := by
  have := h.2.1
  show (stepsFrom none x).length + 1 ≤ 9
  rw [stepsFrom_length]; omega
theorem flat_len {sets : List (List Nat)} (h : ∀ x ∈ sets, NodesOk x) : ((sets.map setn).flatten).length ≤ 9 * sets.length := by
  induction sets with
  | nil => simp
  | cons x xs ih =>
    have h1 := setn_length (h x (by simp))
    have h2 := ih (fun y hy => h y (by simp [hy]))
    simp only [List.map_cons, List.flatten_cons, List.length_append, List.length_cons]
    omega
theorem pn_lt {T N : Nat} {sets : List (List Nat)} (hT : T < 18446744073709551616) (hN : N < 18446744073709551616) (h : ∀ x ∈ sets, NodesOk x) (k : Nat) : ∀ y ∈ pn T N sets k, y < 18446744073709551616 := by
  intro y hy
  unfold pn at hy
  rcases List.mem_cons.1 hy with rfl | hy
  · exact hT
  rcases List.mem_cons.1 hy with rfl | hy
  · exact hN
  obtain ⟨z, hz, hyz⟩ := List.mem_flatten.1 hy
  obtain ⟨x, hx, rfl⟩ := List.mem_map.1 hz
  exact setn_lt (h x (List.mem_of_mem_take hx)) y hyz
theorem pn_length {T N : Nat} {sets : List (List Nat)} (h : ∀ x ∈ sets, NodesOk x) (k : Nat) : (pn T N sets k).length ≤ 2 + 9 * k := by
  have h1 := flat_len (sets := sets.take k) (fun x hx => h x (List.mem_of_mem_take hx))
  have h2 : (sets.take k).length ≤ k := by rw [List.length_take]; omega
  unfold pn
  simp only [List.length_cons]
  omega
theorem sOk_nodes {s : Stp} (h : SOk s) : ∀ x ∈ s.2.2, NodesOk x := fun x hx => by
  obtain ⟨i, hi⟩ := List.getElem?_of_mem hx
  exact (setOk_iff.1 (h.2.2.2.2 i x hi)).1
section
variable {D F : Dom} {A : Option Addr} {n c g f t : Nat} {sets : List (List Nat)} {b : List UInt8} {most code : Int} {w : World}
set_option maxRecDepth 100000 in
set_option maxHeartbeats 3000000 in
theorem stput_ok (hs : (rpSlice rpU64).sl w D A n c sets) (hD : ∀ k, D k → k < w.heap.size) (hDF : ∀ k, D k → ¬ F k) (hok : SOk (f, t, sets)) (h : Pen w F g most b code) (h0 : 0 ≤ most) (h1 : most ≤ 9223372036854775807) (hb : b.length ≤ 10000000) :
    Calls Try.prog 51 #[.pointer (some ⟨g, 0, none⟩), .agg (stpV f t A n c)] w (PutIs w F g most b code (stn (f, t, sets))) := by
  obtain ⟨hlen, hnc, hcm⟩ := Rp.sl_len hs
  have hnod := sOk_nodes hok
  simp only at hnod
  have hok' := hok
  obtain ⟨hft, ht62, hn1, hn8, _⟩ := hok'
  simp only at hft ht62 hn1 hn8
  subst hlen
  rw [← pn_end]
  have hb0 := below1 w (.cells (stpV f t A sets.length c) 31)
  have hr := right_any (f := f) (t := t) (Rp.sl_below hs hb0 hD) (fun k hk => Nat.lt_of_lt_of_le (hD k hk) hb0.size) (by omega) (by omega)
  rw [dec_true hok] at hr
  have HR := Lib.hid hr
  have HB0 := Lib.hid hb0
  have HK0 := Lib.hid (blk11 w 31 (stpV f t A sets.length c))
  have HS : Hid (Sl (rpSlice rpU64) w D A sets.length c sets) := ⟨hs, hD⟩
  have HDF := Lib.hid hDF
  have HP := Lib.hid h
  have HFL := Lib.hid h.lt
  obtain ⟨T, hT⟩ : ∃ T, T = t - f - 1 := ⟨_, rfl⟩
  rw [← hT]
  have hT64 : T < 18446744073709551616 := by omega
  have s0 : IntKind.u64.wrap ((t : Int) - (f : Int)) = (t : Int) - (f : Int) := IntWalk.u64_in _ (by omega)
  have s1 : IntKind.u64.wrap ((t : Int) - (f : Int) - 1) = (T : Int) := by rw [IntWalk.u64_in _ (by omega)]; omega
  have s2 : IntKind.u64.wrap (sets.length : Int) = (sets.length : Int) := IntWalk.u64_in _ (by omega)
  have HT64 := Lib.hid hT64
  have HNOD := Lib.hid hnod
  have HNR : Hid (∀ x ∈ sets, Rises x ∧ x.length ≤ 8 ∧ ∀ y ∈ x, y < 18446744073709551616) := fun x hx => ⟨(hnod x hx).2.2.1, (hnod x hx).2.1, fun y hy => by have := nodesOk_lt (hnod x hx) y hy; omega⟩
  clear hs hD hDF h hok hr hb0 hT hT64 hnod hft ht62
  generalize hN : sets.length = N at *
  have HN := Lib.hid hN
  clear hN
  go_enter Try.func51, Try.ntmps51
  go_wp2_with fail
  generalize World.alloc w _ = w0 at *
  have k0 := (show Blk w0 _ _ _ from HK0.out).cell 0
  have k1 := (show Blk w0 _ _ _ from HK0.out).cell 1
  have k2 := (show Blk w0 _ _ _ from HK0.out).cell 2
  go_wp2_with fail
  refine HR.out.mono ?_; rintro e w1 ⟨rfl, hb1⟩
  have HK1 := Lib.hid (keepB (show Blk w0 w.heap.size 31 _ from HK0.out) hb1)
  have HB1 := Lib.hid (stepB HB0.out hb1)
  have HNF : Hid (¬ F w.heap.size) := fun hF => by have := HFL.out _ hF; omega
  have hlt1 := (show Blk w1 w.heap.size 31 _ from HK1.out).lt
  have c0 := (show Blk w1 w.heap.size 31 _ from HK1.out).cell 0
  have c1 := (show Blk w1 w.heap.size 31 _ from HK1.out).cell 1
  clear hb1 k0 k1 k2
  go_wp2_with fail
  refine (vput_at (HP.out.below HB1.out) h0 h1 (by omega) T HT64.out).mono ?_; rintro e w2 ⟨rfl, F2, hp2, hch2, hF2⟩
  have HP2 := Lib.hid hp2
  have HCH2 := Lib.hid hch2
  have HF2 := Lib.hid hF2
  have HK2 := Lib.hid (chB (show Blk w1 w.heap.size 31 _ from HK1.out) hch2 HNF.out)
  have hz12 := hch2.size
  clear hp2 hch2 hF2 c0 c1
  have c2 := (show Blk w2 w.heap.size 31 _ from HK2.out).cell 2
  have hl2 : Hid ((putB most b code (vbytes T)).1.length ≤ 1000000000) := by have h1 := putB_len most b code (vbytes T); have h2 := vbytes_10 HT64.out; exact (by omega : (putB most b code (vbytes T)).1.length ≤ 1000000000)
  go_wp2_with fail
  refine (vput_at HP2.out h0 h1 hl2.out N (by omega)).mono ?_; rintro e w3 ⟨rfl, F3, hp3, hch3, hF3⟩
  have HP3 : Hid (Pen w3 F3 g most (putsB most (b, code) ((pn T N sets 0).map vbytes)).1 (putsB most (b, code) ((pn T N sets 0).map vbytes)).2) := by
    have e0 : pn T N sets 0 = [T, N] := by simp [pn]
    rw [e0]
    exact hp3
  have HK3 := Lib.hid (chB (show Blk w2 w.heap.size 31 _ from HK2.out) hch3 (fun hF => by
    rcases HF2.out _ hF with h | h
    · exact HNF.out h
    · omega))
  have HCH3 : Hid (Chg (fun k => F k ∨ w1.heap.size ≤ k) w1 w3) := (HCH2.out.more (fun k _ hk => .inl hk)).trans (hch3.more (fun k _ hk => HF2.out k hk))
  have HF3 : Hid (∀ q, F3 q → F q ∨ w1.heap.size ≤ q) := fun q hq => by
    rcases hF3 q hq with h | h
    · exact HF2.out q h
    · exact .inr (by omega)
  clear hp3 hch3 hF3 c2
  have c2 := (show Blk w3 w.heap.size 31 _ from HK3.out).cell 2
  go_wp2_with fail
  clear c2
  go_loopw [28] (fun i wr => ∃ (k : Nat) (F' : Dom), k ≤ N ∧ i = .int .i64 k ∧ Hid (Pen wr F' g most (putsB most (b, code) ((pn T N sets k).map vbytes)).1 (putsB most (b, code) ((pn T N sets k).map vbytes)).2) ∧ Hid (Chg (fun k => F k ∨ w1.heap.size ≤ k) w1 wr) ∧ Hid (∀ q, F' q → F q ∨ w1.heap.size ≤ q)) (fun i _ => N - (intOf i).toNat)
  case atStart => exact ⟨0, F3, by omega, rfl, HP3.out, HCH3.out, HF3.out⟩
  case round =>
    clear HP3 HCH3 HF3 HK3 HK2 HP2 HCH2 HF2 hl2
    obtain ⟨k, F', hk, rfl, hpen, hchg, hF'⟩ := hrel
    by_cases hlt : k < N
    · have hsr := chS (keepS HS.out HB1.out) hchg.out (fun q hq hF => by
        rcases hF with hF | hF
        · exact HDF.out q hq hF
        · have := HS.out.2 q hq; have := HB1.out.size; omega)
      obtain ⟨bo, off, x, A3, c3, rfl, hbD, hx, hcell, hrow⟩ := rows_at hsr.1 hlt
      have HRW : Hid (Sl rpU64 wr D A3 x.length c3 x) := ⟨hrow, hsr.2⟩
      have hxm := List.mem_of_getElem? hx
      obtain ⟨hxr, hx8, hx64⟩ := HNR.out x hxm
      have HXR := Lib.hid hxr
      have HX64 := Lib.hid hx64
      have HPS := Lib.hid (pn_step (T := T) (N := N) hx)
      have hlen : (putsB most (b, code) ((pn T N sets k).map vbytes)).1.length ≤ 20000000 := by
        have h1 := puts_len most b code (pn T N sets k) (pn_lt HT64.out (by omega) HNOD.out k)
        have h2 := pn_length (T := T) (N := N) HNOD.out k
        omega
      have hlen2 : (putB most (putsB most (b, code) ((pn T N sets k).map vbytes)).1 (putsB most (b, code) ((pn T N sets k).map vbytes)).2 (vbytes x.length)).1.length ≤ 100000000 := by
        have h1 := putB_len most (putsB most (b, code) ((pn T N sets k).map vbytes)).1 (putsB most (b, code) ((pn T N sets k).map vbytes)).2 (vbytes x.length)
        have h2 := vbytes_10 (x := x.length) (by omega)
        omega
      have HV := Lib.hid (vput_at hpen.out h0 h1 (by omega) x.length (by omega))
      have HLEN2 := Lib.hid hlen2
      have hzr := hchg.out.size
      have hd : decide ((k : Int) < (N : Int)) = true := by simp; omega
      have hkI : (0 : Int) ≤ (k : Int) := by omega
      have hkI2 : (k : Int) < (N : Int) := by omega
      have s3 : IntKind.u64.wrap (x.length : Int) = (x.length : Int) := IntWalk.u64_in _ (by omega)
      clear hlen hlen2 hx hxm hxr hx64 hrow hsr
      go_wp2_with fail
      refine HV.out.mono ?_; rintro e w4 ⟨rfl, F4, hp4, hch4, hF4⟩
      have HP4 := Lib.hid hp4
      have HCH4 := Lib.hid hch4
      have HF4 : Hid (∀ q, F4 q → F q ∨ w1.heap.size ≤ q) := fun q hq => by
        rcases hF4 q hq with h | h
        · exact hF'.out q h
        · exact .inr (by omega)
      have hrw := chS HRW.out hch4 (fun q hq hF => by
        rcases hF'.out q hF with hF | hF
        · exact HDF.out q hq hF
        · have := HS.out.2 q hq; have := HB1.out.size; omega)
      have HPR := Lib.hid (putRising_any hp4 h0 h1 HLEN2.out hrw.1 hrw.2 HXR.out HX64.out (by omega))
      have hz4 := hch4.size
      clear hp4 hch4 hF4 hrw hcell
      go_wp2_with fail
      refine HPR.out.mono ?_; rintro e w5 ⟨rfl, F5, hp5, hch5, hF5⟩
      have HP5 : Hid (Pen w5 F5 g most (putsB most (b, code) ((pn T N sets (k + 1)).map vbytes)).1 (putsB most (b, code) ((pn T N sets (k + 1)).map vbytes)).2) := by
        rw [HPS.out, puts_append, puts_snoc]
        exact hp5
      have HCH5 := Lib.hid hch5
      have HF5 := Lib.hid hF5
      clear hp5 hch5 hF5
      go_wp2_with fail
      go_roundw
      case rel =>
        refine ⟨k + 1, F5, by omega, by go_num, HP5.out, (hchg.out.trans (HCH4.out.more (fun q _ hq => hF'.out q hq))).trans (HCH5.out.more (fun q _ hq => HF4.out q hq)), fun q hq => ?_⟩
        rcases HF5.out q hq with h | h
        · exact HF4.out q h
        · exact .inr (by omega)
      case measure => simp [intOf]; omega
    · obtain rfl : k = N := by omega
      have hd : decide ((k : Int) < (k : Int)) = false := by simp
      go_wp2_with fail
      go_end0
      refine ⟨rfl, F', hpen.out, (Chg.of_pure HB1.out F).trans (hchg.out.more (fun q hq h => ?_)), fun q hq => ?_⟩
      · rcases h with h | h
        · exact h
        · omega
      · rcases hF'.out q hq with h | h
        · exact .inl h
        · exact .inr (Nat.le_trans HB1.out.size h)
set_option maxRecDepth 100000 in
theorem stput_bad (hs : (rpSlice rpU64).sl w D A n c sets) (hD : ∀ k, D k → k < w.heap.size) (hf : f ≤ 18446744073709551615) (ht : t ≤ 18446744073709551615) (hno : ¬ SOk (f, t, sets)) (h : Pen w F g most b code) :
    Calls Try.prog 51 #[.pointer (some ⟨g, 0, none⟩), .agg (stpV f t A n c)] w fun e w' => e = .returned (.tuple #[]) ∧ Pen w' F g most b (if code = 0 then 3 else code) ∧ Chg F w w' := by
  have hb0 := below1 w (.cells (stpV f t A n c) 31)
  have hr := right_any (f := f) (t := t) (Rp.sl_below hs hb0 hD) (fun k hk => Nat.lt_of_lt_of_le (hD k hk) hb0.size) hf ht
  rw [dec_false hno] at hr
  have HR := Lib.hid hr
  have HB0 := Lib.hid hb0
  have HP := Lib.hid h
  obtain ⟨cd, hcd⟩ : ∃ cd : Int, cd = (if code = 0 then 3 else code) := ⟨_, rfl⟩
  rw [← hcd]
  have HCD := Lib.hid hcd
  clear h hs hD hcd hr hb0 hno
  go_enter Try.func51, Try.ntmps51
  go_wp2_with fail
  refine HR.out.mono ?_; rintro e w1 ⟨rfl, hb1⟩
  have HB1 := Lib.hid (stepB HB0.out hb1)
  clear hb1
  go_wp2_with fail
  refine (fail_at (HP.out.below HB1.out) 3).mono ?_; rintro e w2 ⟨rfl, hp2, hc2⟩
  rw [← HCD.out] at hp2
  have HP2 := Lib.hid hp2
  have HC2 := Lib.hid hc2
  clear hp2 hc2
  go_wp2_with fail
  exact bodyPost_ret (v := .tuple #[]) (by simp [results, Try.results51, go_sem]) rfl ⟨rfl, HP2.out, (Chg.of_pure HB1.out F).trans HC2.out⟩
end
theorem stb_len {s : Stp} (h : SOk s) : (stb s).length ≤ 740 := by
  have h1 := vpieces_len (stn s) (by
    have := pn_lt (T := s.2.1 - s.1 - 1) (N := s.2.2.length) (sets := s.2.2) (by have := h.2.1; omega) (by have := h.2.2.2.1; omega) (sOk_nodes h) s.2.2.length
    rw [pn_end] at this; exact this)
  have h2 := pn_length (T := s.2.1 - s.1 - 1) (N := s.2.2.length) (sets := s.2.2) (sOk_nodes h) s.2.2.length
  rw [pn_end] at h2
  have h3 := h.2.2.2.1
  show ((stn s).map vbytes).flatten.length ≤ 740
  have h4 : (stn (s.1, s.2.1, s.2.2)).length = (stn s).length := rfl
  omega
theorem stput_fit {s : Stp} (h : SOk s) {most : Int} (hm : 740 ≤ most) : putsB most ([], 0) ((stn s).map vbytes) = (stb s, 0) := by
  have := putsB_fit (most := most) (b := []) (xs := (stn s).map vbytes) (by have := stb_len h; show ((stb s).length : Int) ≤ most; omega)
  exact this
section
variable {D : Dom} {A : Option Addr} {n c f t : Nat} {sets : List (List Nat)} {w : World}
set_option maxRecDepth 100000 in
theorem stbytes_ok (hs : (rpSlice rpU64).sl w D A n c sets) (hD : ∀ k, D k → k < w.heap.size) (hok : SOk (f, t, sets)) :
    Calls Try.prog 49 #[.agg (stpV f t A n c)] w fun e w' => ∃ A2 m c2, e = .returned (.tuple #[.slice A2 m c2, .int .i64 0]) ∧ w'.ownsRow w.heap.size 5 1 (.slice A2 m c2) m ((stb (f, t, sets)).map bv) ∧ Below w.heap.size w w' := by
  have hb0 := below1 w (.cells (stpV f t A n c) 31)
  have HK0 := Lib.hid (Blk.new w 31 (stpV f t A n c))
  have HB0 := Lib.hid hb0
  have HS := Lib.hid (keepS (show Sl (rpSlice rpU64) w D A n c sets from ⟨hs, hD⟩) hb0)
  have HOK := Lib.hid hok
  have HDL := Lib.hid hD
  have HFIT := Lib.hid (stput_fit hok (most := 1024) (by decide))
  have hl := stb_len hok
  clear hs hb0 hok hD
  go_enter Try.func49, Try.ntmps49
  go_wp2_with fail
  generalize World.alloc w _ = w0 at *
  have hz0 := HB0.out.size
  refine (new_any 1024 _).mono ?_; rintro e w1 ⟨rfl, hp1, hb1⟩
  have hk1 := keepB (show Blk w0 w.heap.size 31 _ from HK0.out) hb1
  have c0 := hk1.cell 0
  have c1 := hk1.cell 1
  have c2 := hk1.cell 2
  have HB1 := Lib.hid (stepB HB0.out hb1)
  have HS1 := Lib.hid (keepS HS.out hb1)
  have HP1 := Lib.hid hp1
  clear hb1 hk1 hp1
  go_wp2_with fail
  refine (stput_ok HS1.out.1 HS1.out.2 (fun k hk hF => by have e : k = w0.heap.size := hF; have := HDL.out k hk; omega) HOK.out HP1.out (by decide) (by decide) (by simp)).mono ?_; rintro e w2 ⟨rfl, F2, hp2, hch2, hF2⟩
  rw [show max (1024 : Int) 0 = 1024 from rfl, HFIT.out] at hp2
  have HP2 := Lib.hid hp2
  have HB2 := Lib.hid (HB1.out.trans (hch2.below HB1.out.size (fun k hk => by have : k = w0.heap.size := hk; omega)))
  clear hp2 hch2 hF2 c0 c1 c2
  go_wp2_with fail
  refine (bytes_ok HP2.out (by omega)).mono ?_; rintro e w3 ⟨A, n, c, rfl, ho, hb3⟩
  have HO := Lib.hid ho
  have HB3 := Lib.hid (stepB HB2.out hb3)
  clear ho hb3
  go_wp2_with fail
  go_ret2
  exact ⟨A, n, c, rfl, own_mono HO.out HB2.out.size, HB3.out⟩
set_option maxRecDepth 100000 in
theorem stbytes_bad (hs : (rpSlice rpU64).sl w D A n c sets) (hD : ∀ k, D k → k < w.heap.size) (hf : f ≤ 18446744073709551615) (ht : t ≤ 18446744073709551615) (hno : ¬ SOk (f, t, sets)) :
    Calls Try.prog 49 #[.agg (stpV f t A n c)] w fun e w' => e = .returned (.tuple #[.slice none 0 0, .int .i64 3]) ∧ Below w.heap.size w w' := by
  have hb0 := below1 w (.cells (stpV f t A n c) 31)
  have HK0 := Lib.hid (Blk.new w 31 (stpV f t A n c))
  have HB0 := Lib.hid hb0
  have HS := Lib.hid (keepS (show Sl (rpSlice rpU64) w D A n c sets from ⟨hs, hD⟩) hb0)
  have HNO := Lib.hid hno
  clear hs hb0 hno hD
  go_enter Try.func49, Try.ntmps49
  go_wp2_with fail
  generalize World.alloc w _ = w0 at *
  have hz0 := HB0.out.size
  refine (new_any 1024 _).mono ?_; rintro e w1 ⟨rfl, hp1, hb1⟩
  have hk1 := keepB (show Blk w0 w.heap.size 31 _ from HK0.out) hb1
  have c0 := hk1.cell 0
  have c1 := hk1.cell 1
  have c2 := hk1.cell 2
  have HB1 := Lib.hid (stepB HB0.out hb1)
  have HS1 := Lib.hid (keepS HS.out hb1)
  have HP1 := Lib.hid hp1
  clear hb1 hk1 hp1
  go_wp2_with fail
  refine (stput_bad HS1.out.1 HS1.out.2 hf ht HNO.out HP1.out).mono ?_; rintro e w2 ⟨rfl, hp2, hch2⟩
  have HP2 := Lib.hid hp2
  have HB2 := Lib.hid (HB1.out.trans (hch2.below HB1.out.size (fun k hk => by have : k = w0.heap.size := hk; omega)))
  clear hp2 hch2 c0 c1 c2
  go_wp2_with fail
  refine (bytes_bad HP2.out (by decide)).mono ?_; rintro e w3 ⟨rfl, rfl⟩
  go_wp2_with fail
  go_ret2
  exact ⟨rfl, HB2.out⟩
end
end Go.Proofs.Ytmdgmnaaopineaa

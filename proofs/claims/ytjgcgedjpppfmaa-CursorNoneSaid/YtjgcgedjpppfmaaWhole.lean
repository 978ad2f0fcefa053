/- The walk of the law CursorWhole. -/
import Derived.Test.YtjgcgedjpppfmaaCLive
namespace Go.Proofs.Ytjgcgedjpppfmaa
open Go.ChangeShapes Go.WideShapes Go.ChangeAt Go.RowKit
set_option linter.unusedVariables false
theorem cell_same {w w' : World} {b : Nat} (h : w'.heap[b]? = w.heap[b]?) (o : Nat) : w'.cell? ⟨b, o, none⟩ = w.cell? ⟨b, o, none⟩ := World.cell?_of_block (w := w) (a := ⟨b, o, none⟩) h
theorem own_keep' {w w' : World} {base : Nat} {e : TypeId} {size n : Nat} {v : Value} {xs : List Value} (h : w.ownsRow base e size v n xs) (hs : ∀ k, some k = v.ownBlock → w'.heap[k]? = w.heap[k]?) : w'.ownsRow base e size v n xs := by
  refine ⟨h.1, ?_⟩
  rcases h.2 with hv | ⟨q, cap, cur, hv, hq, hh, rest⟩
  · exact .inl hv
  · exact .inr ⟨q, cap, cur, hv, hq, (hs q (by rw [hv]; rfl)).trans hh, rest⟩
theorem take_cut (b : List UInt8) (p k : Nat) (h : p + k ≤ b.length) : b.take p ++ cutB b p k = b.take (p + k) := by
  unfold cutB
  rw [List.drop_take, show p + k - p = k by omega, List.take_add]

set_option maxRecDepth 100000 in
set_option maxHeartbeats 1000000 in
theorem cursorWhole_any (A0 : Option Addr) (n0 c0 : Nat) (b : List UInt8) (A : Option Addr) (n c : Nat) (l : List UInt8) (w : World) (hb : rpU8.sl w (lt w.heap.size) A0 n0 c0 b) (hl : rpU8.sl w (lt w.heap.size) A n c l) :
    Calls Try.prog 8 #[.slice A0 n0 c0, .slice A n c] w fun e w' => e = .returned (.bool true) ∧ Below w.heap.size w w' := by
  obtain ⟨hlen, hnc, hcm⟩ := Rp.sl_len hl
  obtain ⟨hlen0, hnc0, hcm0⟩ := Rp.sl_len hb
  unfold maxLen at hcm hcm0
  subst hlen0
  have HL := Lib.hid hl
  have HN := Lib.hid hlen
  have HB := Lib.hid hb
  have hlive := fun w' => clive_any w'
  have HLIVE := Lib.hid hlive
  clear hl hlen hb hlive
  by_cases hbig : 300 < b.length
  · have hd : decide ((300 : Int) < (b.length : Int)) = true := by simp; omega
    go_enter Try.func8, Try.ntmps8
    go_wp2_with fail
    refine (HLIVE.out _).mono ?_; rintro e w1 ⟨rfl, hb1⟩
    go_wp2_with fail
    go_ret
    exact ⟨rfl, hb1⟩
  have hd : decide ((300 : Int) < (b.length : Int)) = false := by simp; omega
  by_cases hmany : 100 < n
  · have hd2 : decide ((100 : Int) < (n : Int)) = true := by simp; omega
    go_enter Try.func8, Try.ntmps8
    go_wp2_with fail
    refine (HLIVE.out _).mono ?_; rintro e w1 ⟨rfl, hb1⟩
    go_wp2_with fail
    go_ret
    exact ⟨rfl, hb1⟩
  have hd2 : decide ((100 : Int) < (n : Int)) = false := by simp; omega
  go_enter Try.func8, Try.ntmps8
  go_wp2_with fail
  refine (cnew_any HB.out (fun k hk => hk)).mono ?_; rintro e w1 ⟨rfl, hr1, hb1⟩
  have HR1 := Lib.hid hr1
  have HB1 := Lib.hid hb1
  clear hr1 hb1
  obtain ⟨g, hg⟩ : ∃ g, g = w.heap.size := ⟨_, rfl⟩
  go_wp2_with fail
  go_loopw [6, 7] (fun a i wr => ∃ (j p : Nat) (A1 : Option Addr) (c1 : Nat), j ≤ n ∧ p ≤ b.length ∧ i = .int .i64 j ∧ a = .slice A1 p c1 ∧ Hid (wr.ownsRow w.heap.size 5 1 a p ((b.take p).map bv)) ∧ Hid (Rd wr (lt w.heap.size) w.heap.size b p (0, 0)) ∧ Below w.heap.size w wr) (fun _ i _ => n - (intOf i).toNat)
  case atStart => exact ⟨0, 0, none, 0, by omega, by omega, rfl, rfl, World.ownsRow_nil _ _ _ _, HR1, HB1.out⟩
  case round =>
    obtain ⟨j, p, A1, c1, hj, hp, rfl, rfl, hown, hrd, hbel⟩ := hrel
    have hz0 := hbel.size
    have HBEL := Lib.hid hbel
    by_cases hjn : j < n
    · have hdj : decide ((j : Int) < (n : Int)) = true := by simp; omega
      obtain ⟨bb, off, s, rfl, hDb, hx, hc⟩ := bytes_at (Rp.sl_below HL.out hbel (fun k hk => hk)) hjn
      have hDb' : bb < wr.heap.size := Nat.lt_of_lt_of_le hDb hz0
      have hsl := s.toNat_lt
      obtain ⟨k, hk⟩ : ∃ k : Nat, (k : Int) = min (s.toNat : Int) ((b.length : Int) - p) := ⟨(min (s.toNat : Int) ((b.length : Int) - p)).toNat, by omega⟩
      have hkp : p + k ≤ b.length := by omega
      have q1 : (if (b.length : Int) - p < (s.toNat : Int) then (b.length : Int) - p else (s.toNat : Int)) = k := by rw [hk]; split <;> omega
      have hjI : (j : Int) < n := by omega
      have e2 : skipF b.length p (0, 0) k = (p + k, (0, 0), true) := by rw [skipF_ok rfl (by omega) (by omega)]; simp
      have e3 : takeB b p (0, 0) k = cutB b p k := by unfold takeB; rw [e2]; simp
      have E2 := Lib.hid e2
      have E3 := Lib.hid e3
      have hsw : IntKind.i64.wrap (s.toNat : Int) = (s.toNat : Int) := IntWalk.i64_in _ (by omega)
      clear hk e2 e3 hbel hx
      go_wp2_with fail
      go_region_held3 (fun w' => w'.cell? ⟨bb, off + j, none⟩ = some (.int .u8 (s.toNat : Int)))
        (first | exact k0 | exact hc)
        ((first
          | (go_at_call 37; refine (cleft_at (hrd.out.below (Below.refl _ _).drew)).mono ?_; rintro e w2 ⟨rfl, hb2⟩
             have hb2' : Below wr.heap.size wr w2 := ((Below.refl _ wr).drew).trans hb2
             have k0 := (hb2'.cell (p := ⟨bb, off + j, none⟩) hDb').trans hc
             have HB2 := Lib.hid hb2'
             clear hb2 hb2')
          | (go_at_call 34; refine (ctake_at (hrd.out.below HB2.out) k (by omega) (by omega) (by omega)).mono ?_; rintro e w3 ⟨A3, n3, c3, rfl, ho3, hr3, hch3⟩
             rw [E2.out] at hr3
             rw [E3.out] at ho3
             have hn3 : n3 = k := by have := ho3.1; simp [cutB] at this; omega
             subst hn3
             have k0 := (hch3.block bb (Nat.lt_of_lt_of_le hDb' HB2.out.size) (fun h => by have h1 : bb = w.heap.size := h; have h2 : bb < w.heap.size := hDb; omega))
             have k0 := (cell_same k0 (off + j)).trans ((HB2.out.cell (p := ⟨bb, off + j, none⟩) hDb').trans hc)
             have k3 := k0
             have HR3 := Lib.hid hr3
             have hgne : some w.heap.size ≠ (Value.slice A1 p c1).ownBlock := by obtain ⟨_, _, hbk, _⟩ := hrd.out; exact Pen.ne' hbk hown.out (by decide)
             have HOW3 := Lib.hid (own_keep' (own_keep' hown.out (fun q hq => HB2.out.block q (own_lt hown.out hq))) (fun q hq => hch3.block q (Nat.lt_of_lt_of_le (own_lt hown.out hq) HB2.out.size) (fun h => hgne (by rw [← hq]; exact congrArg some (show q = w.heap.size from h).symm))))
             have HB3 := Lib.hid ((HBEL.out.trans (HB2.out.mono hz0)).trans (hch3.below (Nat.le_trans hz0 HB2.out.size) (fun k hk => Nat.le_of_eq (show k = w.heap.size from hk).symm)))
             have HSR3 := Lib.hid (Src.bytes (own_bytes ho3))
             clear hr3 ho3 hch3)
          | (refine step_app rfl (.tmp 25) (.tmp 35) _ rfl elemU (by rfl) HOW3.out (by rfl) HSR3.out (by unfold maxLen; omega) (by omega) (HB3.out.size) ?_; intro A4 c4 w4 ho4 hg4 hat4
             have hb4 : Below w.heap.size w w4 := HB3.out.grown hg4 HB3.out.size (fun q hq => (HOW3.out.lt q hq).1)
             have k0 := (hg4.block bb (by have := HB3.out.size; have h2 : bb < w.heap.size := hDb; omega) (fun h => by have := (HOW3.out.lt bb h.symm).1; have h2 : bb < w.heap.size := hDb; omega))
             have k0 := (cell_same k0 (off + j)).trans k3
             rw [← List.map_append, take_cut _ _ _ hkp] at ho4
             have HO4 := Lib.hid ho4
             have HB4 := Lib.hid hb4
             have hgne : some w.heap.size ≠ (Value.slice A1 p c1).ownBlock := by obtain ⟨_, _, hbk, _⟩ := hrd.out; exact Pen.ne' hbk hown.out (by decide)
             have HR4 := Lib.hid (HR3.out.keep (w' := w4) (fun q hq => hg4.block q (by rcases hq with rfl | hq; exact HR3.out.lt; exact HR3.out.dom q hq) (fun h => by
               rcases hq with h1 | h1
               · exact hgne (by rw [← h, h1])
               · have := (HOW3.out.lt q h.symm).1
                 have h2 : q < w.heap.size := h1
                 omega)) hg4.size)
             clear ho4 hg4 hat4 hb4)))
      go_wp2_with fail
      go_roundw
      case rel => exact ⟨j + 1, p + n3, A4, c4, by omega, hkp, by go_num, rfl, HO4, HR4, HB4.out⟩
      case measure => simp [intOf]; omega
    · obtain rfl : j = n := by omega
      have hdj : decide ((j : Int) < (j : Int)) = false := by simp
      have e2 : skipF b.length p (0, 0) ((b.length : Int) - p) = (b.length, (0, 0), true) := by
        rw [skipF_ok rfl (by omega) (by omega)]
        rw [show p + ((b.length : Int) - p).toNat = b.length by omega]
      have e3 : takeB b p (0, 0) ((b.length : Int) - p) = cutB b p (b.length - p) := by
        unfold takeB; rw [e2]; show cutB b p _ = _
        rw [show ((b.length : Int) - p).toNat = b.length - p by omega]
      have E2 := Lib.hid e2
      have E3 := Lib.hid e3
      clear e2 e3 hbel
      go_wp2_with fail
      refine (cleft_at hrd.out).mono ?_; rintro e w2 ⟨rfl, hb2⟩
      have HB2 := Lib.hid hb2
      have hz2 := hb2.size
      clear hb2
      go_wp2_with fail
      refine (ctake_at (hrd.out.below HB2.out) ((b.length : Int) - p) (by omega) (by omega) (by omega)).mono ?_; rintro e w3 ⟨A3, n3, c3, rfl, ho3, hr3, hch3⟩
      rw [E2.out] at hr3
      rw [E3.out] at ho3
      have hn3 : n3 = b.length - p := by have := ho3.1; simp [cutB] at this; omega
      subst hn3
      have HR3 := Lib.hid hr3
      have hgne : some w.heap.size ≠ (Value.slice A1 p c1).ownBlock := by obtain ⟨_, _, hbk, _⟩ := hrd.out; exact Pen.ne' hbk hown.out (by decide)
      have HGN := Lib.hid hgne
      have HOW3 := Lib.hid (own_keep' (own_keep' hown.out (fun q hq => HB2.out.block q (own_lt hown.out hq))) (fun q hq => hch3.block q (Nat.lt_of_lt_of_le (own_lt hown.out hq) HB2.out.size) (fun h => hgne (by rw [← hq]; exact congrArg some (show q = w.heap.size from h).symm))))
      have HB3 := Lib.hid ((HBEL.out.trans (HB2.out.mono hz0)).trans (hch3.below (Nat.le_trans hz0 HB2.out.size) (fun k hk => Nat.le_of_eq (show k = w.heap.size from hk).symm)))
      have HSR3 := Lib.hid (Src.bytes (own_bytes ho3))
      clear hr3 ho3 hch3 hgne
      go_wp2_with (at_builtin; refine wpList_app rfl (.tmp 37) (.tmp 41) _ rfl elemU rfl HOW3.out rfl HSR3.out (by unfold maxLen; omega) (by omega) HB3.out.size ?_; intro A4 c4 w4 ho4 hg4 hat4
                   have hb4 : Below w.heap.size w w4 := HB3.out.grown hg4 HB3.out.size (fun q hq => (HOW3.out.lt q hq).1)
                   rw [← List.map_append, take_cut _ _ _ (by omega), List.take_of_length_le (show b.length ≤ p + (b.length - p) by omega)] at ho4
                   have HO4 := Lib.hid ho4
                   have HB4 := Lib.hid hb4
                   have HR4 := Lib.hid (HR3.out.keep (w' := w4) (fun q hq => hg4.block q (by rcases hq with rfl | hq; exact HR3.out.lt; exact HR3.out.dom q hq) (fun h => by
                     rcases hq with h1 | h1
                     · exact HGN.out ((congrArg some (show q = w.heap.size from h1)).symm.trans h)
                     · have := (HOW3.out.lt q h.symm).1
                       have h2 : q < w.heap.size := h1
                       omega)) hg4.size)
                   clear ho4 hg4 hat4 hb4)
      refine (cend_at HR4.out).mono ?_; rintro e w5 ⟨rfl, hr5, hch5⟩
      have e5 : endF b.length b.length (0, 0) = (0, 0) := by unfold endF; rw [if_neg (by omega)]
      rw [e5] at hr5
      have HR5 := Lib.hid hr5
      have hgne4 : some w.heap.size ≠ (Value.slice A4 (p + (b.length - p)) c4).ownBlock := by obtain ⟨_, _, hbk, _⟩ := HR4.out; exact Pen.ne' hbk HO4.out (by decide)
      have HOW5 := Lib.hid (own_keep' HO4.out (fun q hq => hch5.block q (own_lt HO4.out hq) (fun h => hgne4 (by rw [← hq]; exact congrArg some (show q = w.heap.size from h).symm))))
      have hb5 := HB4.out.trans (hch5.below HB4.out.size (fun k hk => Nat.le_of_eq (show k = w.heap.size from hk).symm))
      have HB5 := Lib.hid hb5
      have hz5 := hb5.size
      clear hr5 hch5 e5 hgne4 hb5
      go_wp2_with fail
      have ho5 := HOW5.out
      rw [show p + (b.length - p) = b.length by omega] at ho5
      have hs6 := same_any _ _ _ _ _ _ _ _ _ _ _ (own_bytes ho5) (Rp.sl_below HB.out HB5.out (fun k hk => hk))
      rw [beq_self_eq_true] at hs6
      refine hs6.mono ?_; rintro e w6 ⟨rfl, rfl⟩
      clear hs6 ho5
      go_wp2_with fail
      refine (cgood_at HR5.out).mono ?_; rintro e w6 ⟨rfl, hb6⟩
      have HR6 := Lib.hid (HR5.out.below hb6)
      have HB6 := Lib.hid (HB5.out.trans (hb6.mono hz5))
      clear hb6
      go_wp2_with fail
      refine (cat_at HR6.out).mono ?_; rintro e w7 ⟨rfl, rfl⟩
      go_wp2_with fail
      refine (csince_at HR6.out 0 (by decide) (by decide) (by omega)).mono ?_; rintro e w7 ⟨A7, n7, c7, rfl, ho7, hb7⟩
      rw [if_pos ⟨Int.le_refl _, by omega⟩, show ((0 : Int).toNat) = 0 from rfl, List.drop_zero, List.take_length] at ho7
      have HO7 := Lib.hid ho7
      have HR7 := Lib.hid (HR6.out.below hb7)
      have HB7 := Lib.hid (HB6.out.trans (hb7.mono HB6.out.size))
      clear ho7 hb7
      go_wp2_with fail
      have hs8 := same_any _ _ _ _ _ _ _ _ _ _ _ (own_bytes HO7.out) (Rp.sl_below HB.out HB7.out (fun k hk => hk))
      rw [beq_self_eq_true] at hs8
      refine hs8.mono ?_; rintro e w8 ⟨rfl, rfl⟩
      clear hs8
      go_wp2_with fail
      refine (cbyte_at HR7.out (by omega)).mono ?_; rintro e w8 ⟨rfl, hr8, hch8⟩
      have e8 : skipF b.length b.length (0, 0) 1 = (b.length, (1, (b.length : Int)), false) := skipF_bad3 rfl (by decide) (by omega)
      have e9 : byteB b b.length (0, 0) = 0 := by unfold byteB; rw [e8]; rfl
      rw [e8] at hr8
      rw [e9]
      have HR8 := Lib.hid hr8
      have HB8 := Lib.hid (HB7.out.trans (hch8.below HB7.out.size (fun k hk => Nat.le_of_eq (show k = w.heap.size from hk).symm)))
      clear hr8 hch8 e8 e9
      go_wp2_with fail
      refine (cfault_at HR8.out).mono ?_; rintro e w9 ⟨rfl, hb9⟩
      have HB9 := Lib.hid (HB8.out.trans (hb9.mono HB8.out.size))
      clear hb9
      go_wp2_with fail
      refine (HLIVE.out _).mono ?_; rintro e w10 ⟨rfl, hb10⟩
      go_wp2_with fail
      go_ret
      exact ⟨rfl, HB9.out.trans (hb10.mono HB9.out.size)⟩
end Go.Proofs.Ytjgcgedjpppfmaa

/- The walk of the law PenBound. -/
import Derived.Test.YtjgcgedjpppfmaaMax
namespace Go.Proofs.Ytjgcgedjpppfmaa
open Go.ChangeShapes Go.WideShapes Go.ChangeAt Go.RowKit
set_option linter.unusedVariables false

theorem own_keep {w w' : World} {base : Nat} {e : TypeId} {size n : Nat} {v : Value} {xs : List Value} (h : w.ownsRow base e size v n xs) (hs : ∀ k, some k = v.ownBlock → w'.heap[k]? = w.heap[k]?) : w'.ownsRow base e size v n xs := by
  refine ⟨h.1, ?_⟩
  rcases h.2 with hv | ⟨q, cap, cur, hv, hq, hh, rest⟩
  · exact .inl hv
  · exact .inr ⟨q, cap, cur, hv, hq, (hs q (by rw [hv]; rfl)).trans hh, rest⟩
theorem putB_full (most : Int) (b new : List UInt8) : putB most b 2 new = (b, 2) := by unfold putB; rw [if_pos (by decide)]
theorem putB_more (most : Int) (b new : List UInt8) (h : most < b.length + new.length) : putB most b 0 new = (b, 2) := by unfold putB; rw [if_neg (by decide), if_pos h]
theorem putB_fits (most : Int) (b new : List UInt8) (h : ¬ most < b.length + new.length) : putB most b 0 new = (b ++ new, 0) := by unfold putB; rw [if_neg (by decide), if_neg h]

set_option maxRecDepth 100000 in
set_option maxHeartbeats 4000000 in
theorem penBound_any (most : Int) (A : Option Addr) (n c : Nat) (l : List (List UInt8)) (w : World) (m0 : -9223372036854775808 ≤ most) (m1 : most ≤ 9223372036854775807) (hl : (rpSlice rpU8).sl w (lt w.heap.size) A n c l) :
    Calls Try.prog 4 #[.int .i64 most, .slice A n c] w fun e w' => e = .returned (.bool true) ∧ Below w.heap.size w w' := by
  obtain ⟨hlen, hnc, hcm⟩ := Rp.sl_len hl
  unfold maxLen at hcm
  obtain ⟨M, hM⟩ : ∃ M, M = max most 0 := ⟨_, rfl⟩
  have hmx : (if most < 0 then (0 : Int) else most) = M := by rw [hM]; split <;> omega
  have hM0 : 0 ≤ M := by omega
  have hM1 : M ≤ 9223372036854775807 := by omega
  have HM := Lib.hid hM
  clear hM
  have HL := Lib.hid hl
  have HN := Lib.hid hlen
  clear hl hlen
  go_enter Try.func4, Try.ntmps4
  go_wp2_with fail
  go_loop [5] (fun i => ∃ k : Nat, k ≤ n ∧ k ≤ 100 ∧ i = .int .i64 k ∧ Hid (∀ j x, j < k → l[j]? = some x → x.length ≤ 200)) (fun i => n - (intOf i).toNat)
  case atStart => exact ⟨0, by omega, by omega, rfl, fun j x h => by omega⟩
  case round =>
    obtain ⟨k, hk, hk100, rfl, hsh⟩ := hrel
    by_cases hin : k < n ∧ k < 100
    · obtain ⟨b, off, x, A', c', rfl, hb, hx, hcell, hrow⟩ := rows_at HL.out hin.1
      have hin1 := hin.1
      have hin2 := hin.2
      have hd1 : decide ((k : Int) < (n : Int)) = true := by simp; omega
      have hd2 : decide ((k : Int) < 100) = true := by simp; omega
      obtain ⟨_, hxc, hxm⟩ := Rp.sl_len hrow
      clear hrow
      by_cases hlong : 200 < x.length
      · have hd3 : decide ((200 : Int) < (x.length : Int)) = true := by simp; omega
        go_wp2_with fail
        refine (live_any _).mono ?_; rintro e w1 ⟨rfl, hb⟩
        go_wp2_with fail
        go_ret
        exact ⟨rfl, hb⟩
      · have hd3 : decide ((200 : Int) < (x.length : Int)) = false := by simp; omega
        go_wp2_with fail
        go_round
        case rel =>
          refine ⟨k + 1, by omega, by omega, by go_num, fun j y hj hy => ?_⟩
          rcases Nat.lt_or_ge j k with h | h
          · exact hsh.out j y h hy
          · obtain rfl : j = k := by omega
            rw [hx] at hy
            injection hy with hy
            subst hy
            omega
        case measure => simp [intOf]; omega
    · by_cases hmany : 100 < n
      · obtain rfl : k = 100 := by omega
        go_wp2_with fail
        refine (live_any _).mono ?_; rintro e w1 ⟨rfl, hb⟩
        go_wp2_with fail
        go_ret
        exact ⟨rfl, hb⟩
      · obtain rfl : k = n := by omega
        go_wp2_with fail
        refine (new_any _ _).mono ?_; rintro e w1 ⟨rfl, hp, hb⟩
        rw [← HM.out] at hp
        have HP := Lib.hid hp
        clear hp
        go_wp2_with fail
        go_loopw [7, 8, 9] (fun a f i wr => ∃ (j : Nat) (b : List UInt8) (F : Dom) (fb : Bool) (Aa : Option Addr) (ca : Nat), j ≤ k ∧ i = .int .i64 j ∧ f = .bool fb ∧ a = .slice Aa b.length ca ∧ b.length ≤ 200 * j ∧ (b.length : Int) ≤ M ∧ Hid (Pen wr F w.heap.size (M) b (if fb then 2 else 0)) ∧ Hid (wr.ownsRow w.heap.size 5 1 a b.length (b.map bv)) ∧ Hid (∀ q, F q → w.heap.size ≤ q ∧ some q ≠ a.ownBlock) ∧ Below w.heap.size w wr) (fun _ _ i _ => k - (intOf i).toNat)
        case atStart => exact ⟨0, [], _, false, none, 0, by omega, rfl, rfl, rfl, by simp, by simpa using hM0, HP, World.ownsRow_nil _ _ _ _, fun q hq => ⟨by omega, by simp [Value.ownBlock]⟩, hb⟩
        case round =>
          obtain ⟨j, b, F, fb, Aa, ca, hj, rfl, rfl, rfl, hbl, hbM, hpen, hown, hF, hbel⟩ := hrel
          by_cases hjk : j < k
          · obtain ⟨bb, off, x, A', c', rfl, hbb, hx, hcell, hrow⟩ := rows_at (Rp.sl_below HL.out hbel (fun k hk => hk)) hjk
            have hxl := hsh.out j x hjk hx
            have hsrc := Lib.hid (Src.bytes hrow)
            have HR := Lib.hid hrow
            clear hrow
            have hpp := hpen.out
            have hz0 := hbel.size
            have hlt1 : decide ((j : Int) < (k : Int)) = true := by simp; omega
            cases fb
            · rw [if_neg (by decide)] at hpp
              by_cases hfit : M < b.length + x.length
              · have hd : decide (M < (b.length : Int) + (x.length : Int)) = true := by simpa using hfit
                have hd2 : decide (M < (b.length : Int)) = false := by simp; omega
                go_wp2_with fail
                refine (put_at hpp hM0 hM1 (by omega) HR.out (fun k hk => Nat.lt_of_lt_of_le hk hbel.size) (by omega)).mono ?_; rintro e w2 ⟨rfl, F2, hp2, hch2, hF2⟩
                rw [putB_more _ _ _ hfit] at hp2
                have hlen2 := Lib.hid (len_at hp2)
                have hcode2 := Lib.hid (code_at hp2)
                have HP2 := Lib.hid hp2
                have HF2 := Lib.hid hF2
                have HCH := Lib.hid hch2
                clear hp2 hpp hpen HP hF2 hch2
                go_wp2_with fail
                refine hlen2.out.mono ?_; rintro e w3 ⟨rfl, rfl⟩
                go_wp2_with fail
                refine hlen2.out.mono ?_; rintro e w3 ⟨rfl, rfl⟩
                go_wp2_with fail
                refine hcode2.out.mono ?_; rintro e w3 ⟨rfl, rfl⟩
                go_wp2_with fail
                go_roundw
                case rel =>
                  have hb2 : Below w.heap.size wr w2 := HCH.out.below hz0 (fun q hq => (hF.out q hq).1)
                  refine ⟨j + 1, b, F2, true, Aa, ca, by omega, by go_num, rfl, rfl, by omega, hbM, HP2, ?_, ?_, hbel.trans hb2⟩
                  · exact Lib.hid (own_keep hown.out (fun q hq => HCH.out.block q (own_lt hown.out hq) (fun hh => (hF.out q hh).2 hq)))
                  · refine Lib.hid (fun q hq => ?_)
                    rcases HF2.out q hq with h | h
                    · exact hF.out q h
                    · exact ⟨by omega, fun he => by have := own_lt hown.out he; omega⟩
                case measure => simp [intOf]; omega
              · have hd : decide (M < (b.length : Int) + (x.length : Int)) = false := by simpa using hfit
                have hd2 : decide (M < (b.length : Int) + (x.length : Int)) = false := hd
                have hpl := Lib.hid hpp.lt
                have HPP := Lib.hid hpp
                clear hpp HP hpen
                go_wp2_with (at_builtin; refine wpList_app rfl (.tmp 60) (.tmp 64) _ rfl elemB rfl hown.out rfl hsrc.out (by unfold maxLen; omega) (by omega) hz0 ?_; intro A1 c1 w1 ho1 hg1 hat1
                             have hb1 : Below w.heap.size wr w1 := (Below.refl _ wr).grown hg1 hz0 (fun k hk => (hown.out.lt k hk).1)
                             have hz1 := hb1.size
                             have hp1 := HPP.out.keep ((Chg.of_grown hg1).same hpl.out (fun q hq => (hF.out q hq).2)) hz1
                             have HR1 := Lib.hid (Rp.sl_below HR.out hb1 (fun k hk => hk))
                             have HP1 := Lib.hid hp1
                             have hcell1 := (hb1.cell (p := ⟨bb, off + j, none⟩) hbb).trans hcell
                             have HB1 := Lib.hid hb1
                             rw [← List.map_append] at ho1
                             have HO1 := Lib.hid ho1
                             have HAT := Lib.hid hat1
                             clear hp1 hb1 ho1 hg1 hat1)
                refine (put_at HP1.out hM0 hM1 (by omega) HR1.out (fun k hk => Nat.lt_of_lt_of_le hk (Nat.le_trans hz0 hz1)) (by omega)).mono ?_; rintro e w2 ⟨rfl, F2, hp2, hch2, hF2⟩
                rw [putB_fits _ _ _ (by omega)] at hp2
                have hll : (b ++ x).length = b.length + x.length := List.length_append
                have hlen2 := Lib.hid (len_at hp2)
                have hcode2 := Lib.hid (code_at hp2)
                have HP2 := Lib.hid hp2
                have HF2 := Lib.hid hF2
                have HCH := Lib.hid hch2
                clear hp2 hF2 hch2
                rw [hll] at hlen2
                have HLL := Lib.hid hll
                clear hll
                go_wp2_with fail
                refine hlen2.out.mono ?_; rintro e w3 ⟨rfl, rfl⟩
                go_wp2_with fail
                refine hlen2.out.mono ?_; rintro e w3 ⟨rfl, rfl⟩
                go_wp2_with fail
                refine hcode2.out.mono ?_; rintro e w3 ⟨rfl, rfl⟩
                go_wp2_with fail
                go_roundw
                case rel =>
                  have hF1 : ∀ q, F q → w.heap.size ≤ q ∧ some q ≠ (Value.slice A1 (b.length + x.length) c1).ownBlock := fun q hq => by
                    refine ⟨(hF.out q hq).1, fun he => ?_⟩
                    rcases HAT.out with h | h
                    · exact (hF.out q hq).2 (he.trans h)
                    · rw [h] at he
                      injection he with he
                      have := hpl.out q hq
                      omega
                  have hb2 : Below w.heap.size w1 w2 := HCH.out.below (Nat.le_trans hz0 hz1) (fun q hq => (hF1 q hq).1)
                  refine ⟨j + 1, b ++ x, F2, false, A1, c1, by omega, by go_num, rfl, by rw [HLL.out], by rw [HLL.out]; omega, by rw [HLL.out]; omega, HP2, ?_, ?_, (hbel.trans HB1.out).trans hb2⟩
                  · rw [HLL.out]
                    exact Lib.hid (own_keep HO1.out (fun q hq => HCH.out.block q (own_lt HO1.out hq) (fun hh => (hF1 q hh).2 hq)))
                  · refine Lib.hid (fun q hq => ?_)
                    rcases HF2.out q hq with h | h
                    · exact hF1 q h
                    · exact ⟨by omega, fun he => by have := own_lt HO1.out he; omega⟩
                case measure => simp [intOf]; omega
            · rw [if_pos rfl] at hpp
              have hd2 : decide (M < (b.length : Int)) = false := by simp; omega
              clear HP
              go_wp2_with fail
              refine (put_at hpp hM0 hM1 (by omega) HR.out (fun k hk => Nat.lt_of_lt_of_le hk hbel.size) (by omega)).mono ?_; rintro e w2 ⟨rfl, F2, hp2, hch2, hF2⟩
              rw [putB_full] at hp2
              have hlen2 := Lib.hid (len_at hp2)
              have hcode2 := Lib.hid (code_at hp2)
              have HP2 := Lib.hid hp2
              have HF2 := Lib.hid hF2
              have HCH := Lib.hid hch2
              clear hp2 hpp hpen hF2 hch2
              go_wp2_with fail
              refine hlen2.out.mono ?_; rintro e w3 ⟨rfl, rfl⟩
              go_wp2_with fail
              refine hlen2.out.mono ?_; rintro e w3 ⟨rfl, rfl⟩
              go_wp2_with fail
              refine hcode2.out.mono ?_; rintro e w3 ⟨rfl, rfl⟩
              go_wp2_with fail
              go_roundw
              case rel =>
                have hb2 : Below w.heap.size wr w2 := HCH.out.below hz0 (fun q hq => (hF.out q hq).1)
                refine ⟨j + 1, b, F2, true, Aa, ca, by omega, by go_num, rfl, rfl, by omega, hbM, HP2, ?_, ?_, hbel.trans hb2⟩
                · exact Lib.hid (own_keep hown.out (fun q hq => HCH.out.block q (own_lt hown.out hq) (fun hh => (hF.out q hh).2 hq)))
                · refine Lib.hid (fun q hq => ?_)
                  rcases HF2.out q hq with h | h
                  · exact hF.out q h
                  · exact ⟨by omega, fun he => by have := own_lt hown.out he; omega⟩
              case measure => simp [intOf]; omega
          · obtain ⟨ws, hws⟩ : ∃ ws, ws = wr := ⟨_, rfl⟩
            subst hws
            obtain rfl : j = k := by omega
            have hpp := hpen.out
            have hz0 := hbel.size
            cases fb
            · rw [if_neg (by decide)] at hpp
              have hb20 : b.length ≤ 20000 := by omega
              have HPP := Lib.hid hpp
              clear hpp HP hpen
              go_wp2_with fail
              refine (bytes_ok HPP.out (by omega)).mono ?_; rintro e w1 ⟨Ab, nb, cb, rfl, ho1, hb1⟩
              have hnb := Lib.hid (show b.length = nb by simpa using ho1.1)
              have hnb2 : nb ≤ 20000 := by have := hnb.out; omega
              have HB1 := Lib.hid hb1
              have HO1 := Lib.hid ho1
              have hz1 := hb1.size
              clear hb1 ho1
              go_wp2_with fail
              go_loopw [12] (fun i wq => ∃ (q : Nat) (bs : List UInt8), q ≤ nb ∧ i = .int .i64 q ∧ bs.length = nb ∧ Hid (wq.ownsRow ws.heap.size 5 1 (.slice Ab nb cb) nb (bs.map bv)) ∧ Below ws.heap.size ws wq) (fun i _ => nb - (intOf i).toNat)
              case atStart => exact ⟨0, b, by omega, rfl, hnb.out, HO1, HB1.out⟩
              case round =>
                obtain ⟨q, bs, hq, rfl, hbs, hoq, hbq⟩ := hrel
                by_cases hqn : q < nb
                · obtain ⟨g, rfl, hg, hgl, hfr, hcells, hput⟩ := own_block hoq.out (by omega)
                  have hqb : q < bs.length := by omega
                  have hy : bs[q]? = some bs[q] := List.getElem?_eq_getElem hqb
                  generalize bs[q] = y at hy
                  have hcl : wr.cell? ⟨g, q, none⟩ = some (.int .u8 (y.toNat : Int)) := hcells q (bv y) (by rw [List.getElem?_map, hy]; rfl)
                  have hfq := hfr q
                  have HPUT := Lib.hid (fun u => hput q u hqn)
                  have hdq : decide ((q : Int) < (nb : Int)) = true := by simp; omega
                  clear hput hcells hfr
                  go_wp2_with fail
                  go_roundw
                  case rel =>
                    have hv : ((y.toNat : Int) + 1) % 256 = ((y + 1 : UInt8).toNat : Int) := by rw [UInt8.toNat_add]; simp
                    rw [hv]
                    refine ⟨q + 1, bs.set q (y + 1), by omega, by go_num, by rw [List.length_set]; exact hbs, ?_, hbq.setCell hg _⟩
                    have h1 := HPUT.out (bv (y + 1))
                    rw [← List.map_set] at h1
                    exact Lib.hid h1
                  case measure => simp [intOf]; omega
                · obtain rfl : q = nb := by omega
                  have HPQ := Lib.hid (HPP.out.below hbq)
                  have HOQ := Lib.hid (own_keep hown.out (fun k hk => hbq.block k (own_lt hown.out hk)))
                  go_wp2_with fail
                  refine (bytes_ok HPQ.out (by omega)).mono ?_; rintro e w2 ⟨Ac, nc, cc, rfl, ho2, hb2⟩
                  have HO2 := Lib.hid (own_bytes ho2)
                  have HB2 := Lib.hid hb2
                  have HAL := Lib.hid (own_bytes (own_keep HOQ.out (fun k hk => hb2.block k (own_lt HOQ.out hk))))
                  clear ho2 hb2
                  go_wp2_with fail
                  refine (same_any _ _ _ _ _ _ _ _ _ _ _ HO2.out HAL.out).mono ?_; rintro e w3 ⟨rfl, rfl⟩
                  rw [beq_self_eq_true]
                  go_wp2_with fail
                  refine (live_any _).mono ?_; rintro e w4 ⟨rfl, hb4⟩
                  go_wp2_with fail
                  go_ret
                  have h1 := hbel.trans (hbq.mono hz0)
                  have h2 := h1.trans (HB2.out.mono h1.size)
                  exact ⟨rfl, h2.trans (hb4.mono h2.size)⟩
            · rw [if_pos rfl] at hpp
              have HPP := Lib.hid hpp
              clear hpp HP hpen
              go_wp2_with fail
              refine (bytes_bad HPP.out (by decide)).mono ?_; rintro e w1 ⟨rfl, rfl⟩
              go_wp2_with fail
              refine (live_any _).mono ?_; rintro e w1 ⟨rfl, hb1⟩
              go_wp2_with fail
              go_ret
              exact ⟨rfl, hbel.trans (hb1.mono hz0)⟩
end Go.Proofs.Ytjgcgedjpppfmaa

/- One link more at the end of a list of one's own (in a talk's program). -/
import Derived.Test.YtnihaaifkogpbaaTuM
import Derived.Test.YtnihaaifkogpbaaLkD
import Derived.BigQuiet
namespace Go.Proofs.Ytnihaaifkogpbaa
open Go.ChangeShapes Go.WideShapes Go.ChangeAt Go.RowKit
set_option linter.unusedVariables false
section
variable {base n c k xn c5 s no co : Nat} {A A5 Ao : Option Addr} {l L : List Lnk} {xl : List Nat} {w w' : World}
theorem own_typeU {size m : Nat} {e : TypeId} {v : Value} {xs : List Value} (h : w.ownsRow base e size v m xs) {g : Nat} (hg : v.ownBlock = some g) : ∃ cs, w.heap[g]? = some (.cells cs e (0, 0)) := by
  rcases h.2 with ⟨hv, _⟩ | ⟨g', cap, cur, hv, _, hh, _⟩
  · rw [hv] at hg; cases hg
  · rw [hv] at hg
    have e : g' = g := Option.some.inj hg
    subst e
    exact ⟨cur, hh⟩
theorem tb_belowU (h : rpU64.sl w (Tb T64 (fun _ => False) w) A n c xl) (hb : Below w.heap.size w w') : rpU64.sl w' (Tb T64 (fun _ => False) w') A n c xl :=
  Rp.sl_more (Rp.sl_below h hb (fun k hk => hk.1)) (fun k hk => Tb.keep (fun k hk => hb.block k hk.1) hb.size hk)
theorem tu_push (hO : OLk w base Ao no co L) (hbz : base ≤ w.heap.size) (hR : rpU64.sl w (Tb T64 (fun _ => False) w) A5 xn c5 xl) (hs : s ≤ 18446744073709551615) :
    ∃ vals, (w.alloc (.cells (lkV s A5 xn c5) 44)).ownsRow base 44 2 (.slice Ao no co) no vals ∧ Src (w.alloc (.cells (lkV s A5 xn c5) 44)) (some ⟨w.heap.size, 0, none⟩) 1 2 (lkV s A5 xn c5).toList ∧ base ≤ (w.alloc (.cells (lkV s A5 xn c5) 44)).heap.size ∧
      ∀ A6 c6 w6, w6.ownsRow base 44 2 (.slice A6 (no + 1) c6) (no + 1) (vals ++ (lkV s A5 xn c5).toList) → (w.alloc (.cells (lkV s A5 xn c5) 44)).grownBy w6 (Value.slice Ao no co).ownBlock →
        OLk w6 base A6 (no + 1) c6 (L ++ [(s, xl)]) ∧ Below base w w6 ∧ (∀ g t cs, Blk w g t cs → t ≠ 44 → Blk w6 g t cs) := by
  have hba := below1 w (.cells (lkV s A5 xn c5) 44)
  have hO2 := OL.below hO hba
  obtain ⟨vals, ho, hn, hv⟩ := hO2
  have hbz2 := Nat.le_trans hbz hba.size
  have hR2 := tb_belowU hR hba
  refine ⟨vals, ho, Src.blk (size := 2) (blk11 w 44 (lkV s A5 xn c5)) rfl (by
      intro u hu
      simp only [List.mem_cons, List.not_mem_nil, or_false] at hu
      rcases hu with rfl | rfl <;> rfl), hbz2, fun A6 c6 w6 ho6 hg => ⟨?_, ?_, fun g t cs hb ht => ?_⟩⟩
  · have e := (Rp.sl_len hR2).1
    subst e
    exact OL.push ⟨vals, ho, hn, hv⟩ (vals := vals) ho hv t64_link (fun k h => h.elim) ho6 hg ⟨[.int .u64 (s : Int)], [.slice A5 xl.length c5], rfl, ⟨rfl, by show s < _; omega⟩, hR2⟩
  · exact (hba.mono hbz).grown hg hbz2 (fun q hq => (ho.lt q hq).1)
  · refine (keepB hb hba).grown hg (fun e => ?_)
    obtain ⟨cs', hcs⟩ := own_typeU ho e.symm
    exact ht (blk_type (keepB hb hba) hcs).symm
end
end Go.Proofs.Ytnihaaifkogpbaa

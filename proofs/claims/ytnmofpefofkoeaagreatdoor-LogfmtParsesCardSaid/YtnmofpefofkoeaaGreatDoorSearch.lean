/- slices.BinarySearchFunc at labels, by their names: what it computes, said as a plain search. Its condition: at most a million labels. -/
import Derived.Test.YtnmofpefofkoeaaGreatDoorByName
import Derived.Deep.LoopGhost
import Derived.Deep.RegionWith
import Derived.BigRegion
set_option linter.unusedVariables false
namespace Go.Proofs.YtnmofpefofkoeaaGreatDoor
open Go Go.RowKit Go.Lib Go.Proofs.YtnmofpefofkoeaaGreatDoorW.PrintWords Go.Proofs.YtnmofpefofkoeaaGreatDoorW.PrintLast Go.Proofs.YtnmofpefofkoeaaGreatDoorW.PrintMore Go.Proofs.YtnmofpefofkoeaaGreatDoor.P

def bsP (l : List Lab) (n : ByteArray) : Nat → Nat → Nat → Nat
  | 0, i, _ => i
  | k + 1, i, j => if i < j then (if compareBytes (l.getD ((i + j) / 2) z35).f0.data.toList n.data.toList < 0 then bsP l n k ((i + j) / 2 + 1) j else bsP l n k i ((i + j) / 2)) else i

set_option maxRecDepth 100000 in
set_option maxHeartbeats 4000000 in
theorem search_calls (t : Lab) (A0 : Option Addr) (c0 : Nat) (l0 : List Lab) (w : World) (hr0 : Kd.C k35 w A0 l0.length l0) (hc0 : l0.length ≤ c0) (hlen : l0.length ≤ 1000000) :
    Calls Tryz.prog 26 #[.slice A0 l0.length c0, labV t, .func (.func 27) #[] #[]] w fun e w' =>
      ∃ b, e = .returned (.tuple #[.int .i64 (bsP l0 t.f0 (l0.length + 1) 0 l0.length : Nat), .bool b]) ∧ Below w.heap.size w w' := by
  have hu := Tryz.underlying35
  generalize hres : bsP l0 t.f0 (l0.length + 1) 0 l0.length = res
  have HRES := Aside0.mk hres
  have HR0 := Aside0.mk hr0
  have HL := Aside0.mk hlen
  clear hr0 hc0 hres
  go_enter Tryz.func26, Tryz.ntmps26
  go_wp2
  have BK0 := Aside0.mk (blk_new w (.cells #[.string t.f0, .string t.f1] 35))
  have HB := Aside0.mk (Below.refl (w.alloc (.cells #[.string t.f0, .string t.f1] 35)).heap.size (w.alloc (.cells #[.string t.f0, .string t.f1] 35)))
  generalize hw1 : w.alloc (.cells #[.string t.f0, .string t.f1] 35) = w1 at BK0 HB
  have HW : Aside0 (Below w.heap.size w w1) := ⟨by rw [← hw1]; exact below_alloc (Below.refl _ _) _⟩
  clear hw1
  go_loopg [9, 10] (l0.length + 1) (fun kq v9 v10 wr => ∃ lo hi : Nat, v9 = .int .i64 lo ∧ v10 = .int .i64 hi ∧ hi ≤ l0.length ∧ lo ≤ hi ∧ hi < lo + kq ∧ Aside0 (bsP l0 t.f0 kq lo hi = res) ∧ Aside0 (Below w1.heap.size w1 wr))
  case atStart => exact ⟨0, l0.length, rfl, rfl, Nat.le_refl _, Nat.zero_le _, by omega, HRES, HB⟩
  case round =>
    clear HB
    obtain ⟨lo, hi, rfl, rfl, hin, hln, hg, HS, HB⟩ := hrel
    have BK : Aside0 _ := ⟨blk_below BK0.out HB.out⟩
    have ht0 := (blk_cell BK.out 0).trans rfl
    have ht1 := (blk_cell BK.out 1).trans rfl
    cases gk with
    | zero => exact absurd hg (by omega)
    | succ kq =>
      by_cases hlt : lo < hi
      · have hdh : (lo + hi) / 2 < l0.length := by omega
        obtain ⟨h, hh⟩ : ∃ h : Nat, (lo + hi) / 2 = h := ⟨_, rfl⟩
        have hh2 : ((lo : Int) + (hi : Int)) / 2 = (h : Int) := by omega
        rw [hh] at hdh
        obtain ⟨ad, e1, hx0, hx1⟩ := at_T35 HR0.out (h : Int) (by omega) (by omega)
        cases e1
        have hrd : rd_T35 l0 (h : Int) = l0.getD h z35 := rfl
        rw [hrd] at hx0 hx1
        have hS := HS.out
        rw [bsP, if_pos hlt, hh] at hS
        generalize l0.getD h z35 = x at hx0 hx1 hS
        replace hx0 := (HB.out.cell (World.block_lt_of_cell? w1 _ ((HW.out.cell (World.block_lt_of_cell? w _ hx0)).trans hx0))).trans ((HW.out.cell (World.block_lt_of_cell? w _ hx0)).trans hx0)
        replace hx1 := (HB.out.cell (World.block_lt_of_cell? w1 _ ((HW.out.cell (World.block_lt_of_cell? w _ hx1)).trans hx1))).trans ((HW.out.cell (World.block_lt_of_cell? w _ hx1)).trans hx1)
        have hy0 : wr.cell? (ad.add (h * 2)) = some (.string x.f0) := hx0
        have hy1 : wr.cell? ⟨(ad.add (h * 2)).block, (ad.add (h * 2)).off + 1, none⟩ = some (.string x.f1) := hx1
        clear hx0 hx1
        by_cases hc : compareBytes x.f0.data.toList t.f0.data.toList < 0
        · rw [if_pos hc] at hS
          have hcb := decide_eq_true hc
          go_wp2
          go_region_with (go_at_call 27; (with_reducible refine (byName_calls x t _).mono ?_); rintro e w' ⟨rfl, hb⟩)
          all_goals
            have NB := Aside0.mk (below_step (below_drew1 HB.out) hb)
            clear HB hb
            go_wp2
            go_roundg kq
            case measure => omega
            case rel => exact ⟨h + 1, hi, by first | rfl | (simp; done), rfl, hin, by omega, by omega, ⟨hS⟩, NB⟩
        · rw [if_neg hc] at hS
          have hcb := decide_eq_false hc
          go_wp2
          go_region_with (go_at_call 27; (with_reducible refine (byName_calls x t _).mono ?_); rintro e w' ⟨rfl, hb⟩)
          all_goals
            have NB := Aside0.mk (below_step (below_drew1 HB.out) hb)
            clear HB hb
            go_wp2
            go_roundg kq
            case measure => omega
            case rel => exact ⟨lo, h, rfl, by first | rfl | (simp; done), by omega, by omega, by omega, ⟨hS⟩, NB⟩
      · have hS := HS.out
        rw [bsP, if_neg hlt] at hS
        subst hS
        by_cases hn : lo < l0.length
        · obtain ⟨ad, e1, hx0, hx1⟩ := at_T35 HR0.out (lo : Int) (by omega) (by omega)
          cases e1
          generalize rd_T35 l0 (lo : Int) = x at hx0 hx1
          replace hx0 := (HB.out.cell (World.block_lt_of_cell? w1 _ ((HW.out.cell (World.block_lt_of_cell? w _ hx0)).trans hx0))).trans ((HW.out.cell (World.block_lt_of_cell? w _ hx0)).trans hx0)
          replace hx1 := (HB.out.cell (World.block_lt_of_cell? w1 _ ((HW.out.cell (World.block_lt_of_cell? w _ hx1)).trans hx1))).trans ((HW.out.cell (World.block_lt_of_cell? w _ hx1)).trans hx1)
          have hy0 : wr.cell? (ad.add (lo * 2)) = some (.string x.f0) := hx0
          have hy1 : wr.cell? ⟨(ad.add (lo * 2)).block, (ad.add (lo * 2)).off + 1, none⟩ = some (.string x.f1) := hx1
          clear hx0 hx1
          have hnI : (lo : Int) < (l0.length : Int) := by omega
          have hnd : decide ((lo : Int) < (l0.length : Int)) = true := decide_eq_true hnI
          have p1 : (0 : Int) ≤ (lo : Int) := by omega
          go_wp2
          refine wp_region_any (by kernel_rfl) ?_
          try (change wpAny _ _ _ _ _ _ _ (World.drew _))
          refine wpAny_take (i := 0) (v := .int .i64 lo) rfl (by kernel_rfl) (by kernel_rfl) (by kernel_rfl) (fun _ _ _ h => h) (Or.inl ⟨by rfl, ?hy0⟩) ?_
          case hy0 => intro w; go_simp; try rfl
          refine wpAny_take (i := 1) (v := .int .i64 lo) rfl (by kernel_rfl) (by kernel_rfl) (by kernel_rfl) (fun _ _ _ h => h) (Or.inl ⟨by rfl, ?hy1⟩) ?_
          case hy1 => intro w; go_simp; try rfl
          refine wpAny_take (i := 2) (v := .int .i64 l0.length) rfl (by kernel_rfl) (by kernel_rfl) (by kernel_rfl) (fun _ _ _ h => h) (Or.inl ⟨by rfl, ?hy2⟩) ?_
          case hy2 => intro w; go_simp; try rfl
          refine wpAny_take (i := 3) (v := .bool true) rfl (by kernel_rfl) (by kernel_rfl) (by kernel_rfl) (fun _ _ _ h => h) (Or.inl ⟨by rfl, ?hy3⟩) ?_
          case hy3 => intro w; go_simp; try rfl
          refine wpAny_take (i := 4) (v := .bool true) rfl (by kernel_rfl) (by kernel_rfl) (by kernel_rfl) (fun _ _ _ h => h) (Or.inl ⟨by rfl, ?hy4⟩) ?_
          case hy4 => intro w; go_simp; try rfl
          refine wpAny_take (i := 5) (v := .func (.func 27) #[] #[]) rfl (by kernel_rfl) (by kernel_rfl) (by kernel_rfl) (fun _ _ _ h => h) (Or.inl ⟨by kernel_rfl, ?hy5⟩) ?_
          case hy5 => intro w; go_simp; try rfl
          refine wpAny_take (i := 6) (v := .slice (some ad) l0.length c0) rfl (by kernel_rfl) (by kernel_rfl) (by kernel_rfl) (fun _ _ _ h => h) (Or.inl ⟨by kernel_rfl, ?hy6⟩) ?_
          case hy6 => intro w; go_simp; try rfl
          refine wpAny_take (i := 7) (v := .int .i64 lo) rfl (by kernel_rfl) (by kernel_rfl) (by kernel_rfl) (fun _ _ _ h => h) (Or.inl ⟨by kernel_rfl, ?hy7⟩) ?_
          case hy7 => intro w; go_simp; try rfl
          refine wpAny_take (i := 8) (v := .pointer (some (ad.add (lo * 2)))) rfl (by kernel_rfl) (by kernel_rfl) (by kernel_rfl) (fun _ _ _ h => h) (Or.inl ⟨by kernel_rfl, ?hy8⟩) ?_
          case hy8 => intro w; go_simp; try rfl
          refine wpAny_ready (rs := [9, 10]) (by kernel_rfl) (by simp) ?_
          refine AllReady.cons rfl (fun K hK => ?_) (AllReady.cons rfl (fun K hK => ?_) AllReady.nil)
          · go_simp
            refine hK _ _ ?_
            clear hK K
            refine wpAny_ready (rs := [10]) (by kernel_rfl) (by simp) ?_
            refine AllReady.cons rfl (fun K hK => ?_) AllReady.nil
            go_simp
            refine hK _ _ ?_
            clear hK K
            refine wpAny_ready (rs := [11]) (by kernel_rfl) (by simp) ?_
            refine AllReady.cons rfl (fun K hK => ?_) AllReady.nil
            go_simp
            refine (byName_calls x t _).mono ?_
            rintro e w' ⟨rfl, hb⟩
            have NB := Aside0.mk (below_step (below_drew1 HB.out) hb)
            clear HB hb
            refine hK _ _ ?_
            clear hK K
            refine wpAny_take (i := 12) (v := .bool (compareBytes x.f0.data.toList t.f0.data.toList == 0)) rfl (by kernel_rfl) (by kernel_rfl) (by kernel_rfl) (fun _ _ _ h => h) (Or.inl ⟨by kernel_rfl, ?hy12⟩) ?_
            case hy12 => intro w; go_simp; try rfl
            refine wpAny_take (i := 13) (v := .bool (compareBytes x.f0.data.toList t.f0.data.toList == 0)) rfl (by kernel_rfl) (by kernel_rfl) (by kernel_rfl) (fun _ _ _ h => h) (Or.inl ⟨by kernel_rfl, ?hy13⟩) ?_
            case hy13 => intro w; go_simp; try rfl
            refine wpAny_take (i := 14) (v := .int .i64 lo) rfl (by kernel_rfl) (by kernel_rfl) (by kernel_rfl) (fun _ _ _ h => h) (Or.inl ⟨by kernel_rfl, ?hy14⟩) ?_
            case hy14 => intro w; go_simp; try rfl
            refine wpAny_take (i := 15) (v := .bool (compareBytes x.f0.data.toList t.f0.data.toList == 0)) rfl (by kernel_rfl) (by kernel_rfl) (by kernel_rfl) (fun _ _ _ h => h) (Or.inl ⟨by kernel_rfl, ?hy15⟩) ?_
            case hy15 => intro w; go_simp; try rfl
            refine wpAny_done (by kernel_rfl) ?_ _
            go_wp2
            go_ret2
            exact ⟨_, rfl, below_then HW.out HW.out.size NB.out⟩
          · go_simp
            refine hK _ _ ?_
            clear hK K
            refine wpAny_ready (rs := [9]) (by kernel_rfl) (by simp) ?_
            refine AllReady.cons rfl (fun K hK => ?_) AllReady.nil
            go_simp
            refine hK _ _ ?_
            clear hK K
            refine wpAny_ready (rs := [11]) (by kernel_rfl) (by simp) ?_
            refine AllReady.cons rfl (fun K hK => ?_) AllReady.nil
            go_simp
            refine (byName_calls x t _).mono ?_
            rintro e w' ⟨rfl, hb⟩
            have NB := Aside0.mk (below_step (below_drew1 HB.out) hb)
            clear HB hb
            refine hK _ _ ?_
            clear hK K
            refine wpAny_take (i := 12) (v := .bool (compareBytes x.f0.data.toList t.f0.data.toList == 0)) rfl (by kernel_rfl) (by kernel_rfl) (by kernel_rfl) (fun _ _ _ h => h) (Or.inl ⟨by kernel_rfl, ?hy12⟩) ?_
            case hy12 => intro w; go_simp; try rfl
            refine wpAny_take (i := 13) (v := .bool (compareBytes x.f0.data.toList t.f0.data.toList == 0)) rfl (by kernel_rfl) (by kernel_rfl) (by kernel_rfl) (fun _ _ _ h => h) (Or.inl ⟨by kernel_rfl, ?hy13⟩) ?_
            case hy13 => intro w; go_simp; try rfl
            refine wpAny_take (i := 14) (v := .int .i64 lo) rfl (by kernel_rfl) (by kernel_rfl) (by kernel_rfl) (fun _ _ _ h => h) (Or.inl ⟨by kernel_rfl, ?hy14⟩) ?_
            case hy14 => intro w; go_simp; try rfl
            refine wpAny_take (i := 15) (v := .bool (compareBytes x.f0.data.toList t.f0.data.toList == 0)) rfl (by kernel_rfl) (by kernel_rfl) (by kernel_rfl) (fun _ _ _ h => h) (Or.inl ⟨by kernel_rfl, ?hy15⟩) ?_
            case hy15 => intro w; go_simp; try rfl
            refine wpAny_done (by kernel_rfl) ?_ _
            go_wp2
            go_ret2
            exact ⟨_, rfl, below_then HW.out HW.out.size NB.out⟩
        · have hnd : decide ((lo : Int) < (l0.length : Int)) = false := decide_eq_false (by omega)
          go_wp2
          repeat (go_quiet (fail); try go_wp2)
          go_ret2
          exact ⟨_, rfl, below_then HW.out HW.out.size (pw_below_drewN HB.out _)⟩
end Go.Proofs.YtnmofpefofkoeaaGreatDoor

/- labels.Get: what it answers: the first label's value that has the name. Its condition: at most a million labels. -/
import Derived.Test.YtnmofpefofkoeaaGreatDoorByName
import Derived.Deep.LoopGhost
import Derived.Deep.RegionWith
import Derived.BigRegion
set_option linter.unusedVariables false
namespace Go.Proofs.YtnmofpefofkoeaaGreatDoor
open Go Go.RowKit Go.Lib Go.Proofs.YtnmofpefofkoeaaGreatDoorW.PrintWords Go.Proofs.YtnmofpefofkoeaaGreatDoorW.PrintLast Go.Proofs.YtnmofpefofkoeaaGreatDoorW.PrintMore Go.Proofs.YtnmofpefofkoeaaGreatDoor.P

set_option maxRecDepth 100000 in
set_option maxHeartbeats 1000000 in
theorem get1_calls (a : Lab) (n : ByteArray) (B : Nat) (w : World) (hB : w.cell? ⟨B, 0, none⟩ = some (.string n)) (hl : B < w.heap.size) :
    Calls Tryz.prog 32 #[labV a, .pointer (some ⟨B, 0, none⟩)] w fun e w' => e = .returned (.bool (a.f0.toList == n.toList)) ∧ Below w.heap.size w w' := by
  have hu := Tryz.underlying35
  go_enter Tryz.func32, Tryz.ntmps32
  go_wp2
  go_ret
  exact ⟨rfl, by repeat (first | exact Below.refl _ _ | apply below_alloc | apply pw_below_drewN | apply below_drew1)⟩

def idxL (n : ByteArray) : List Lab → Nat → Int
  | [], _ => -1
  | x :: l, i => if (x.f0.toList == n.toList) = true then (i : Int) else idxL n l (i + 1)
def getP (n : ByteArray) : List Lab → ByteArray
  | [] => ⟨#[]⟩
  | x :: l => if (x.f0.toList == n.toList) = true then x.f1 else getP n l
theorem idxL_none (n : ByteArray) : ∀ (l : List Lab) (i : Nat), idxL n l i < 0 → getP n l = ⟨#[]⟩ ∧ idxL n l i = -1
  | [], _, _ => ⟨rfl, rfl⟩
  | x :: l, i, h => by
    rw [idxL] at h ⊢
    rw [getP]
    by_cases hx : (x.f0.toList == n.toList) = true
    · rw [if_pos hx] at h; omega
    · rw [if_neg hx] at h ⊢; rw [if_neg hx]; exact idxL_none n l (i + 1) h
theorem idxL_some (n : ByteArray) : ∀ (l : List Lab) (i : Nat), 0 ≤ idxL n l i → ∃ j x, idxL n l i = ((i + j : Nat) : Int) ∧ l[j]? = some x ∧ x.f1 = getP n l
  | [], _, h => by rw [idxL] at h; omega
  | x :: l, i, h => by
    rw [idxL] at h ⊢
    rw [getP]
    by_cases hx : (x.f0.toList == n.toList) = true
    · rw [if_pos hx, if_pos hx]; exact ⟨0, x, rfl, rfl, rfl⟩
    · rw [if_neg hx] at h ⊢
      rw [if_neg hx]
      obtain ⟨j, y, e, hj, hy⟩ := idxL_some n l (i + 1) h
      exact ⟨j + 1, y, by rw [e]; omega, by simpa using hj, hy⟩

set_option maxRecDepth 100000 in
set_option maxHeartbeats 4000000 in
theorem indexFunc_calls (n : ByteArray) (B : Nat) (A0 : Option Addr) (c0 : Nat) (l0 : List Lab) (w : World) (hr0 : Kd.C k35 w A0 l0.length l0) (hc0 : l0.length ≤ c0) (hn : w.cell? ⟨B, 0, none⟩ = some (.string n)) (hlen : l0.length ≤ 1000000) :
    Calls Tryz.prog 31 #[.slice A0 l0.length c0, .func (.func 32) #[] #[.pointer (some ⟨B, 0, none⟩)]] w fun e w' =>
      e = .returned (.int .i64 (idxL n l0 0)) ∧ Below w.heap.size w w' := by
  have hu := Tryz.underlying35
  have hBl := World.block_lt_of_cell? w _ hn
  generalize hres : idxL n l0 0 = res
  have HRES : Aside0 (idxL n (l0.drop 0) 0 = res) := ⟨hres⟩
  have HR0 := Aside0.mk hr0
  have HN := Aside0.mk hn
  have HL := Aside0.mk hlen
  clear hr0 hc0 hn hlen hres
  go_enter Tryz.func31, Tryz.ntmps31
  go_wp2
  go_loopg [5, 8] l0.length (fun kq _ v8 wr => ∃ (j : Int), v8 = .int .i64 j ∧ Aside0 (∃ i : Nat, j = (i : Int) ∧ kq + i = l0.length ∧ idxL n (l0.drop i) i = res) ∧ Aside0 (Below w.heap.size w wr))
  case atStart => exact ⟨0, rfl, ⟨0, rfl, rfl, HRES.out⟩, ⟨Below.refl _ _⟩⟩
  case round =>
    obtain ⟨j, rfl, ⟨i, hij, hk, hO⟩, HB⟩ := hrel
    cases gk with
    | zero =>
      have hg : decide (j < (l0.length : Int)) = false := decide_eq_false (by omega)
      rw [List.drop_of_length_le (by omega)] at hO
      rw [idxL] at hO
      subst hO
      clear hij hk
      go_wp2
      go_ret
      exact ⟨rfl, HB.out⟩
    | succ kq =>
      have hi : i < l0.length := by omega
      obtain ⟨ad, e1, hx0, hx1⟩ := at_T35 HR0.out j (by omega) (by omega)
      cases e1
      have hrd : rd_T35 l0 j = l0[i] := by
        unfold rd_T35
        rw [show j.toNat = i by omega, List.getD_eq_getElem?_getD, List.getElem?_eq_getElem hi]; rfl
      rw [List.drop_eq_getElem_cons hi, idxL] at hO
      rw [hrd] at hx0 hx1
      generalize l0[i] = x at hx0 hx1 hO
      clear hrd
      replace hx0 := (HB.out.cell (World.block_lt_of_cell? w _ hx0)).trans hx0
      replace hx1 := (HB.out.cell (World.block_lt_of_cell? w _ hx1)).trans hx1
      have hg : decide (j < (l0.length : Int)) = true := decide_eq_true (by omega)
      have p1 : (0 ≤ j) = True := eq_true (by omega)
      have q1 : (j < (l0.length : Int)) = True := eq_true (by omega)
      have HJ : Aside0 (j = (i : Int) ∧ kq + 1 + i = l0.length) := ⟨hij, hk⟩
      cases hkp : (x.f0.toList == n.toList) with
      | true =>
        rw [hkp, if_pos rfl] at hO
        have HO := Aside0.mk hO
        clear hO hij hk hi
        go_wp2_with (go_at_call 32; (with_reducible refine (get1_calls x n B _ ?cB ?cL).mono ?_); (case cB => exact (HB.out.cell (p := ⟨B, 0, none⟩) hBl).trans HN.out); (case cL => exact Nat.lt_of_lt_of_le hBl (below_size HB.out)); rintro e w7 ⟨rfl, hb⟩; rw [hkp]; have NB := Aside0.mk (below_step HB.out hb); clear hb)
        go_ret
        exact ⟨by rw [← HO.out, HJ.out.1]; rfl, NB.out⟩
      | false =>
        rw [hkp, if_neg Bool.false_ne_true] at hO
        have HO := Aside0.mk hO
        clear hO hij hk hi
        go_wp2_with (go_at_call 32; (with_reducible refine (get1_calls x n B _ ?cB ?cL).mono ?_); (case cB => exact (HB.out.cell (p := ⟨B, 0, none⟩) hBl).trans HN.out); (case cL => exact Nat.lt_of_lt_of_le hBl (below_size HB.out)); rintro e w7 ⟨rfl, hb⟩; rw [hkp]; have NB := Aside0.mk (below_step HB.out hb); clear hb)
        go_roundg kq
        case measure => have := HJ.out; omega
        case rel =>
          refine ⟨wrap64 (j + 1), rfl, ⟨i + 1, ?_, ?_, HO.out⟩, NB⟩
          · have := HJ.out; have := HL.out; unfold wrap64; omega
          · have := HJ.out; omega

def P.labels_Get.f (l0 : List S35) (a1 : ByteArray) : Option ByteArray := if l0.length ≤ 1000000 then some (getP a1 l0) else none
set_option maxRecDepth 100000 in
set_option maxHeartbeats 4000000 in
theorem P.labels_Get.calls (A0 : Option Addr) (c0 : Nat) (l0 : List S35) (a1 : ByteArray) (r : ByteArray) (w : World) (hr0 : Kd.C k35 w A0 l0.length l0) (hc0 : l0.length ≤ c0) (h : P.labels_Get.f l0 a1 = some r) :
    Calls Tryz.prog 16 #[.slice A0 l0.length c0, .string a1] w fun e w' => e = .returned (.string r) ∧ Below w.heap.size w w' := by
  unfold P.labels_Get.f at h
  by_cases hlen : l0.length ≤ 1000000
  case neg => rw [if_neg hlen] at h; exact absurd h (by simp)
  rw [if_pos hlen] at h
  injection h with h
  subst h
  have hmf : ∀ (fn : Fn) (first cap : Array Value) (w : World), (Instr.makeFunc fn first cap).run Tryz.prog w = .ok (.func fn first cap) w := fun _ _ _ _ => by simp [Instr.makeFunc, go_sem]
  have hu := Tryz.underlying35
  have HR0 := Aside0.mk hr0
  have HC0 := Aside0.mk hc0
  have HL := Aside0.mk hlen
  by_cases hi : idxL a1 l0 0 < 0
  · obtain ⟨e1, e2⟩ := idxL_none a1 l0 0 hi
    rw [e1]
    clear hi e1 hr0 hc0 hlen
    go_enter Tryz.func16, Tryz.ntmps16
    go_wp2_with (go_at_call 31; (with_reducible refine (indexFunc_calls a1 w.heap.size A0 c0 l0 _ (Kd.C_below HR0.out (below_alloc (Below.refl _ _) _)) HC0.out (by first | exact (blk_cell (blk_new w _) 0).trans rfl | exact World.cell?_alloc_new _ _) HL.out).mono ?_); rintro e w1 ⟨rfl, hb⟩; rw [e2]; have HB := Aside0.mk hb; clear hb)
    go_ret
    exact ⟨rfl, below_step (below_alloc (Below.refl _ _) _) HB.out⟩
  · obtain ⟨j, x, e2, hj, e1⟩ := idxL_some a1 l0 0 (by omega)
    rw [← e1]
    have hjl : j < l0.length := by
      rcases Nat.lt_or_ge j l0.length with h | h
      · exact h
      · rw [List.getElem?_eq_none h] at hj; exact absurd hj (by simp)
    rw [Nat.zero_add] at e2
    obtain ⟨ad, ea, hx0, hx1⟩ := at_T35 HR0.out (j : Int) (by omega) (by omega)
    cases ea
    have hrd : rd_T35 l0 (j : Int) = x := by
      unfold rd_T35
      rw [Int.toNat_natCast, List.getD_eq_getElem?_getD, hj]; rfl
    rw [hrd] at hx0 hx1
    have p1 : (0 ≤ (j : Int)) = True := eq_true (by omega)
    have q1 : ((j : Int) < (l0.length : Int)) = True := eq_true (by omega)
    have hg : decide ((j : Int) < 0) = false := decide_eq_false (by omega)
    have HX1 := Aside0.mk hx1
    clear hi e1 hr0 hc0 hlen hj hrd hjl hx0 hx1
    go_enter Tryz.func16, Tryz.ntmps16
    go_wp2_with (go_at_call 31; (with_reducible refine (indexFunc_calls a1 w.heap.size (some ad) c0 l0 _ (Kd.C_below HR0.out (below_alloc (Below.refl _ _) _)) HC0.out (by first | exact (blk_cell (blk_new w _) 0).trans rfl | exact World.cell?_alloc_new _ _) HL.out).mono ?_); rintro e w1 ⟨rfl, hb⟩; rw [e2]; have HB := Aside0.mk (below_step (below_alloc (Below.refl _ _) _) hb); clear hb; have hy1 : w1.cell? ⟨(ad.add (j * 2)).block, (ad.add (j * 2)).off + 1, none⟩ = some (.string x.f1) := (HB.out.cell (World.block_lt_of_cell? w _ HX1.out)).trans HX1.out)
    go_ret
    exact ⟨rfl, HB.out⟩
end Go.Proofs.YtnmofpefofkoeaaGreatDoor

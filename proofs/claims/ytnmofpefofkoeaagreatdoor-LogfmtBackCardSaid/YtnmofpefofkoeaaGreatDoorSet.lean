/- labels.Set: labels with one. Its condition: at most 999,999 labels. -/
import Derived.Test.YtnmofpefofkoeaaGreatDoorChoose
import Derived.Test.YtnmofpefofkoeaaGreatDoorSearch
import Derived.Test.YtnmofpefofkoeaaGreatDoorInsert2
set_option linter.unusedVariables false
namespace Go.Proofs.YtnmofpefofkoeaaGreatDoor
open Go Go.RowKit Go.Lib Go.Proofs.YtnmofpefofkoeaaGreatDoorW.PrintWords Go.Proofs.YtnmofpefofkoeaaGreatDoorW.PrintLast Go.Proofs.YtnmofpefofkoeaaGreatDoorW.PrintMore Go.Proofs.YtnmofpefofkoeaaGreatDoor.P

theorem bsP_le (l : List Lab) (n : ByteArray) : ∀ k i j, i ≤ j → bsP l n k i j ≤ j
  | 0, i, j, h => by rw [bsP]; exact h
  | k + 1, i, j, h => by
    rw [bsP]
    split
    · split
      · exact bsP_le l n k _ _ (by omega)
      · exact Nat.le_trans (bsP_le l n k _ _ (by omega)) (by omega)
    · exact h
/-- The place of a name among labels in order. -/
abbrev placeP (l : List Lab) (n : ByteArray) : Nat := bsP l n (l.length + 1) 0 l.length
def setP (l : List Lab) (n v : ByteArray) : List Lab :=
  if v.toList = [] then l.filter (keepB n) else (l.filter (keepB n)).take (placeP (l.filter (keepB n)) n) ++ ⟨n, v⟩ :: (l.filter (keepB n)).drop (placeP (l.filter (keepB n)) n)

theorem lab_reads {w : World} {base : Nat} {ok : Nat → Prop} {v : Value} {l : List Lab} (h : Kd.R k35 35 w base ok v l) : ∃ A c, v = .slice A l.length c ∧ Kd.C k35 w A l.length l ∧ l.length ≤ c := by
  obtain ⟨A, c, e, hl, hC⟩ := Kd.R_reads h
  exact ⟨A, c, e, hC, hl⟩

set_option maxRecDepth 100000 in
set_option maxHeartbeats 4000000 in
theorem set_none (n v : ByteArray) (A0 : Option Addr) (c0 : Nat) (l0 : List Lab) (w : World) (hr0 : Kd.C k35 w A0 l0.length l0) (hc0 : l0.length ≤ c0) (k : Nat) (hord : P.labels_inOrder.f k l0 = some false) :
    Calls Tryz.prog 12 #[.slice A0 l0.length c0, .string n, .string v] w fun e w' => ∃ v', e = .returned v' ∧ Kd.R k35 35 w' w.heap.size (fun _ => True) v' [] ∧ Below w.heap.size w w' := by
  have HR0 := Aside0.mk hr0
  have HC0 := Aside0.mk hc0
  have HO := Aside0.mk hord
  clear hr0 hc0 hord
  go_enter Tryz.func12, Tryz.ntmps12
  go_wp2_with (go_at_call 24; (with_reducible refine (P.labels_inOrder.calls k A0 c0 l0 false _ HR0.out HC0.out HO.out).mono ?_); rintro e w1 ⟨rfl, hb⟩; have HB := Aside0.mk hb; clear hb)
  go_ret
  exact ⟨_, rfl, Kd.R_nil _ _ _ _ _, HB.out⟩

set_option maxRecDepth 100000 in
set_option maxHeartbeats 4000000 in
theorem set_some (n v : ByteArray) (A0 : Option Addr) (c0 : Nat) (l0 : List Lab) (w : World) (hr0 : Kd.C k35 w A0 l0.length l0) (hc0 : l0.length ≤ c0) (hlen : l0.length ≤ 999999) (k : Nat) (hord : P.labels_inOrder.f k l0 = some true) :
    Calls Tryz.prog 12 #[.slice A0 l0.length c0, .string n, .string v] w fun e w' => ∃ v', e = .returned v' ∧ Kd.R k35 35 w' w.heap.size (fun _ => True) v' (setP l0 n v) ∧ Below w.heap.size w w' := by
  have hu := Tryz.underlying35
  have HR0 := Aside0.mk hr0
  have HC0 := Aside0.mk hc0
  have HO := Aside0.mk hord
  have HL := Aside0.mk hlen
  have hfl := List.length_filter_le (keepB n) l0
  have HFL : Aside0 ((l0.filter (keepB n)).length ≤ 999999) := ⟨by omega⟩
  clear hr0 hc0 hord hlen hfl
  unfold setP
  generalize hL : l0.filter (keepB n) = L at HFL
  have HLL := Aside0.mk hL
  clear hL
  by_cases hv : v.toList = []
  · have hvb : (v.toList == ([] : List UInt8)) = true := beq_iff_eq.2 hv
    rw [if_pos hv]
    clear hv
    go_enter Tryz.func12, Tryz.ntmps12
    go_wp2_with (first
      | (go_at_call 24; (with_reducible refine (P.labels_inOrder.calls k A0 c0 l0 true _ HR0.out HC0.out HO.out).mono ?_); rintro e w1 ⟨rfl, hb⟩; have HB := Aside0.mk hb; clear hb)
      | (go_at_call 25; (with_reducible refine (drop_calls n A0 c0 l0 _ (Kd.C_below HR0.out HB.out) HC0.out (Nat.le_trans HL.out (by decide)) k true HO.out).mono ?_); rintro e w2 ⟨vd, rfl, hr, hb⟩; rw [if_pos rfl, HLL.out] at hr; have HR := Aside0.mk (Kd.R_lower hr (below_size HB.out)); have NB := Aside0.mk (below_step HB.out hb); clear HB hr hb; have HB := NB; clear NB))
    go_ret
    exact ⟨_, rfl, HR.out, HB.out⟩
  · have hvb : (v.toList == ([] : List UInt8)) = false := beq_eq_false_iff_ne.2 hv
    rw [if_neg hv]
    clear hv
    go_enter Tryz.func12, Tryz.ntmps12
    go_wp2_with (first
      | (go_at_call 24; (with_reducible refine (P.labels_inOrder.calls k A0 c0 l0 true _ HR0.out HC0.out HO.out).mono ?_); rintro e w1 ⟨rfl, hb⟩; have HB := Aside0.mk hb; clear hb)
      | (go_at_call 25; (with_reducible refine (drop_calls n A0 c0 l0 _ (Kd.C_below HR0.out HB.out) HC0.out (Nat.le_trans HL.out (by decide)) k true HO.out).mono ?_); rintro e w2 ⟨vd, rfl, hr, hb⟩; rw [if_pos rfl, HLL.out] at hr; have HR := Aside0.mk (Kd.R_lower hr (below_size HB.out)); have NB := Aside0.mk (below_step HB.out hb); clear HB hr hb; have HB := NB; clear NB)
      | (obtain ⟨Ad, cd, hvd, hCd, hcd⟩ := lab_reads HR.out; subst hvd; go_at_call 26; (with_reducible refine (search_calls ⟨n, v⟩ Ad cd L _ (Kd.C_below hCd (below_alloc (Below.refl _ _) _)) hcd (Nat.le_trans HFL.out (by decide))).mono ?_); rintro e w3 ⟨bb, rfl, hb⟩; have NB3 := Aside0.mk (below_step (below_alloc (Below.refl w2.heap.size w2) (.cells #[.string n, .string v] 35)) hb); have BK := Aside0.mk (blk_below (blk_new w2 (.cells #[.string n, .string v] 35)) hb); have hz0 : w3.cell? ⟨w2.heap.size, 0, none⟩ = some (.string n) := (blk_cell BK.out 0).trans rfl; have hz1 : w3.cell? ⟨w2.heap.size, 1, none⟩ = some (.string v) := (blk_cell BK.out 1).trans rfl; clear hb hCd hcd)
      | (go_at_call 28; (with_reducible refine (insert_calls w.heap.size (fun _ => True) _ L ⟨n, v⟩ (placeP L n) (bsP_le L n _ _ _ (Nat.zero_le _)) w w3 (Nat.le_trans HFL.out (by decide)) (Kd.R_below HR.out NB3.out) (Nat.le_trans (below_size HB.out) (below_size NB3.out)) (below_step HB.out NB3.out)).mono ?_); rintro e w4 ⟨v4, rfl, hr, hb⟩; have HR4 := Aside0.mk hr; have HB4 := Aside0.mk hb; clear hr hb))
    go_ret
    exact ⟨_, rfl, HR4.out, HB4.out⟩
end Go.Proofs.YtnmofpefofkoeaaGreatDoor
namespace Go.Proofs.YtnmofpefofkoeaaGreatDoor.P
open Go Go.RowKit Go.Proofs.YtnmofpefofkoeaaGreatDoorW.PrintWords
def labels_Set.f (l0 : List S35) (a1 a2 : ByteArray) : Option (List S35) :=
  if l0.length ≤ 999999 then (labels_inOrder.f (l0.length + 1) l0).bind fun b => some (if b = true then setP l0 a1 a2 else []) else none
theorem labels_Set.calls (A0 : Option Addr) (c0 : Nat) (l0 : List S35) (a1 a2 : ByteArray) (r : List S35) (w : World) (hr0 : Kd.C k35 w A0 l0.length l0) (hc0 : l0.length ≤ c0) (h : labels_Set.f l0 a1 a2 = some r) :
    Calls Tryz.prog 12 #[.slice A0 l0.length c0, .string a1, .string a2] w fun e w' => ∃ v0_ : Value, e = .returned (v0_) ∧ Kd.R k35 35 w' w.heap.size (fun _ => True) v0_ r ∧ Below w.heap.size w w' := by
  unfold labels_Set.f at h
  split at h
  · rename_i hl
    obtain ⟨b, hb, h⟩ := Option.bind_eq_some_iff.1 h
    injection h with h
    subst h
    cases b with
    | true => rw [if_pos rfl]; exact set_some a1 a2 A0 c0 l0 w hr0 hc0 hl _ hb
    | false => rw [if_neg (by decide)]; exact set_none a1 a2 A0 c0 l0 w hr0 hc0 _ hb
  · contradiction
end Go.Proofs.YtnmofpefofkoeaaGreatDoor.P

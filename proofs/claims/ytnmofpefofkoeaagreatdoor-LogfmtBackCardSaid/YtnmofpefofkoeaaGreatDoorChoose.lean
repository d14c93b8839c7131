/- labels.choose with the test of labels.Drop, and labels.Drop: the labels of other names. Their condition: at most a million labels. -/
import Derived.Test.YtnmofpefofkoeaaGreatDoorByName
import Derived.Test.YtnmofpefofkoeaaGreatDoorFLabelsInOrder
import Derived.Deep.LoopGhost
set_option linter.unusedVariables false
namespace Go.Proofs.YtnmofpefofkoeaaGreatDoor
open Go Go.RowKit Go.Lib Go.Proofs.YtnmofpefofkoeaaGreatDoorW.PrintWords Go.Proofs.YtnmofpefofkoeaaGreatDoorW.PrintLast Go.Proofs.YtnmofpefofkoeaaGreatDoorW.PrintMore Go.Proofs.YtnmofpefofkoeaaGreatDoor.P

def keepB (n : ByteArray) (x : Lab) : Bool := !(x.f0.toList == n.toList)

theorem take_filter (p : Lab → Bool) (l : List Lab) (i : Nat) (h : i < l.length) : (l.take (i + 1)).filter p = if p l[i] then (l.take i).filter p ++ [l[i]] else (l.take i).filter p := by
  rw [List.take_succ_eq_append_getElem h, List.filter_append]
  by_cases hp : p l[i] <;> simp [hp]

set_option maxRecDepth 100000 in
set_option maxHeartbeats 4000000 in
theorem choose_calls (n : ByteArray) (B : Nat) (A0 : Option Addr) (c0 : Nat) (l0 : List Lab) (w : World) (hr0 : Kd.C k35 w A0 l0.length l0) (hc0 : l0.length ≤ c0) (hn : w.cell? ⟨B, 0, none⟩ = some (.string n)) (hlen : l0.length ≤ 1000000)
    (k : Nat) (ord : Bool) (hord : P.labels_inOrder.f k l0 = some ord) :
    Calls Tryz.prog 52 #[.slice A0 l0.length c0, .func (.func 53) #[] #[.pointer (some ⟨B, 0, none⟩)]] w fun e w' =>
      ∃ v, e = .returned v ∧ Kd.R k35 35 w' w.heap.size (fun _ => True) v (if ord = true then l0.filter (keepB n) else []) ∧ Below w.heap.size w w' := by
  have hu := Tryz.underlying35
  have hBl := World.block_lt_of_cell? w _ hn
  have HR0 := Aside0.mk hr0
  have HC0 := Aside0.mk hc0
  have HN := Aside0.mk hn
  have HO := Aside0.mk hord
  have HL := Aside0.mk hlen
  clear hr0 hc0 hn hord hlen
  go_enter Tryz.func52, Tryz.ntmps52
  cases ord with
  | false =>
    go_wp2_with (go_at_call 24; (with_reducible refine (P.labels_inOrder.calls k A0 c0 l0 false _ HR0.out HC0.out HO.out).mono ?_); rintro e w1 ⟨rfl, hb⟩; have HB := Aside0.mk hb; clear hb)
    go_ret
    exact ⟨_, rfl, Kd.R_nil _ _ _ _ _, HB.out⟩
  | true =>
    go_wp2_with (go_at_call 24; (with_reducible refine (P.labels_inOrder.calls k A0 c0 l0 true _ HR0.out HC0.out HO.out).mono ?_); rintro e w1 ⟨rfl, hb⟩; have HB := Aside0.mk hb; clear hb)
    go_loopg [4, 12] l0.length (fun kq v4 v12 w' => ∃ (j : Int), v12 = .int .i64 j ∧ Aside0 (∃ i : Nat, j = (i : Int) ∧ kq + i = l0.length ∧ Kd.R k35 35 w' w.heap.size (fun _ => True) v4 ((l0.take i).filter (keepB n))) ∧ Aside0 (Below w.heap.size w w'))
    case atStart => exact ⟨0, rfl, ⟨0, rfl, rfl, Kd.R_nil _ _ _ _ _⟩, HB⟩
    case round =>
      clear HB
      obtain ⟨j, rfl, ⟨i, hij, hk, hO⟩, HB⟩ := hrel
      cases gk with
      | zero =>
        have hg : decide (j < (l0.length : Int)) = false := decide_eq_false (by omega)
        have HO := Aside0.mk hO
        clear hO
        go_wp2
        go_ret
        refine ⟨_, rfl, ?_, HB.out⟩
        have := HO.out
        rw [List.take_of_length_le (by omega)] at this
        exact this
      | succ kq =>
        have hi : i < l0.length := by omega
        obtain ⟨ad, e1, hx0, hx1⟩ := at_T35 HR0.out j (by omega) (by omega)
        cases e1
        have hrd : rd_T35 l0 j = l0[i] := by
          unfold rd_T35
          rw [show j.toNat = i by omega, List.getD_eq_getElem?_getD, List.getElem?_eq_getElem hi]; rfl
        have HF := Aside0.mk (take_filter (keepB n) l0 i hi)
        rw [hrd] at hx0 hx1
        generalize l0[i] = x at hx0 hx1 HF
        clear hrd
        replace hx0 := (HB.out.cell (World.block_lt_of_cell? w _ hx0)).trans hx0
        replace hx1 := (HB.out.cell (World.block_lt_of_cell? w _ hx1)).trans hx1
        have hg : decide (j < (l0.length : Int)) = true := decide_eq_true (by omega)
        have p1 : (0 ≤ j) = True := eq_true (by omega)
        have q1 : (j < (l0.length : Int)) = True := eq_true (by omega)
        have HJ : Aside0 (j = (i : Int) ∧ kq + 1 + i = l0.length) := ⟨hij, hk⟩
        have HO := Aside0.mk hO
        clear hO hij hk hi
        cases hkp : keepB n x with
        | false =>
          have hkp' : (!(x.f0.toList == n.toList)) = false := hkp
          go_wp2_with (first
            | ((with_reducible refine gate_dst (N := 6) rfl ?_); refine box_event ?hg (N := 6) ?hd (cs := #[.string (⟨#[]⟩ : ByteArray), .string (⟨#[]⟩ : ByteArray)]) (t := 35) ?hr ?_; (case hd => rfl); (case hg => rfl); (case hr => first | (go_simp; done) | (go_simp; rfl)); intro gb hg6 w6 hbox hb; have BK := Aside0.mk hbox; have GE : Aside0 (w.heap.size ≤ gb) := ⟨by rw [hg6]; exact below_size HB.out⟩; have NB := Aside0.mk (below_step HB.out hb); have HO1 := Aside0.mk (Kd.R_below (Kd.R_bound HO.out) hb); have GW : Aside0 (wr.heap.size ≤ gb) := ⟨Nat.le_of_eq hg6.symm⟩; clear HB HO; have HB := NB; have HO := HO1; clear NB HO1 hb hbox hg6; have hz0 : w6.cell? ⟨gb, 0, none⟩ = some (.string (⟨#[]⟩ : ByteArray)) := (blk_cell BK.out 0).trans rfl; have hz1 : w6.cell? ⟨gb, 1, none⟩ = some (.string (⟨#[]⟩ : ByteArray)) := (blk_cell BK.out 1).trans rfl; have hf0 := blk_frozen BK.out 0; have hf1 := blk_frozen BK.out 1)
            | (go_at_call 53; (with_reducible refine (drop1_calls x n B _ ?cB ?cL).mono ?_); (case cB => exact ((below_set (below_set HB.out GE.out) GE.out).cell (p := ⟨B, 0, none⟩) hBl).trans HN.out); (case cL => exact Nat.lt_of_lt_of_le hBl (below_size (below_set (below_set HB.out GE.out) GE.out))); rintro e w7 ⟨rfl, hb⟩; rw [hkp']; have NK := Aside0.mk (blk_below (blk_put (blk_put BK.out 0 (.string x.f0) rfl) 1 (.string x.f1) rfl) hb); have NB := Aside0.mk (below_step (below_set (below_set HB.out GE.out) GE.out) hb); have NO := Aside0.mk (Kd.R_mono (ok' := fun _ => True) (Kd.R_below (Kd.R_keep HO.out (KeepBut.set_ (KeepBut.set_ (KeepBut.refl w6 gb none) 0 (.string x.f0)) 1 (.string x.f1)) (fun k hk e => by have := hk.2.2.1; have := GW.out; omega)) hb) (fun _ _ => trivial)); clear HB HO BK hz0 hz1 hf0 hf1; have HB := NB; have HO := NO; clear NO; have BK := NK; clear NB NK hb; have hz0 : w7.cell? ⟨gb, 0, none⟩ = some (.string x.f0) := (blk_cell BK.out 0).trans rfl; have hz1 : w7.cell? ⟨gb, 1, none⟩ = some (.string x.f1) := (blk_cell BK.out 1).trans rfl))
          go_roundg kq
          case measure => have := HJ.out; omega
          case rel =>
            refine ⟨wrap64 (j + 1), rfl, ⟨i + 1, ?_, ?_, ?_⟩, HB⟩
            · have := HJ.out; have := HL.out; unfold wrap64; omega
            · have := HJ.out; omega
            · rw [HF.out, hkp, if_neg (by decide)]
              exact HO.out
        | true =>
          have hkp' : (!(x.f0.toList == n.toList)) = true := hkp
          go_wp2_with (first
            | ((with_reducible refine gate_dst (N := 6) rfl ?_); refine box_event ?hg (N := 6) ?hd (cs := #[.string (⟨#[]⟩ : ByteArray), .string (⟨#[]⟩ : ByteArray)]) (t := 35) ?hr ?_; (case hd => rfl); (case hg => rfl); (case hr => first | (go_simp; done) | (go_simp; rfl)); intro gb hg6 w6 hbox hb; have BK := Aside0.mk hbox; have GE : Aside0 (w.heap.size ≤ gb) := ⟨by rw [hg6]; exact below_size HB.out⟩; have NB := Aside0.mk (below_step HB.out hb); have HO1 := Aside0.mk (Kd.R_below (Kd.R_bound HO.out) hb); have GW : Aside0 (wr.heap.size ≤ gb) := ⟨Nat.le_of_eq hg6.symm⟩; clear HB HO; have HB := NB; have HO := HO1; clear NB HO1 hb hbox hg6; have hz0 : w6.cell? ⟨gb, 0, none⟩ = some (.string (⟨#[]⟩ : ByteArray)) := (blk_cell BK.out 0).trans rfl; have hz1 : w6.cell? ⟨gb, 1, none⟩ = some (.string (⟨#[]⟩ : ByteArray)) := (blk_cell BK.out 1).trans rfl; have hf0 := blk_frozen BK.out 0; have hf1 := blk_frozen BK.out 1)
            | (go_at_call 53; (with_reducible refine (drop1_calls x n B _ ?cB ?cL).mono ?_); (case cB => exact ((below_set (below_set HB.out GE.out) GE.out).cell (p := ⟨B, 0, none⟩) hBl).trans HN.out); (case cL => exact Nat.lt_of_lt_of_le hBl (below_size (below_set (below_set HB.out GE.out) GE.out))); rintro e w7 ⟨rfl, hb⟩; rw [hkp']; have NK := Aside0.mk (blk_below (blk_put (blk_put BK.out 0 (.string x.f0) rfl) 1 (.string x.f1) rfl) hb); have NB := Aside0.mk (below_step (below_set (below_set HB.out GE.out) GE.out) hb); have NO := Aside0.mk (Kd.R_mono (ok' := fun _ => True) (Kd.R_below (Kd.R_keep HO.out (KeepBut.set_ (KeepBut.set_ (KeepBut.refl w6 gb none) 0 (.string x.f0)) 1 (.string x.f1)) (fun k hk e => by have := hk.2.2.1; have := GW.out; omega)) hb) (fun _ _ => trivial)); clear HB HO BK hz0 hz1 hf0 hf1; have HB := NB; have HO := NO; clear NO; have BK := NK; clear NB NK hb; have hz0 : w7.cell? ⟨gb, 0, none⟩ = some (.string x.f0) := (blk_cell BK.out 0).trans rfl; have hz1 : w7.cell? ⟨gb, 1, none⟩ = some (.string x.f1) := (blk_cell BK.out 1).trans rfl)
            | ((with_reducible refine gate_builtin (b := .append) (xs := #[.tmp 19, .tmp 21]) rfl ?_); at_builtin; refine Kd.R_append k35 (w0 := w) w.heap.size rfl (.tmp 19) (.tmp 21) 22 35 (.agg #[(.string ⟨#[]⟩), (.string ⟨#[]⟩)]) 32 rfl Tryz.underlying22 info35 rfl (by decide) (by omega) u4 ((l0.take i).filter (keepB n)) x [.string x.f0, .string x.f1] (fun _ => True) (fun _ => False) rfl rfl ?aP (fun _ hk => hk.elim) ?aF ?aO ?aB ?aS ?aL ?_; (case aP => exact k35_mkM _ _ _ x); (case aB => exact HB.out); (case aF => exact (fun _ _ => trivial)); (case aO => exact HO.out); (case aS => exact below_size HB.out); (case aL => have h1 := HL.out; have h2 := List.length_filter_le (keepB n) (l0.take i); have h3 : (l0.take i).length ≤ l0.length := (by rw [List.length_take]; omega); omega); intro v6 w8 ho hb hg hat; have NB := Aside0.mk hb; have NO := Aside0.mk ho; clear HB HO; have HB := NB; have HO := NO; clear NB NO ho hb hg hat))
          go_roundg kq
          case measure => have := HJ.out; omega
          case rel =>
            refine ⟨wrap64 (j + 1), rfl, ⟨i + 1, ?_, ?_, ?_⟩, HB⟩
            · have := HJ.out; have := HL.out; unfold wrap64; omega
            · have := HJ.out; omega
            · rw [HF.out, hkp, if_pos rfl]
              exact HO.out

set_option maxRecDepth 100000 in
set_option maxHeartbeats 4000000 in
theorem drop_calls (n : ByteArray) (A0 : Option Addr) (c0 : Nat) (l0 : List Lab) (w : World) (hr0 : Kd.C k35 w A0 l0.length l0) (hc0 : l0.length ≤ c0) (hlen : l0.length ≤ 1000000)
    (k : Nat) (ord : Bool) (hord : P.labels_inOrder.f k l0 = some ord) :
    Calls Tryz.prog 25 #[.slice A0 l0.length c0, .string n] w fun e w' =>
      ∃ v, e = .returned v ∧ Kd.R k35 35 w' w.heap.size (fun _ => True) v (if ord = true then l0.filter (keepB n) else []) ∧ Below w.heap.size w w' := by
  have hmf : ∀ (fn : Fn) (first cap : Array Value) (w : World), (Instr.makeFunc fn first cap).run Tryz.prog w = .ok (.func fn first cap) w := fun _ _ _ _ => by simp [Instr.makeFunc, go_sem]
  obtain ⟨L, hL⟩ : ∃ L, (if ord = true then l0.filter (keepB n) else []) = L := ⟨_, rfl⟩
  rw [hL]
  have HLL := Aside0.mk hL
  clear hL
  have HR0 := Aside0.mk hr0
  have HC0 := Aside0.mk hc0
  have HO := Aside0.mk hord
  have HL := Aside0.mk hlen
  clear hr0 hc0 hord hlen
  go_enter Tryz.func25, Tryz.ntmps25
  go_wp2_with (go_at_call 52; (with_reducible refine (choose_calls n w.heap.size A0 c0 l0 _ (Kd.C_below HR0.out (below_alloc (Below.refl _ _) _)) HC0.out (by first | exact (blk_cell (blk_new w _) 0).trans rfl | exact World.cell?_alloc_new _ _) HL.out k ord HO.out).mono ?_); rintro e w1 ⟨v, rfl, hr, hb⟩; rw [HLL.out] at hr; have HR := Aside0.mk hr; have HB := Aside0.mk hb; clear hr hb)
  go_ret
  exact ⟨_, rfl, Kd.R_lower HR.out (below_size (below_alloc (Below.refl _ _) _)), below_step (below_alloc (Below.refl _ _) _) HB.out⟩
end Go.Proofs.YtnmofpefofkoeaaGreatDoor

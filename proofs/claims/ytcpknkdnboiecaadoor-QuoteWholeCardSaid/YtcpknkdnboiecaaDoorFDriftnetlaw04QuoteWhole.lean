import Derived.Test.YtcpknkdnboiecaaDoorF0
import Derived.Test.YtcpknkdnboiecaaDoorEncode
import Derived.Test.YtcpknkdnboiecaaDoorFDriftnetlaw04Works
import Derived.Test.YtcpknkdnboiecaaDoorFQuoteDecode
import Derived.Test.YtcpknkdnboiecaaDoorRunes
namespace Go.Proofs.YtcpknkdnboiecaaDoor.P
open Go.RowKit Go.Proofs.YtcpknkdnboiecaaDoorW.PrintWords Go.Proofs.YtcpknkdnboiecaaDoorW.PrintLast Go.Proofs.YtcpknkdnboiecaaDoorW.PrintMore
attribute [local go_sem] max2_int min2_int max_two min_two max_three min_three max_four min_four
set_option linter.unusedVariables false
set_option linter.unusedSimpArgs false

/-! ### driftnetlaw04_QuoteWhole: function 6 -/
mutual
def driftnetlaw04_QuoteWhole.l0 : Nat → List Int → ByteArray → ByteArray → Int → Option (Bool)
  | 0, _, _, _, _ => none
  | k + 1, x0, x1, x5, x6 => if x6 < (x0.length : Int) then (driftnetlaw04_QuoteWhole.j1 k x0 x1 x5 x6 (decide (x6 < 300))) else (driftnetlaw04_QuoteWhole.j1 k x0 x1 x5 x6 false)
def driftnetlaw04_QuoteWhole.j1 : Nat → List Int → ByteArray → ByteArray → Int → Bool → Option (Bool)
  | 0, _, _, _, _, _ => none
  | k + 1, x0, x1, x5, x6, x25 => if x25 = true then (if 0 ≤ x6 then (if x6 < (x0.length : Int) then ((quote_Encode.f (rd x0 x6)).bind fun t3 => ((quote_Decode.f t3).bind fun bt4 => (if bt4.2 = (t3.size : Int) then (if bt4.2 < 1 then (some false) else (if bt4.2 > 4 then (some false) else (if bt4.1 = (rd x0 x6) then (if x5.size + t3.size ≤ 9223372036854775807 then (driftnetlaw04_QuoteWhole.l0 k x0 x1 (x5 ++ t3) (wrap64 (x6 + 1))) else (none)) else (if bt4.1 = 65533 then (if (rd x0 x6) ≥ 0 then (if (rd x0 x6) ≤ 1114111 then (if (rd x0 x6) < 55296 then (some false) else (if (rd x0 x6) > 57343 then (some false) else (if x5.size + t3.size ≤ 9223372036854775807 then (driftnetlaw04_QuoteWhole.l0 k x0 x1 (x5 ++ t3) (wrap64 (x6 + 1))) else (none)))) else (if x5.size + t3.size ≤ 9223372036854775807 then (driftnetlaw04_QuoteWhole.l0 k x0 x1 (x5 ++ t3) (wrap64 (x6 + 1))) else (none))) else (if x5.size + t3.size ≤ 9223372036854775807 then (driftnetlaw04_QuoteWhole.l0 k x0 x1 (x5 ++ t3) (wrap64 (x6 + 1))) else (none))) else (some false))))) else (some false)))) else (none)) else (none)) else ((quote_Runes.f x5).bind fun t11 => (if (t11.length : Int) = (mn (x0.length : Int) 300) then (if 0 ≤ (mn (x1.size : Int) 1000) then (if (mn (x1.size : Int) 1000) ≤ (x1.size : Int) then (driftnetlaw04_QuoteWhole.l1 k (x1.extract 0 ((mn (x1.size : Int) 1000) : Int).toNat) (⟨#[]⟩ : ByteArray) 0 (x1.extract 0 ((mn (x1.size : Int) 1000) : Int).toNat)) else (none)) else (none)) else (some false)))
def driftnetlaw04_QuoteWhole.l1 : Nat → ByteArray → ByteArray → Int → ByteArray → Option (Bool)
  | 0, _, _, _, _ => none
  | k + 1, x1, x11, x12, x13 => if x13.toList = ([] : List UInt8) then (if x11.toList = x1.toList then ((quote_Runes.f x1).bind fun t14 => (some ((t14.length : Int) == x12))) else (some false)) else ((quote_Decode.f x13).bind fun bt17 => (if bt17.2 < 1 then (driftnetlaw04_QuoteWhole.j3 k x1 x11 x12 x13 bt17.1 bt17.2 true) else (if bt17.2 > (x13.size : Int) then (driftnetlaw04_QuoteWhole.j3 k x1 x11 x12 x13 bt17.1 bt17.2 true) else (if bt17.2 = 1 then (if 0 < (x13.size : Int) then (if (bt x13 0) ≥ 128 then (driftnetlaw04_QuoteWhole.j3 k x1 x11 x12 x13 bt17.1 bt17.2 (bt17.1 != 65533)) else (driftnetlaw04_QuoteWhole.j3 k x1 x11 x12 x13 bt17.1 bt17.2 false)) else (none)) else (driftnetlaw04_QuoteWhole.j3 k x1 x11 x12 x13 bt17.1 bt17.2 false)))))
def driftnetlaw04_QuoteWhole.j3 : Nat → ByteArray → ByteArray → Int → ByteArray → Int → Int → Bool → Option (Bool)
  | 0, _, _, _, _, _, _, _ => none
  | k + 1, x1, x11, x12, x13, x14, x15, x136 => if x136 = true then (some false) else (if x15 > 1 then ((quote_Encode.f x14).bind fun t19 => (if x11.size + t19.size ≤ 9223372036854775807 then (if 0 ≤ x15 then (if x15 ≤ (x13.size : Int) then (driftnetlaw04_QuoteWhole.l1 k x1 (x11 ++ t19) (wrap64 (x12 + 1)) (x13.extract (x15 : Int).toNat x13.size)) else (none)) else (none)) else (none))) else (if 0 < (x13.size : Int) then (if (bt x13 0) < 128 then ((quote_Encode.f x14).bind fun t20 => (if x11.size + t20.size ≤ 9223372036854775807 then (if 0 ≤ x15 then (if x15 ≤ (x13.size : Int) then (driftnetlaw04_QuoteWhole.l1 k x1 (x11 ++ t20) (wrap64 (x12 + 1)) (x13.extract (x15 : Int).toNat x13.size)) else (none)) else (none)) else (none))) else (if 0 ≤ 1 then (if 1 ≤ (x13.size : Int) then (if x11.size + (x13.extract 0 1).size ≤ 9223372036854775807 then (if 0 ≤ x15 then (if x15 ≤ (x13.size : Int) then (driftnetlaw04_QuoteWhole.l1 k x1 (x11 ++ (x13.extract 0 1)) (wrap64 (x12 + 1)) (x13.extract (x15 : Int).toNat x13.size)) else (none)) else (none)) else (none)) else (none)) else (none))) else (none)))
end
def driftnetlaw04_QuoteWhole.f (k : Nat) (l0 : List Int) (a1 : ByteArray) : Option (Bool) := (driftnetlaw04_works.f).bind fun t1 => (if t1 = true then (driftnetlaw04_QuoteWhole.l0 k l0 a1 (⟨#[]⟩ : ByteArray) 0) else (some false))
theorem driftnetlaw04_QuoteWhole.mono_l : ∀ k, (∀ y0 y1 y2 y3, LeO (driftnetlaw04_QuoteWhole.l0 k y0 y1 y2 y3) (driftnetlaw04_QuoteWhole.l0 (k + 1) y0 y1 y2 y3)) ∧ (∀ y0 y1 y2 y3 y4, LeO (driftnetlaw04_QuoteWhole.j1 k y0 y1 y2 y3 y4) (driftnetlaw04_QuoteWhole.j1 (k + 1) y0 y1 y2 y3 y4)) ∧ (∀ y0 y1 y2 y3, LeO (driftnetlaw04_QuoteWhole.l1 k y0 y1 y2 y3) (driftnetlaw04_QuoteWhole.l1 (k + 1) y0 y1 y2 y3)) ∧ (∀ y0 y1 y2 y3 y4 y5 y6, LeO (driftnetlaw04_QuoteWhole.j3 k y0 y1 y2 y3 y4 y5 y6) (driftnetlaw04_QuoteWhole.j3 (k + 1) y0 y1 y2 y3 y4 y5 y6))
  | 0 => ⟨fun _ _ _ _ r h => by simp [driftnetlaw04_QuoteWhole.l0] at h, fun _ _ _ _ _ r h => by simp [driftnetlaw04_QuoteWhole.j1] at h, fun _ _ _ _ r h => by simp [driftnetlaw04_QuoteWhole.l1] at h, fun _ _ _ _ _ _ _ r h => by simp [driftnetlaw04_QuoteWhole.j3] at h⟩
  | k + 1 => by
    obtain ⟨ih0, ih1, ih2, ih3⟩ := driftnetlaw04_QuoteWhole.mono_l k
    refine ⟨?_, ?_, ?_, ?_⟩
    · intro y0 y1 y2 y3
      unfold driftnetlaw04_QuoteWhole.l0
      repeat' first
      | (with_reducible exact ih0 _ _ _ _)
      | (with_reducible exact ih1 _ _ _ _ _)
      | (with_reducible exact ih2 _ _ _ _)
      | (with_reducible exact ih3 _ _ _ _ _ _ _)
      | (with_reducible exact LeO.refl _)
      | (with_reducible exact LeO.none _)
      | (with_reducible refine LeO.ite ?_ ?_)
      | (with_reducible refine LeO.bind ?_ (fun _ => ?_))
      | exact ih0 _ _ _ _
      | exact ih1 _ _ _ _ _
      | exact ih2 _ _ _ _
      | exact ih3 _ _ _ _ _ _ _
      | exact LeO.none _
      | refine LeO.ite ?_ ?_
      | refine LeO.bind ?_ (fun _ => ?_)
    · intro y0 y1 y2 y3 y4
      unfold driftnetlaw04_QuoteWhole.j1
      repeat' first
      | (with_reducible exact ih0 _ _ _ _)
      | (with_reducible exact ih1 _ _ _ _ _)
      | (with_reducible exact ih2 _ _ _ _)
      | (with_reducible exact ih3 _ _ _ _ _ _ _)
      | (with_reducible exact LeO.refl _)
      | (with_reducible exact LeO.none _)
      | (with_reducible refine LeO.ite ?_ ?_)
      | (with_reducible refine LeO.bind ?_ (fun _ => ?_))
      | exact ih0 _ _ _ _
      | exact ih1 _ _ _ _ _
      | exact ih2 _ _ _ _
      | exact ih3 _ _ _ _ _ _ _
      | exact LeO.none _
      | refine LeO.ite ?_ ?_
      | refine LeO.bind ?_ (fun _ => ?_)
    · intro y0 y1 y2 y3
      unfold driftnetlaw04_QuoteWhole.l1
      repeat' first
      | (with_reducible exact ih0 _ _ _ _)
      | (with_reducible exact ih1 _ _ _ _ _)
      | (with_reducible exact ih2 _ _ _ _)
      | (with_reducible exact ih3 _ _ _ _ _ _ _)
      | (with_reducible exact LeO.refl _)
      | (with_reducible exact LeO.none _)
      | (with_reducible refine LeO.ite ?_ ?_)
      | (with_reducible refine LeO.bind ?_ (fun _ => ?_))
      | exact ih0 _ _ _ _
      | exact ih1 _ _ _ _ _
      | exact ih2 _ _ _ _
      | exact ih3 _ _ _ _ _ _ _
      | exact LeO.none _
      | refine LeO.ite ?_ ?_
      | refine LeO.bind ?_ (fun _ => ?_)
    · intro y0 y1 y2 y3 y4 y5 y6
      unfold driftnetlaw04_QuoteWhole.j3
      repeat' first
      | (with_reducible exact ih0 _ _ _ _)
      | (with_reducible exact ih1 _ _ _ _ _)
      | (with_reducible exact ih2 _ _ _ _)
      | (with_reducible exact ih3 _ _ _ _ _ _ _)
      | (with_reducible exact LeO.refl _)
      | (with_reducible exact LeO.none _)
      | (with_reducible refine LeO.ite ?_ ?_)
      | (with_reducible refine LeO.bind ?_ (fun _ => ?_))
      | exact ih0 _ _ _ _
      | exact ih1 _ _ _ _ _
      | exact ih2 _ _ _ _
      | exact ih3 _ _ _ _ _ _ _
      | exact LeO.none _
      | refine LeO.ite ?_ ?_
      | refine LeO.bind ?_ (fun _ => ?_)
theorem driftnetlaw04_QuoteWhole.mono : ∀ a0 a1 k, LeO (driftnetlaw04_QuoteWhole.f k a0 a1) (driftnetlaw04_QuoteWhole.f (k + 1) a0 a1) := by
  intro a0 a1 k
  obtain ⟨ih0, ih1, ih2, ih3⟩ := driftnetlaw04_QuoteWhole.mono_l k
  unfold driftnetlaw04_QuoteWhole.f
  repeat' first
      | (with_reducible exact ih0 _ _ _ _)
      | (with_reducible exact ih1 _ _ _ _ _)
      | (with_reducible exact ih2 _ _ _ _)
      | (with_reducible exact ih3 _ _ _ _ _ _ _)
      | (with_reducible exact LeO.refl _)
      | (with_reducible exact LeO.none _)
      | (with_reducible refine LeO.ite ?_ ?_)
      | (with_reducible refine LeO.bind ?_ (fun _ => ?_))
      | exact ih0 _ _ _ _
      | exact ih1 _ _ _ _ _
      | exact ih2 _ _ _ _
      | exact ih3 _ _ _ _ _ _ _
      | exact LeO.none _
      | refine LeO.ite ?_ ?_
      | refine LeO.bind ?_ (fun _ => ?_)
set_option maxHeartbeats 8000000 in
set_option maxRecDepth 100000 in
theorem driftnetlaw04_QuoteWhole.calls (k : Nat) (A0 : Option Addr) (c0 : Nat) (l0 : List Int) (a1 : ByteArray) (r : Bool) (w : World) (hr0 : Kd.C (Kd.int .i32) w A0 l0.length l0) (hc0 : l0.length ≤ c0) (hG : Aside0 (G w)) (h : driftnetlaw04_QuoteWhole.f k l0 a1 = some r) :
    Calls Tryd.prog 6 #[.slice A0 l0.length c0, .string a1] w fun e w' => e = .returned (.bool r) ∧ Below w.heap.size w w' := by
  have HR0 := Aside0.mk hr0
  have HC0 := Aside0.mk hc0
  clear hr0 hc0
  have HB := Aside0.mk (Below.refl w.heap.size w)
  have H : ((driftnetlaw04_works.f).bind fun t1 => (if t1 = true then (driftnetlaw04_QuoteWhole.l0 k l0 a1 (⟨#[]⟩ : ByteArray) 0) else (some false))) = some r := h
  clear h
  replace H := Option.bind_eq_some_iff.mp H
  obtain ⟨t1, A30, H⟩ := H
  replace H : (if t1 = true then (driftnetlaw04_QuoteWhole.l0 k l0 a1 (⟨#[]⟩ : ByteArray) 0) else (some false)) = some r := H
  have A3 := Aside0.mk A30
  clear A30
  by_cases c4 : t1 = true
  · subst c4
    have H1 : (driftnetlaw04_QuoteWhole.l0 k l0 a1 (⟨#[]⟩ : ByteArray) 0) = some r := by rw [if_pos rfl] at H; exact H
    clear H
    have H := H1
    clear H1
    have H' := Aside0.mk H
    clear H
    go_enter Tryd.func6, Tryd.ntmps6
    go_wp2_with (first | ((with_reducible refine gate_callee (f := 13) rfl ?_); refine goesL_ (some 16) rfl rfl Tryd.func13 (by kernel_rfl) rfl #[] rfl (by (try simp only [List.map_toArray, List.map_cons, List.map_nil]); first | done | rfl | (simp only [List.length_drop, List.length_take]; rfl)) ?_; (with_reducible refine (driftnetlaw04_works.calls  true _ ?side1 A3.out).mono ?_); (case side1 => exact G.at hG.out (by repeat (first | (with_reducible first | exact HB.out | apply below_alloc | apply pw_below_drewN | apply below_drew1) | exact HB.out))); rintro e w5 ⟨rfl, hb⟩; refine ⟨_, rfl, ?_⟩; have n0_ := Aside0.mk (below_step (by repeat (first | (with_reducible first | exact HB.out | apply below_alloc | apply pw_below_drewN | apply below_drew1) | exact HB.out)) hb); clear HB; have HB := n0_; clear n0_; (try clear hb); (try clear hb2); (try clear hk); (try clear hi)))
    go_loopg [5, 6] k (fun kq v5 v6 w' => ∃ (x5_1 : ByteArray) (x6_1 : Int), v5 = .string x5_1 ∧ v6 = .int .i64 x6_1 ∧ Aside0 (driftnetlaw04_QuoteWhole.l0 kq l0 a1 x5_1 x6_1 = some r) ∧ Aside0 (kq ≤ k) ∧ Aside0 (Below w.heap.size w w'))
    case atStart => exact ⟨((⟨#[]⟩ : ByteArray)), (0), (by first | rfl | (simp; done) | (simp [*]; done)), (by first | rfl | (simp; done) | (simp [*]; done)), H', ⟨Nat.le_refl _⟩, ⟨by repeat (first | (with_reducible first | exact HB.out | apply below_alloc | apply pw_below_drewN | apply below_drew1) | exact HB.out)⟩⟩
    case round =>
      clear H'
      try clear c1
      try clear p2
      try clear c4
      obtain ⟨x5_1, x6_1, rfl, rfl, HA, HK1, HB⟩ := hrel
      cases gk with
      | zero => exact absurd HA.out (by simp [driftnetlaw04_QuoteWhole.l0])
      | succ k1 =>
        have H := HA.out
        clear HA
        simp only [driftnetlaw04_QuoteWhole.l0] at H
        have HC6 := Aside0.mk H
        clear H
        go_upto_region 5 with (fail)
        go_cut [25] (fun v25 wc => ∃ (kq : Nat) (x25_5 : Bool), v25 = .bool x25_5 ∧ Aside0 (driftnetlaw04_QuoteWhole.j1 kq l0 a1 x5_1 x6_1 x25_5 = some r) ∧ Aside0 (kq ≤ k1) ∧ Aside0 (Below w.heap.size w wc))
        case first =>
          have H := HC6.out
          clear HC6
          by_cases c7 : x6_1 < (l0.length : Int)
          · rw [if_pos c7] at H
            have c7b0 : decide (x6_1 < (l0.length : Int)) = true := decide_eq_true c7
            clear c7
            (first | rw [c7b0] | (simp only [i64_w, i32_w]; rw [c7b0]) | skip)
            have H' := Aside0.mk H
            clear H
            go_wp2
            go_meet
            case rel => exact ⟨_, (decide (x6_1 < 300)), (by first | rfl | (simp; done) | (simp [*]; done)), H', ⟨by have := HK1.out; first | omega | exact Nat.le_refl _⟩, ⟨by repeat (first | (with_reducible first | exact HB.out | apply below_alloc | apply pw_below_drewN | apply below_drew1) | exact HB.out)⟩⟩
          · rw [if_neg c7] at H
            have c7b0 : decide (x6_1 < (l0.length : Int)) = false := decide_eq_false c7
            clear c7
            (first | rw [c7b0] | (simp only [i64_w, i32_w]; rw [c7b0]) | skip)
            have H' := Aside0.mk H
            clear H
            go_wp2
            go_meet
            case rel => exact ⟨_, (false), (by first | rfl | (simp; done) | (simp [*]; done)), H', ⟨by have := HK1.out; first | omega | exact Nat.le_refl _⟩, ⟨by repeat (first | (with_reducible first | exact HB.out | apply below_alloc | apply pw_below_drewN | apply below_drew1) | exact HB.out)⟩⟩
        case rest =>
          clear HC6
          try clear c1
          try clear p2
          try clear c4
          try clear c6
          try clear c7
          try clear c7b0
          try clear p2
          obtain ⟨kq, x25_5, rfl, HA, HJ5, HB⟩ := hcut
          cases kq with
          | zero => exact absurd HA.out (by simp [driftnetlaw04_QuoteWhole.j1])
          | succ kj5 =>
            have H := HA.out
            clear HA
            simp only [driftnetlaw04_QuoteWhole.j1] at H
            by_cases c8 : x25_5 = true
            · subst c8
              have H1 : (if 0 ≤ x6_1 then (if x6_1 < (l0.length : Int) then ((quote_Encode.f (rd l0 x6_1)).bind fun t3 => ((quote_Decode.f t3).bind fun bt4 => (if bt4.2 = (t3.size : Int) then (if bt4.2 < 1 then (some false) else (if bt4.2 > 4 then (some false) else (if bt4.1 = (rd l0 x6_1) then (if x5_1.size + t3.size ≤ 9223372036854775807 then (driftnetlaw04_QuoteWhole.l0 kj5 l0 a1 (x5_1 ++ t3) (wrap64 (x6_1 + 1))) else (none)) else (if bt4.1 = 65533 then (if (rd l0 x6_1) ≥ 0 then (if (rd l0 x6_1) ≤ 1114111 then (if (rd l0 x6_1) < 55296 then (some false) else (if (rd l0 x6_1) > 57343 then (some false) else (if x5_1.size + t3.size ≤ 9223372036854775807 then (driftnetlaw04_QuoteWhole.l0 kj5 l0 a1 (x5_1 ++ t3) (wrap64 (x6_1 + 1))) else (none)))) else (if x5_1.size + t3.size ≤ 9223372036854775807 then (driftnetlaw04_QuoteWhole.l0 kj5 l0 a1 (x5_1 ++ t3) (wrap64 (x6_1 + 1))) else (none))) else (if x5_1.size + t3.size ≤ 9223372036854775807 then (driftnetlaw04_QuoteWhole.l0 kj5 l0 a1 (x5_1 ++ t3) (wrap64 (x6_1 + 1))) else (none))) else (some false))))) else (some false)))) else (none)) else (none)) = some r := by rw [if_pos rfl] at H; exact H
              clear H
              have H := H1
              clear H1
              by_cases c9 : 0 ≤ x6_1
              · rw [if_pos c9] at H
                have c9b0 : decide (0 ≤ x6_1) = true := decide_eq_true c9
                clear c9
                by_cases c10 : x6_1 < (l0.length : Int)
                · rw [if_pos c10] at H
                  have c10b0 : decide (x6_1 < (l0.length : Int)) = true := decide_eq_true c10
                  clear c10
                  replace H := Option.bind_eq_some_iff.mp H
                  obtain ⟨t3, A110, H⟩ := H
                  replace H : ((quote_Decode.f t3).bind fun bt4 => (if bt4.2 = (t3.size : Int) then (if bt4.2 < 1 then (some false) else (if bt4.2 > 4 then (some false) else (if bt4.1 = (rd l0 x6_1) then (if x5_1.size + t3.size ≤ 9223372036854775807 then (driftnetlaw04_QuoteWhole.l0 kj5 l0 a1 (x5_1 ++ t3) (wrap64 (x6_1 + 1))) else (none)) else (if bt4.1 = 65533 then (if (rd l0 x6_1) ≥ 0 then (if (rd l0 x6_1) ≤ 1114111 then (if (rd l0 x6_1) < 55296 then (some false) else (if (rd l0 x6_1) > 57343 then (some false) else (if x5_1.size + t3.size ≤ 9223372036854775807 then (driftnetlaw04_QuoteWhole.l0 kj5 l0 a1 (x5_1 ++ t3) (wrap64 (x6_1 + 1))) else (none)))) else (if x5_1.size + t3.size ≤ 9223372036854775807 then (driftnetlaw04_QuoteWhole.l0 kj5 l0 a1 (x5_1 ++ t3) (wrap64 (x6_1 + 1))) else (none))) else (if x5_1.size + t3.size ≤ 9223372036854775807 then (driftnetlaw04_QuoteWhole.l0 kj5 l0 a1 (x5_1 ++ t3) (wrap64 (x6_1 + 1))) else (none))) else (some false))))) else (some false))) = some r := H
                  have A11 := Aside0.mk A110
                  clear A110
                  replace H := Option.bind_eq_some_iff.mp H
                  obtain ⟨⟨t4, t5⟩, A120, H⟩ := H
                  replace H : (if t5 = (t3.size : Int) then (if t5 < 1 then (some false) else (if t5 > 4 then (some false) else (if t4 = (rd l0 x6_1) then (if x5_1.size + t3.size ≤ 9223372036854775807 then (driftnetlaw04_QuoteWhole.l0 kj5 l0 a1 (x5_1 ++ t3) (wrap64 (x6_1 + 1))) else (none)) else (if t4 = 65533 then (if (rd l0 x6_1) ≥ 0 then (if (rd l0 x6_1) ≤ 1114111 then (if (rd l0 x6_1) < 55296 then (some false) else (if (rd l0 x6_1) > 57343 then (some false) else (if x5_1.size + t3.size ≤ 9223372036854775807 then (driftnetlaw04_QuoteWhole.l0 kj5 l0 a1 (x5_1 ++ t3) (wrap64 (x6_1 + 1))) else (none)))) else (if x5_1.size + t3.size ≤ 9223372036854775807 then (driftnetlaw04_QuoteWhole.l0 kj5 l0 a1 (x5_1 ++ t3) (wrap64 (x6_1 + 1))) else (none))) else (if x5_1.size + t3.size ≤ 9223372036854775807 then (driftnetlaw04_QuoteWhole.l0 kj5 l0 a1 (x5_1 ++ t3) (wrap64 (x6_1 + 1))) else (none))) else (some false))))) else (some false)) = some r := H
                  have A12 := Aside0.mk A120
                  clear A120
                  by_cases c13 : t5 = (t3.size : Int)
                  · rw [if_pos c13] at H
                    have c13b0 : (t5 == (t3.size : Int)) = true := beq_iff_eq.mpr c13
                    have c13b1 : (t5 != (t3.size : Int)) = false := bne_eq_false_iff_eq.mpr c13
                    clear c13
                    by_cases c14 : t5 < 1
                    · rw [if_pos c14] at H
                      have c14b0 : decide (t5 < 1) = true := decide_eq_true c14
                      clear c14
                      obtain rfl := Option.some.inj H
                      have p2 : 0 ≤ (x6_1 : Int) := of_decide_eq_true (by first | (with_reducible assumption) | assumption)
                      have q2 : x6_1 < (l0.length : Int) := of_decide_eq_true (by first | (with_reducible assumption) | assumption)
                      obtain ⟨ad2, e2, hx2_0⟩ := Kd.at_int HR0.out x6_1 p2 q2
                      cases e2
                      replace hx2_0 := (HB.out.cell (World.block_lt_of_cell? w _ hx2_0)).trans hx2_0
                      replace p2 := eq_true p2
                      replace q2 := eq_true q2
                      go_wp2_with (first | ((with_reducible refine gate_callee (f := 16) rfl ?_); refine goesL_ (some 32) rfl rfl Tryd.func16 (by kernel_rfl) rfl #[.int .i32 (rd l0 x6_1)] rfl (by (try simp only [List.map_toArray, List.map_cons, List.map_nil]); first | done | rfl | (simp only [List.length_drop, List.length_take]; rfl)) ?_; (with_reducible refine (quote_Encode.calls (rd l0 x6_1) t3 _ A11.out).mono ?_); rintro e w15 ⟨rfl, hb⟩; refine ⟨_, rfl, ?_⟩; have n0_ := Aside0.mk (below_step (by repeat (first | (with_reducible first | exact HB.out | apply below_alloc | apply pw_below_drewN | apply below_drew1) | exact HB.out)) hb); clear HB; have HB := n0_; clear n0_; (try clear hb); (try clear hb2); (try clear hk); (try clear hi)) | ((with_reducible refine gate_callee (f := 18) rfl ?_); refine goesL_ (some 35) rfl rfl Tryd.func18 (by kernel_rfl) rfl #[.string t3] rfl (by (try simp only [List.map_toArray, List.map_cons, List.map_nil]); first | done | rfl | (simp only [List.length_drop, List.length_take]; rfl)) ?_; (with_reducible refine (quote_Decode.calls t3 t4 t5 _ ?side1 A12.out).mono ?_); (case side1 => exact G.at hG.out (by repeat (first | (with_reducible first | exact HB.out | apply below_alloc | apply pw_below_drewN | apply below_drew1) | exact HB.out))); rintro e w16 ⟨rfl, hb⟩; refine ⟨_, rfl, ?_⟩; have n0_ := Aside0.mk (below_step (by repeat (first | (with_reducible first | exact HB.out | apply below_alloc | apply pw_below_drewN | apply below_drew1) | exact HB.out)) hb); clear HB; have HB := n0_; clear n0_; (try clear hb); (try clear hb2); (try clear hk); (try clear hi)))
                      go_ret
                      exact ⟨by first | rfl | (simp [errW_none, errW_some] <;> rfl) | (simp [*, errW_none, errW_some] <;> rfl), by repeat (first | (with_reducible first | exact HB.out | apply below_alloc | apply pw_below_drewN | apply below_drew1) | exact HB.out)⟩
                    · rw [if_neg c14] at H
                      have c14b0 : decide (t5 < 1) = false := decide_eq_false c14
                      clear c14
                      by_cases c17 : t5 > 4
                      · rw [if_pos c17] at H
                        have c17b0 : decide (4 < t5) = true := decide_eq_true c17
                        clear c17
                        obtain rfl := Option.some.inj H
                        have p2 : 0 ≤ (x6_1 : Int) := of_decide_eq_true (by first | (with_reducible assumption) | assumption)
                        have q2 : x6_1 < (l0.length : Int) := of_decide_eq_true (by first | (with_reducible assumption) | assumption)
                        obtain ⟨ad2, e2, hx2_0⟩ := Kd.at_int HR0.out x6_1 p2 q2
                        cases e2
                        replace hx2_0 := (HB.out.cell (World.block_lt_of_cell? w _ hx2_0)).trans hx2_0
                        replace p2 := eq_true p2
                        replace q2 := eq_true q2
                        go_wp2_with (first | ((with_reducible refine gate_callee (f := 16) rfl ?_); refine goesL_ (some 32) rfl rfl Tryd.func16 (by kernel_rfl) rfl #[.int .i32 (rd l0 x6_1)] rfl (by (try simp only [List.map_toArray, List.map_cons, List.map_nil]); first | done | rfl | (simp only [List.length_drop, List.length_take]; rfl)) ?_; (with_reducible refine (quote_Encode.calls (rd l0 x6_1) t3 _ A11.out).mono ?_); rintro e w18 ⟨rfl, hb⟩; refine ⟨_, rfl, ?_⟩; have n0_ := Aside0.mk (below_step (by repeat (first | (with_reducible first | exact HB.out | apply below_alloc | apply pw_below_drewN | apply below_drew1) | exact HB.out)) hb); clear HB; have HB := n0_; clear n0_; (try clear hb); (try clear hb2); (try clear hk); (try clear hi)) | ((with_reducible refine gate_callee (f := 18) rfl ?_); refine goesL_ (some 35) rfl rfl Tryd.func18 (by kernel_rfl) rfl #[.string t3] rfl (by (try simp only [List.map_toArray, List.map_cons, List.map_nil]); first | done | rfl | (simp only [List.length_drop, List.length_take]; rfl)) ?_; (with_reducible refine (quote_Decode.calls t3 t4 t5 _ ?side1 A12.out).mono ?_); (case side1 => exact G.at hG.out (by repeat (first | (with_reducible first | exact HB.out | apply below_alloc | apply pw_below_drewN | apply below_drew1) | exact HB.out))); rintro e w19 ⟨rfl, hb⟩; refine ⟨_, rfl, ?_⟩; have n0_ := Aside0.mk (below_step (by repeat (first | (with_reducible first | exact HB.out | apply below_alloc | apply pw_below_drewN | apply below_drew1) | exact HB.out)) hb); clear HB; have HB := n0_; clear n0_; (try clear hb); (try clear hb2); (try clear hk); (try clear hi)))
                        go_ret
                        exact ⟨by first | rfl | (simp [errW_none, errW_some] <;> rfl) | (simp [*, errW_none, errW_some] <;> rfl), by repeat (first | (with_reducible first | exact HB.out | apply below_alloc | apply pw_below_drewN | apply below_drew1) | exact HB.out)⟩
                      · rw [if_neg c17] at H
                        have c17b0 : decide (4 < t5) = false := decide_eq_false c17
                        clear c17
                        by_cases c20 : t4 = (rd l0 x6_1)
                        · rw [if_pos c20] at H
                          have c20b0 : (t4 == (rd l0 x6_1)) = true := beq_iff_eq.mpr c20
                          have c20b1 : (t4 != (rd l0 x6_1)) = false := bne_eq_false_iff_eq.mpr c20
                          clear c20
                          by_cases c21 : x5_1.size + t3.size ≤ 9223372036854775807
                          · rw [if_pos c21] at H
                            have c21b0 := eq_true c21
                            have c21b1 : decide (x5_1.size + t3.size ≤ 9223372036854775807) = true := decide_eq_true c21
                            try have c21b2 : (9223372036854775807 < x5_1.size + t3.size) = False := eq_false (Nat.not_lt.2 c21)
                            have H' := Aside0.mk H
                            clear H
                            have p2 : 0 ≤ (x6_1 : Int) := of_decide_eq_true (by first | (with_reducible assumption) | assumption)
                            have q2 : x6_1 < (l0.length : Int) := of_decide_eq_true (by first | (with_reducible assumption) | assumption)
                            obtain ⟨ad2, e2, hx2_0⟩ := Kd.at_int HR0.out x6_1 p2 q2
                            cases e2
                            replace hx2_0 := (HB.out.cell (World.block_lt_of_cell? w _ hx2_0)).trans hx2_0
                            replace p2 := eq_true p2
                            replace q2 := eq_true q2
                            go_wp2_with (first | ((with_reducible refine gate_callee (f := 16) rfl ?_); refine goesL_ (some 32) rfl rfl Tryd.func16 (by kernel_rfl) rfl #[.int .i32 (rd l0 x6_1)] rfl (by (try simp only [List.map_toArray, List.map_cons, List.map_nil]); first | done | rfl | (simp only [List.length_drop, List.length_take]; rfl)) ?_; (with_reducible refine (quote_Encode.calls (rd l0 x6_1) t3 _ A11.out).mono ?_); rintro e w22 ⟨rfl, hb⟩; refine ⟨_, rfl, ?_⟩; have n0_ := Aside0.mk (below_step (by repeat (first | (with_reducible first | exact HB.out | apply below_alloc | apply pw_below_drewN | apply below_drew1) | exact HB.out)) hb); clear HB; have HB := n0_; clear n0_; (try clear hb); (try clear hb2); (try clear hk); (try clear hi)) | ((with_reducible refine gate_callee (f := 18) rfl ?_); refine goesL_ (some 35) rfl rfl Tryd.func18 (by kernel_rfl) rfl #[.string t3] rfl (by (try simp only [List.map_toArray, List.map_cons, List.map_nil]); first | done | rfl | (simp only [List.length_drop, List.length_take]; rfl)) ?_; (with_reducible refine (quote_Decode.calls t3 t4 t5 _ ?side1 A12.out).mono ?_); (case side1 => exact G.at hG.out (by repeat (first | (with_reducible first | exact HB.out | apply below_alloc | apply pw_below_drewN | apply below_drew1) | exact HB.out))); rintro e w23 ⟨rfl, hb⟩; refine ⟨_, rfl, ?_⟩; have n0_ := Aside0.mk (below_step (by repeat (first | (with_reducible first | exact HB.out | apply below_alloc | apply pw_below_drewN | apply below_drew1) | exact HB.out)) hb); clear HB; have HB := n0_; clear n0_; (try clear hb); (try clear hb2); (try clear hk); (try clear hi); have p6 : 0 ≤ (x6_1 : Int) := of_decide_eq_true (by first | (with_reducible assumption) | assumption); have q6 : x6_1 < (l0.length : Int) := of_decide_eq_true (by first | (with_reducible assumption) | assumption); obtain ⟨ad6, e6, hx6_0⟩ := Kd.at_int HR0.out x6_1 p6 q6; obtain rfl : ad2 = ad6 := (by injection e6); replace hx6_0 := (HB.out.cell (World.block_lt_of_cell? w _ hx6_0)).trans hx6_0; replace p6 := eq_true p6; replace q6 := eq_true q6))
                            go_roundg kj5
                            case measure => have := HK1.out; have := HJ5.out; omega
                            case rel => exact ⟨(x5_1 ++ t3), (wrap64 (x6_1 + 1)), (by first | rfl | (simp; done) | (simp [*]; done)), (by first | rfl | (simp; done) | (simp [*]; done)), H', ⟨by have := HK1.out; have := HJ5.out; omega⟩, ⟨by repeat (first | (with_reducible first | exact HB.out | apply below_alloc | apply pw_below_drewN | apply below_drew1) | exact HB.out)⟩⟩
                          · rw [if_neg c21] at H
                            exact absurd H (by simp)
                        · rw [if_neg c20] at H
                          have c20b0 : (t4 == (rd l0 x6_1)) = false := beq_eq_false_iff_ne.mpr c20
                          have c20b1 : (t4 != (rd l0 x6_1)) = true := bne_iff_ne.mpr c20
                          by_cases c24 : t4 = 65533
                          · rw [if_pos c24] at H
                            have c24b0 : (t4 == 65533) = true := beq_iff_eq.mpr c24
                            have c24b1 : (t4 != 65533) = false := bne_eq_false_iff_eq.mpr c24
                            clear c24
                            by_cases c25 : (rd l0 x6_1) ≥ 0
                            · rw [if_pos c25] at H
                              have c25b0 : decide (0 ≤ (rd l0 x6_1)) = true := decide_eq_true c25
                              clear c25
                              by_cases c26 : (rd l0 x6_1) ≤ 1114111
                              · rw [if_pos c26] at H
                                have c26b0 : decide ((rd l0 x6_1) ≤ 1114111) = true := decide_eq_true c26
                                clear c26
                                by_cases c27 : (rd l0 x6_1) < 55296
                                · rw [if_pos c27] at H
                                  have c27b0 : decide ((rd l0 x6_1) < 55296) = true := decide_eq_true c27
                                  clear c27
                                  obtain rfl := Option.some.inj H
                                  have p2 : 0 ≤ (x6_1 : Int) := of_decide_eq_true (by first | (with_reducible assumption) | assumption)
                                  have q2 : x6_1 < (l0.length : Int) := of_decide_eq_true (by first | (with_reducible assumption) | assumption)
                                  obtain ⟨ad2, e2, hx2_0⟩ := Kd.at_int HR0.out x6_1 p2 q2
                                  cases e2
                                  replace hx2_0 := (HB.out.cell (World.block_lt_of_cell? w _ hx2_0)).trans hx2_0
                                  replace p2 := eq_true p2
                                  replace q2 := eq_true q2
                                  go_wp2_with (first | ((with_reducible refine gate_callee (f := 16) rfl ?_); refine goesL_ (some 32) rfl rfl Tryd.func16 (by kernel_rfl) rfl #[.int .i32 (rd l0 x6_1)] rfl (by (try simp only [List.map_toArray, List.map_cons, List.map_nil]); first | done | rfl | (simp only [List.length_drop, List.length_take]; rfl)) ?_; (with_reducible refine (quote_Encode.calls (rd l0 x6_1) t3 _ A11.out).mono ?_); rintro e w28 ⟨rfl, hb⟩; refine ⟨_, rfl, ?_⟩; have n0_ := Aside0.mk (below_step (by repeat (first | (with_reducible first | exact HB.out | apply below_alloc | apply pw_below_drewN | apply below_drew1) | exact HB.out)) hb); clear HB; have HB := n0_; clear n0_; (try clear hb); (try clear hb2); (try clear hk); (try clear hi)) | ((with_reducible refine gate_callee (f := 18) rfl ?_); refine goesL_ (some 35) rfl rfl Tryd.func18 (by kernel_rfl) rfl #[.string t3] rfl (by (try simp only [List.map_toArray, List.map_cons, List.map_nil]); first | done | rfl | (simp only [List.length_drop, List.length_take]; rfl)) ?_; (with_reducible refine (quote_Decode.calls t3 t4 t5 _ ?side1 A12.out).mono ?_); (case side1 => exact G.at hG.out (by repeat (first | (with_reducible first | exact HB.out | apply below_alloc | apply pw_below_drewN | apply below_drew1) | exact HB.out))); rintro e w29 ⟨rfl, hb⟩; refine ⟨_, rfl, ?_⟩; have n0_ := Aside0.mk (below_step (by repeat (first | (with_reducible first | exact HB.out | apply below_alloc | apply pw_below_drewN | apply below_drew1) | exact HB.out)) hb); clear HB; have HB := n0_; clear n0_; (try clear hb); (try clear hb2); (try clear hk); (try clear hi); have p6 : 0 ≤ (x6_1 : Int) := of_decide_eq_true (by first | (with_reducible assumption) | assumption); have q6 : x6_1 < (l0.length : Int) := of_decide_eq_true (by first | (with_reducible assumption) | assumption); obtain ⟨ad6, e6, hx6_0⟩ := Kd.at_int HR0.out x6_1 p6 q6; obtain rfl : ad2 = ad6 := (by injection e6); replace hx6_0 := (HB.out.cell (World.block_lt_of_cell? w _ hx6_0)).trans hx6_0; replace p6 := eq_true p6; replace q6 := eq_true q6; have p7 : 0 ≤ (x6_1 : Int) := of_decide_eq_true (by first | (with_reducible assumption) | assumption); have q7 : x6_1 < (l0.length : Int) := of_decide_eq_true (by first | (with_reducible assumption) | assumption); obtain ⟨ad7, e7, hx7_0⟩ := Kd.at_int HR0.out x6_1 p7 q7; obtain rfl : ad2 = ad7 := (by injection e7); replace hx7_0 := (HB.out.cell (World.block_lt_of_cell? w _ hx7_0)).trans hx7_0; replace p7 := eq_true p7; replace q7 := eq_true q7; have p8 : 0 ≤ (x6_1 : Int) := of_decide_eq_true (by first | (with_reducible assumption) | assumption); have q8 : x6_1 < (l0.length : Int) := of_decide_eq_true (by first | (with_reducible assumption) | assumption); obtain ⟨ad8, e8, hx8_0⟩ := Kd.at_int HR0.out x6_1 p8 q8; obtain rfl : ad2 = ad8 := (by injection e8); replace hx8_0 := (HB.out.cell (World.block_lt_of_cell? w _ hx8_0)).trans hx8_0; replace p8 := eq_true p8; replace q8 := eq_true q8; have p9 : 0 ≤ (x6_1 : Int) := of_decide_eq_true (by first | (with_reducible assumption) | assumption); have q9 : x6_1 < (l0.length : Int) := of_decide_eq_true (by first | (with_reducible assumption) | assumption); obtain ⟨ad9, e9, hx9_0⟩ := Kd.at_int HR0.out x6_1 p9 q9; obtain rfl : ad2 = ad9 := (by injection e9); replace hx9_0 := (HB.out.cell (World.block_lt_of_cell? w _ hx9_0)).trans hx9_0; replace p9 := eq_true p9; replace q9 := eq_true q9))
                                  go_ret
                                  exact ⟨by first | rfl | (simp [errW_none, errW_some] <;> rfl) | (simp [*, errW_none, errW_some] <;> rfl), by repeat (first | (with_reducible first | exact HB.out | apply below_alloc | apply pw_below_drewN | apply below_drew1) | exact HB.out)⟩
                                · rw [if_neg c27] at H
                                  have c27b0 : decide ((rd l0 x6_1) < 55296) = false := decide_eq_false c27
                                  clear c27
                                  by_cases c30 : (rd l0 x6_1) > 57343
                                  · rw [if_pos c30] at H
                                    have c30b0 : decide (57343 < (rd l0 x6_1)) = true := decide_eq_true c30
                                    clear c30
                                    obtain rfl := Option.some.inj H
                                    have p2 : 0 ≤ (x6_1 : Int) := of_decide_eq_true (by first | (with_reducible assumption) | assumption)
                                    have q2 : x6_1 < (l0.length : Int) := of_decide_eq_true (by first | (with_reducible assumption) | assumption)
                                    obtain ⟨ad2, e2, hx2_0⟩ := Kd.at_int HR0.out x6_1 p2 q2
                                    cases e2
                                    replace hx2_0 := (HB.out.cell (World.block_lt_of_cell? w _ hx2_0)).trans hx2_0
                                    replace p2 := eq_true p2
                                    replace q2 := eq_true q2
                                    go_wp2_with (first | ((with_reducible refine gate_callee (f := 16) rfl ?_); refine goesL_ (some 32) rfl rfl Tryd.func16 (by kernel_rfl) rfl #[.int .i32 (rd l0 x6_1)] rfl (by (try simp only [List.map_toArray, List.map_cons, List.map_nil]); first | done | rfl | (simp only [List.length_drop, List.length_take]; rfl)) ?_; (with_reducible refine (quote_Encode.calls (rd l0 x6_1) t3 _ A11.out).mono ?_); rintro e w31 ⟨rfl, hb⟩; refine ⟨_, rfl, ?_⟩; have n0_ := Aside0.mk (below_step (by repeat (first | (with_reducible first | exact HB.out | apply below_alloc | apply pw_below_drewN | apply below_drew1) | exact HB.out)) hb); clear HB; have HB := n0_; clear n0_; (try clear hb); (try clear hb2); (try clear hk); (try clear hi)) | ((with_reducible refine gate_callee (f := 18) rfl ?_); refine goesL_ (some 35) rfl rfl Tryd.func18 (by kernel_rfl) rfl #[.string t3] rfl (by (try simp only [List.map_toArray, List.map_cons, List.map_nil]); first | done | rfl | (simp only [List.length_drop, List.length_take]; rfl)) ?_; (with_reducible refine (quote_Decode.calls t3 t4 t5 _ ?side1 A12.out).mono ?_); (case side1 => exact G.at hG.out (by repeat (first | (with_reducible first | exact HB.out | apply below_alloc | apply pw_below_drewN | apply below_drew1) | exact HB.out))); rintro e w32 ⟨rfl, hb⟩; refine ⟨_, rfl, ?_⟩; have n0_ := Aside0.mk (below_step (by repeat (first | (with_reducible first | exact HB.out | apply below_alloc | apply pw_below_drewN | apply below_drew1) | exact HB.out)) hb); clear HB; have HB := n0_; clear n0_; (try clear hb); (try clear hb2); (try clear hk); (try clear hi); have p6 : 0 ≤ (x6_1 : Int) := of_decide_eq_true (by first | (with_reducible assumption) | assumption); have q6 : x6_1 < (l0.length : Int) := of_decide_eq_true (by first | (with_reducible assumption) | assumption); obtain ⟨ad6, e6, hx6_0⟩ := Kd.at_int HR0.out x6_1 p6 q6; obtain rfl : ad2 = ad6 := (by injection e6); replace hx6_0 := (HB.out.cell (World.block_lt_of_cell? w _ hx6_0)).trans hx6_0; replace p6 := eq_true p6; replace q6 := eq_true q6; have p7 : 0 ≤ (x6_1 : Int) := of_decide_eq_true (by first | (with_reducible assumption) | assumption); have q7 : x6_1 < (l0.length : Int) := of_decide_eq_true (by first | (with_reducible assumption) | assumption); obtain ⟨ad7, e7, hx7_0⟩ := Kd.at_int HR0.out x6_1 p7 q7; obtain rfl : ad2 = ad7 := (by injection e7); replace hx7_0 := (HB.out.cell (World.block_lt_of_cell? w _ hx7_0)).trans hx7_0; replace p7 := eq_true p7; replace q7 := eq_true q7; have p8 : 0 ≤ (x6_1 : Int) := of_decide_eq_true (by first | (with_reducible assumption) | assumption); have q8 : x6_1 < (l0.length : Int) := of_decide_eq_true (by first | (with_reducible assumption) | assumption); obtain ⟨ad8, e8, hx8_0⟩ := Kd.at_int HR0.out x6_1 p8 q8; obtain rfl : ad2 = ad8 := (by injection e8); replace hx8_0 := (HB.out.cell (World.block_lt_of_cell? w _ hx8_0)).trans hx8_0; replace p8 := eq_true p8; replace q8 := eq_true q8; have p9 : 0 ≤ (x6_1 : Int) := of_decide_eq_true (by first | (with_reducible assumption) | assumption); have q9 : x6_1 < (l0.length : Int) := of_decide_eq_true (by first | (with_reducible assumption) | assumption); obtain ⟨ad9, e9, hx9_0⟩ := Kd.at_int HR0.out x6_1 p9 q9; obtain rfl : ad2 = ad9 := (by injection e9); replace hx9_0 := (HB.out.cell (World.block_lt_of_cell? w _ hx9_0)).trans hx9_0; replace p9 := eq_true p9; replace q9 := eq_true q9; have p10 : 0 ≤ (x6_1 : Int) := of_decide_eq_true (by first | (with_reducible assumption) | assumption); have q10 : x6_1 < (l0.length : Int) := of_decide_eq_true (by first | (with_reducible assumption) | assumption); obtain ⟨ad10, e10, hx10_0⟩ := Kd.at_int HR0.out x6_1 p10 q10; obtain rfl : ad2 = ad10 := (by injection e10); replace hx10_0 := (HB.out.cell (World.block_lt_of_cell? w _ hx10_0)).trans hx10_0; replace p10 := eq_true p10; replace q10 := eq_true q10))
                                    go_ret
                                    exact ⟨by first | rfl | (simp [errW_none, errW_some] <;> rfl) | (simp [*, errW_none, errW_some] <;> rfl), by repeat (first | (with_reducible first | exact HB.out | apply below_alloc | apply pw_below_drewN | apply below_drew1) | exact HB.out)⟩
                                  · rw [if_neg c30] at H
                                    have c30b0 : decide (57343 < (rd l0 x6_1)) = false := decide_eq_false c30
                                    clear c30
                                    by_cases c33 : x5_1.size + t3.size ≤ 9223372036854775807
                                    · rw [if_pos c33] at H
                                      have c33b0 := eq_true c33
                                      have c33b1 : decide (x5_1.size + t3.size ≤ 9223372036854775807) = true := decide_eq_true c33
                                      try have c33b2 : (9223372036854775807 < x5_1.size + t3.size) = False := eq_false (Nat.not_lt.2 c33)
                                      have H' := Aside0.mk H
                                      clear H
                                      have p2 : 0 ≤ (x6_1 : Int) := of_decide_eq_true (by first | (with_reducible assumption) | assumption)
                                      have q2 : x6_1 < (l0.length : Int) := of_decide_eq_true (by first | (with_reducible assumption) | assumption)
                                      obtain ⟨ad2, e2, hx2_0⟩ := Kd.at_int HR0.out x6_1 p2 q2
                                      cases e2
                                      replace hx2_0 := (HB.out.cell (World.block_lt_of_cell? w _ hx2_0)).trans hx2_0
                                      replace p2 := eq_true p2
                                      replace q2 := eq_true q2
                                      go_wp2_with (first | ((with_reducible refine gate_callee (f := 16) rfl ?_); refine goesL_ (some 32) rfl rfl Tryd.func16 (by kernel_rfl) rfl #[.int .i32 (rd l0 x6_1)] rfl (by (try simp only [List.map_toArray, List.map_cons, List.map_nil]); first | done | rfl | (simp only [List.length_drop, List.length_take]; rfl)) ?_; (with_reducible refine (quote_Encode.calls (rd l0 x6_1) t3 _ A11.out).mono ?_); rintro e w34 ⟨rfl, hb⟩; refine ⟨_, rfl, ?_⟩; have n0_ := Aside0.mk (below_step (by repeat (first | (with_reducible first | exact HB.out | apply below_alloc | apply pw_below_drewN | apply below_drew1) | exact HB.out)) hb); clear HB; have HB := n0_; clear n0_; (try clear hb); (try clear hb2); (try clear hk); (try clear hi)) | ((with_reducible refine gate_callee (f := 18) rfl ?_); refine goesL_ (some 35) rfl rfl Tryd.func18 (by kernel_rfl) rfl #[.string t3] rfl (by (try simp only [List.map_toArray, List.map_cons, List.map_nil]); first | done | rfl | (simp only [List.length_drop, List.length_take]; rfl)) ?_; (with_reducible refine (quote_Decode.calls t3 t4 t5 _ ?side1 A12.out).mono ?_); (case side1 => exact G.at hG.out (by repeat (first | (with_reducible first | exact HB.out | apply below_alloc | apply pw_below_drewN | apply below_drew1) | exact HB.out))); rintro e w35 ⟨rfl, hb⟩; refine ⟨_, rfl, ?_⟩; have n0_ := Aside0.mk (below_step (by repeat (first | (with_reducible first | exact HB.out | apply below_alloc | apply pw_below_drewN | apply below_drew1) | exact HB.out)) hb); clear HB; have HB := n0_; clear n0_; (try clear hb); (try clear hb2); (try clear hk); (try clear hi); have p6 : 0 ≤ (x6_1 : Int) := of_decide_eq_true (by first | (with_reducible assumption) | assumption); have q6 : x6_1 < (l0.length : Int) := of_decide_eq_true (by first | (with_reducible assumption) | assumption); obtain ⟨ad6, e6, hx6_0⟩ := Kd.at_int HR0.out x6_1 p6 q6; obtain rfl : ad2 = ad6 := (by injection e6); replace hx6_0 := (HB.out.cell (World.block_lt_of_cell? w _ hx6_0)).trans hx6_0; replace p6 := eq_true p6; replace q6 := eq_true q6; have p7 : 0 ≤ (x6_1 : Int) := of_decide_eq_true (by first | (with_reducible assumption) | assumption); have q7 : x6_1 < (l0.length : Int) := of_decide_eq_true (by first | (with_reducible assumption) | assumption); obtain ⟨ad7, e7, hx7_0⟩ := Kd.at_int HR0.out x6_1 p7 q7; obtain rfl : ad2 = ad7 := (by injection e7); replace hx7_0 := (HB.out.cell (World.block_lt_of_cell? w _ hx7_0)).trans hx7_0; replace p7 := eq_true p7; replace q7 := eq_true q7; have p8 : 0 ≤ (x6_1 : Int) := of_decide_eq_true (by first | (with_reducible assumption) | assumption); have q8 : x6_1 < (l0.length : Int) := of_decide_eq_true (by first | (with_reducible assumption) | assumption); obtain ⟨ad8, e8, hx8_0⟩ := Kd.at_int HR0.out x6_1 p8 q8; obtain rfl : ad2 = ad8 := (by injection e8); replace hx8_0 := (HB.out.cell (World.block_lt_of_cell? w _ hx8_0)).trans hx8_0; replace p8 := eq_true p8; replace q8 := eq_true q8; have p9 : 0 ≤ (x6_1 : Int) := of_decide_eq_true (by first | (with_reducible assumption) | assumption); have q9 : x6_1 < (l0.length : Int) := of_decide_eq_true (by first | (with_reducible assumption) | assumption); obtain ⟨ad9, e9, hx9_0⟩ := Kd.at_int HR0.out x6_1 p9 q9; obtain rfl : ad2 = ad9 := (by injection e9); replace hx9_0 := (HB.out.cell (World.block_lt_of_cell? w _ hx9_0)).trans hx9_0; replace p9 := eq_true p9; replace q9 := eq_true q9; have p10 : 0 ≤ (x6_1 : Int) := of_decide_eq_true (by first | (with_reducible assumption) | assumption); have q10 : x6_1 < (l0.length : Int) := of_decide_eq_true (by first | (with_reducible assumption) | assumption); obtain ⟨ad10, e10, hx10_0⟩ := Kd.at_int HR0.out x6_1 p10 q10; obtain rfl : ad2 = ad10 := (by injection e10); replace hx10_0 := (HB.out.cell (World.block_lt_of_cell? w _ hx10_0)).trans hx10_0; replace p10 := eq_true p10; replace q10 := eq_true q10))
                                      go_roundg kj5
                                      case measure => have := HK1.out; have := HJ5.out; omega
                                      case rel => exact ⟨(x5_1 ++ t3), (wrap64 (x6_1 + 1)), (by first | rfl | (simp; done) | (simp [*]; done)), (by first | rfl | (simp; done) | (simp [*]; done)), H', ⟨by have := HK1.out; have := HJ5.out; omega⟩, ⟨by repeat (first | (with_reducible first | exact HB.out | apply below_alloc | apply pw_below_drewN | apply below_drew1) | exact HB.out)⟩⟩
                                    · rw [if_neg c33] at H
                                      exact absurd H (by simp)
                              · rw [if_neg c26] at H
                                have c26b0 : decide ((rd l0 x6_1) ≤ 1114111) = false := decide_eq_false c26
                                clear c26
                                by_cases c36 : x5_1.size + t3.size ≤ 9223372036854775807
                                · rw [if_pos c36] at H
                                  have c36b0 := eq_true c36
                                  have c36b1 : decide (x5_1.size + t3.size ≤ 9223372036854775807) = true := decide_eq_true c36
                                  try have c36b2 : (9223372036854775807 < x5_1.size + t3.size) = False := eq_false (Nat.not_lt.2 c36)
                                  have H' := Aside0.mk H
                                  clear H
                                  have p2 : 0 ≤ (x6_1 : Int) := of_decide_eq_true (by first | (with_reducible assumption) | assumption)
                                  have q2 : x6_1 < (l0.length : Int) := of_decide_eq_true (by first | (with_reducible assumption) | assumption)
                                  obtain ⟨ad2, e2, hx2_0⟩ := Kd.at_int HR0.out x6_1 p2 q2
                                  cases e2
                                  replace hx2_0 := (HB.out.cell (World.block_lt_of_cell? w _ hx2_0)).trans hx2_0
                                  replace p2 := eq_true p2
                                  replace q2 := eq_true q2
                                  go_wp2_with (first | ((with_reducible refine gate_callee (f := 16) rfl ?_); refine goesL_ (some 32) rfl rfl Tryd.func16 (by kernel_rfl) rfl #[.int .i32 (rd l0 x6_1)] rfl (by (try simp only [List.map_toArray, List.map_cons, List.map_nil]); first | done | rfl | (simp only [List.length_drop, List.length_take]; rfl)) ?_; (with_reducible refine (quote_Encode.calls (rd l0 x6_1) t3 _ A11.out).mono ?_); rintro e w37 ⟨rfl, hb⟩; refine ⟨_, rfl, ?_⟩; have n0_ := Aside0.mk (below_step (by repeat (first | (with_reducible first | exact HB.out | apply below_alloc | apply pw_below_drewN | apply below_drew1) | exact HB.out)) hb); clear HB; have HB := n0_; clear n0_; (try clear hb); (try clear hb2); (try clear hk); (try clear hi)) | ((with_reducible refine gate_callee (f := 18) rfl ?_); refine goesL_ (some 35) rfl rfl Tryd.func18 (by kernel_rfl) rfl #[.string t3] rfl (by (try simp only [List.map_toArray, List.map_cons, List.map_nil]); first | done | rfl | (simp only [List.length_drop, List.length_take]; rfl)) ?_; (with_reducible refine (quote_Decode.calls t3 t4 t5 _ ?side1 A12.out).mono ?_); (case side1 => exact G.at hG.out (by repeat (first | (with_reducible first | exact HB.out | apply below_alloc | apply pw_below_drewN | apply below_drew1) | exact HB.out))); rintro e w38 ⟨rfl, hb⟩; refine ⟨_, rfl, ?_⟩; have n0_ := Aside0.mk (below_step (by repeat (first | (with_reducible first | exact HB.out | apply below_alloc | apply pw_below_drewN | apply below_drew1) | exact HB.out)) hb); clear HB; have HB := n0_; clear n0_; (try clear hb); (try clear hb2); (try clear hk); (try clear hi); have p6 : 0 ≤ (x6_1 : Int) := of_decide_eq_true (by first | (with_reducible assumption) | assumption); have q6 : x6_1 < (l0.length : Int) := of_decide_eq_true (by first | (with_reducible assumption) | assumption); obtain ⟨ad6, e6, hx6_0⟩ := Kd.at_int HR0.out x6_1 p6 q6; obtain rfl : ad2 = ad6 := (by injection e6); replace hx6_0 := (HB.out.cell (World.block_lt_of_cell? w _ hx6_0)).trans hx6_0; replace p6 := eq_true p6; replace q6 := eq_true q6; have p7 : 0 ≤ (x6_1 : Int) := of_decide_eq_true (by first | (with_reducible assumption) | assumption); have q7 : x6_1 < (l0.length : Int) := of_decide_eq_true (by first | (with_reducible assumption) | assumption); obtain ⟨ad7, e7, hx7_0⟩ := Kd.at_int HR0.out x6_1 p7 q7; obtain rfl : ad2 = ad7 := (by injection e7); replace hx7_0 := (HB.out.cell (World.block_lt_of_cell? w _ hx7_0)).trans hx7_0; replace p7 := eq_true p7; replace q7 := eq_true q7; have p8 : 0 ≤ (x6_1 : Int) := of_decide_eq_true (by first | (with_reducible assumption) | assumption); have q8 : x6_1 < (l0.length : Int) := of_decide_eq_true (by first | (with_reducible assumption) | assumption); obtain ⟨ad8, e8, hx8_0⟩ := Kd.at_int HR0.out x6_1 p8 q8; obtain rfl : ad2 = ad8 := (by injection e8); replace hx8_0 := (HB.out.cell (World.block_lt_of_cell? w _ hx8_0)).trans hx8_0; replace p8 := eq_true p8; replace q8 := eq_true q8))
                                  go_roundg kj5
                                  case measure => have := HK1.out; have := HJ5.out; omega
                                  case rel => exact ⟨(x5_1 ++ t3), (wrap64 (x6_1 + 1)), (by first | rfl | (simp; done) | (simp [*]; done)), (by first | rfl | (simp; done) | (simp [*]; done)), H', ⟨by have := HK1.out; have := HJ5.out; omega⟩, ⟨by repeat (first | (with_reducible first | exact HB.out | apply below_alloc | apply pw_below_drewN | apply below_drew1) | exact HB.out)⟩⟩
                                · rw [if_neg c36] at H
                                  exact absurd H (by simp)
                            · rw [if_neg c25] at H
                              have c25b0 : decide (0 ≤ (rd l0 x6_1)) = false := decide_eq_false c25
                              clear c25
                              by_cases c39 : x5_1.size + t3.size ≤ 9223372036854775807
                              · rw [if_pos c39] at H
                                have c39b0 := eq_true c39
                                have c39b1 : decide (x5_1.size + t3.size ≤ 9223372036854775807) = true := decide_eq_true c39
                                try have c39b2 : (9223372036854775807 < x5_1.size + t3.size) = False := eq_false (Nat.not_lt.2 c39)
                                have H' := Aside0.mk H
                                clear H
                                have p2 : 0 ≤ (x6_1 : Int) := of_decide_eq_true (by first | (with_reducible assumption) | assumption)
                                have q2 : x6_1 < (l0.length : Int) := of_decide_eq_true (by first | (with_reducible assumption) | assumption)
                                obtain ⟨ad2, e2, hx2_0⟩ := Kd.at_int HR0.out x6_1 p2 q2
                                cases e2
                                replace hx2_0 := (HB.out.cell (World.block_lt_of_cell? w _ hx2_0)).trans hx2_0
                                replace p2 := eq_true p2
                                replace q2 := eq_true q2
                                go_wp2_with (first | ((with_reducible refine gate_callee (f := 16) rfl ?_); refine goesL_ (some 32) rfl rfl Tryd.func16 (by kernel_rfl) rfl #[.int .i32 (rd l0 x6_1)] rfl (by (try simp only [List.map_toArray, List.map_cons, List.map_nil]); first | done | rfl | (simp only [List.length_drop, List.length_take]; rfl)) ?_; (with_reducible refine (quote_Encode.calls (rd l0 x6_1) t3 _ A11.out).mono ?_); rintro e w40 ⟨rfl, hb⟩; refine ⟨_, rfl, ?_⟩; have n0_ := Aside0.mk (below_step (by repeat (first | (with_reducible first | exact HB.out | apply below_alloc | apply pw_below_drewN | apply below_drew1) | exact HB.out)) hb); clear HB; have HB := n0_; clear n0_; (try clear hb); (try clear hb2); (try clear hk); (try clear hi)) | ((with_reducible refine gate_callee (f := 18) rfl ?_); refine goesL_ (some 35) rfl rfl Tryd.func18 (by kernel_rfl) rfl #[.string t3] rfl (by (try simp only [List.map_toArray, List.map_cons, List.map_nil]); first | done | rfl | (simp only [List.length_drop, List.length_take]; rfl)) ?_; (with_reducible refine (quote_Decode.calls t3 t4 t5 _ ?side1 A12.out).mono ?_); (case side1 => exact G.at hG.out (by repeat (first | (with_reducible first | exact HB.out | apply below_alloc | apply pw_below_drewN | apply below_drew1) | exact HB.out))); rintro e w41 ⟨rfl, hb⟩; refine ⟨_, rfl, ?_⟩; have n0_ := Aside0.mk (below_step (by repeat (first | (with_reducible first | exact HB.out | apply below_alloc | apply pw_below_drewN | apply below_drew1) | exact HB.out)) hb); clear HB; have HB := n0_; clear n0_; (try clear hb); (try clear hb2); (try clear hk); (try clear hi); have p6 : 0 ≤ (x6_1 : Int) := of_decide_eq_true (by first | (with_reducible assumption) | assumption); have q6 : x6_1 < (l0.length : Int) := of_decide_eq_true (by first | (with_reducible assumption) | assumption); obtain ⟨ad6, e6, hx6_0⟩ := Kd.at_int HR0.out x6_1 p6 q6; obtain rfl : ad2 = ad6 := (by injection e6); replace hx6_0 := (HB.out.cell (World.block_lt_of_cell? w _ hx6_0)).trans hx6_0; replace p6 := eq_true p6; replace q6 := eq_true q6; have p7 : 0 ≤ (x6_1 : Int) := of_decide_eq_true (by first | (with_reducible assumption) | assumption); have q7 : x6_1 < (l0.length : Int) := of_decide_eq_true (by first | (with_reducible assumption) | assumption); obtain ⟨ad7, e7, hx7_0⟩ := Kd.at_int HR0.out x6_1 p7 q7; obtain rfl : ad2 = ad7 := (by injection e7); replace hx7_0 := (HB.out.cell (World.block_lt_of_cell? w _ hx7_0)).trans hx7_0; replace p7 := eq_true p7; replace q7 := eq_true q7))
                                go_roundg kj5
                                case measure => have := HK1.out; have := HJ5.out; omega
                                case rel => exact ⟨(x5_1 ++ t3), (wrap64 (x6_1 + 1)), (by first | rfl | (simp; done) | (simp [*]; done)), (by first | rfl | (simp; done) | (simp [*]; done)), H', ⟨by have := HK1.out; have := HJ5.out; omega⟩, ⟨by repeat (first | (with_reducible first | exact HB.out | apply below_alloc | apply pw_below_drewN | apply below_drew1) | exact HB.out)⟩⟩
                              · rw [if_neg c39] at H
                                exact absurd H (by simp)
                          · rw [if_neg c24] at H
                            have c24b0 : (t4 == 65533) = false := beq_eq_false_iff_ne.mpr c24
                            have c24b1 : (t4 != 65533) = true := bne_iff_ne.mpr c24
                            obtain rfl := Option.some.inj H
                            have p2 : 0 ≤ (x6_1 : Int) := of_decide_eq_true (by first | (with_reducible assumption) | assumption)
                            have q2 : x6_1 < (l0.length : Int) := of_decide_eq_true (by first | (with_reducible assumption) | assumption)
                            obtain ⟨ad2, e2, hx2_0⟩ := Kd.at_int HR0.out x6_1 p2 q2
                            cases e2
                            replace hx2_0 := (HB.out.cell (World.block_lt_of_cell? w _ hx2_0)).trans hx2_0
                            replace p2 := eq_true p2
                            replace q2 := eq_true q2
                            go_wp2_with (first | ((with_reducible refine gate_callee (f := 16) rfl ?_); refine goesL_ (some 32) rfl rfl Tryd.func16 (by kernel_rfl) rfl #[.int .i32 (rd l0 x6_1)] rfl (by (try simp only [List.map_toArray, List.map_cons, List.map_nil]); first | done | rfl | (simp only [List.length_drop, List.length_take]; rfl)) ?_; (with_reducible refine (quote_Encode.calls (rd l0 x6_1) t3 _ A11.out).mono ?_); rintro e w42 ⟨rfl, hb⟩; refine ⟨_, rfl, ?_⟩; have n0_ := Aside0.mk (below_step (by repeat (first | (with_reducible first | exact HB.out | apply below_alloc | apply pw_below_drewN | apply below_drew1) | exact HB.out)) hb); clear HB; have HB := n0_; clear n0_; (try clear hb); (try clear hb2); (try clear hk); (try clear hi)) | ((with_reducible refine gate_callee (f := 18) rfl ?_); refine goesL_ (some 35) rfl rfl Tryd.func18 (by kernel_rfl) rfl #[.string t3] rfl (by (try simp only [List.map_toArray, List.map_cons, List.map_nil]); first | done | rfl | (simp only [List.length_drop, List.length_take]; rfl)) ?_; (with_reducible refine (quote_Decode.calls t3 t4 t5 _ ?side1 A12.out).mono ?_); (case side1 => exact G.at hG.out (by repeat (first | (with_reducible first | exact HB.out | apply below_alloc | apply pw_below_drewN | apply below_drew1) | exact HB.out))); rintro e w43 ⟨rfl, hb⟩; refine ⟨_, rfl, ?_⟩; have n0_ := Aside0.mk (below_step (by repeat (first | (with_reducible first | exact HB.out | apply below_alloc | apply pw_below_drewN | apply below_drew1) | exact HB.out)) hb); clear HB; have HB := n0_; clear n0_; (try clear hb); (try clear hb2); (try clear hk); (try clear hi); have p6 : 0 ≤ (x6_1 : Int) := of_decide_eq_true (by first | (with_reducible assumption) | assumption); have q6 : x6_1 < (l0.length : Int) := of_decide_eq_true (by first | (with_reducible assumption) | assumption); obtain ⟨ad6, e6, hx6_0⟩ := Kd.at_int HR0.out x6_1 p6 q6; obtain rfl : ad2 = ad6 := (by injection e6); replace hx6_0 := (HB.out.cell (World.block_lt_of_cell? w _ hx6_0)).trans hx6_0; replace p6 := eq_true p6; replace q6 := eq_true q6))
                            go_ret
                            exact ⟨by first | rfl | (simp [errW_none, errW_some] <;> rfl) | (simp [*, errW_none, errW_some] <;> rfl), by repeat (first | (with_reducible first | exact HB.out | apply below_alloc | apply pw_below_drewN | apply below_drew1) | exact HB.out)⟩
                  · rw [if_neg c13] at H
                    have c13b0 : (t5 == (t3.size : Int)) = false := beq_eq_false_iff_ne.mpr c13
                    have c13b1 : (t5 != (t3.size : Int)) = true := bne_iff_ne.mpr c13
                    obtain rfl := Option.some.inj H
                    have p2 : 0 ≤ (x6_1 : Int) := of_decide_eq_true (by first | (with_reducible assumption) | assumption)
                    have q2 : x6_1 < (l0.length : Int) := of_decide_eq_true (by first | (with_reducible assumption) | assumption)
                    obtain ⟨ad2, e2, hx2_0⟩ := Kd.at_int HR0.out x6_1 p2 q2
                    cases e2
                    replace hx2_0 := (HB.out.cell (World.block_lt_of_cell? w _ hx2_0)).trans hx2_0
                    replace p2 := eq_true p2
                    replace q2 := eq_true q2
                    go_wp2_with (first | ((with_reducible refine gate_callee (f := 16) rfl ?_); refine goesL_ (some 32) rfl rfl Tryd.func16 (by kernel_rfl) rfl #[.int .i32 (rd l0 x6_1)] rfl (by (try simp only [List.map_toArray, List.map_cons, List.map_nil]); first | done | rfl | (simp only [List.length_drop, List.length_take]; rfl)) ?_; (with_reducible refine (quote_Encode.calls (rd l0 x6_1) t3 _ A11.out).mono ?_); rintro e w44 ⟨rfl, hb⟩; refine ⟨_, rfl, ?_⟩; have n0_ := Aside0.mk (below_step (by repeat (first | (with_reducible first | exact HB.out | apply below_alloc | apply pw_below_drewN | apply below_drew1) | exact HB.out)) hb); clear HB; have HB := n0_; clear n0_; (try clear hb); (try clear hb2); (try clear hk); (try clear hi)) | ((with_reducible refine gate_callee (f := 18) rfl ?_); refine goesL_ (some 35) rfl rfl Tryd.func18 (by kernel_rfl) rfl #[.string t3] rfl (by (try simp only [List.map_toArray, List.map_cons, List.map_nil]); first | done | rfl | (simp only [List.length_drop, List.length_take]; rfl)) ?_; (with_reducible refine (quote_Decode.calls t3 t4 t5 _ ?side1 A12.out).mono ?_); (case side1 => exact G.at hG.out (by repeat (first | (with_reducible first | exact HB.out | apply below_alloc | apply pw_below_drewN | apply below_drew1) | exact HB.out))); rintro e w45 ⟨rfl, hb⟩; refine ⟨_, rfl, ?_⟩; have n0_ := Aside0.mk (below_step (by repeat (first | (with_reducible first | exact HB.out | apply below_alloc | apply pw_below_drewN | apply below_drew1) | exact HB.out)) hb); clear HB; have HB := n0_; clear n0_; (try clear hb); (try clear hb2); (try clear hk); (try clear hi)))
                    go_ret
                    exact ⟨by first | rfl | (simp [errW_none, errW_some] <;> rfl) | (simp [*, errW_none, errW_some] <;> rfl), by repeat (first | (with_reducible first | exact HB.out | apply below_alloc | apply pw_below_drewN | apply below_drew1) | exact HB.out)⟩
                · rw [if_neg c10] at H
                  exact absurd H (by simp)
              · rw [if_neg c9] at H
                exact absurd H (by simp)
            · replace c8 := Bool.eq_false_iff.mpr c8
              subst c8
              have H1 : ((quote_Runes.f x5_1).bind fun t11 => (if (t11.length : Int) = (mn (l0.length : Int) 300) then (if 0 ≤ (mn (a1.size : Int) 1000) then (if (mn (a1.size : Int) 1000) ≤ (a1.size : Int) then (driftnetlaw04_QuoteWhole.l1 kj5 (a1.extract 0 ((mn (a1.size : Int) 1000) : Int).toNat) (⟨#[]⟩ : ByteArray) 0 (a1.extract 0 ((mn (a1.size : Int) 1000) : Int).toNat)) else (none)) else (none)) else (some false))) = some r := by rw [if_neg (show ¬ (false = true) by decide)] at H; exact H
              clear H
              have H := H1
              clear H1
              replace H := Option.bind_eq_some_iff.mp H
              obtain ⟨t11, A460, H⟩ := H
              replace H : (if (t11.length : Int) = (mn (l0.length : Int) 300) then (if 0 ≤ (mn (a1.size : Int) 1000) then (if (mn (a1.size : Int) 1000) ≤ (a1.size : Int) then (driftnetlaw04_QuoteWhole.l1 kj5 (a1.extract 0 ((mn (a1.size : Int) 1000) : Int).toNat) (⟨#[]⟩ : ByteArray) 0 (a1.extract 0 ((mn (a1.size : Int) 1000) : Int).toNat)) else (none)) else (none)) else (some false)) = some r := H
              have A46 := Aside0.mk A460
              clear A460
              obtain ⟨ji47, hji47⟩ : ∃ j_ : Int, (mn (l0.length : Int) 300) = j_ := ⟨_, rfl⟩
              replace H : (if (t11.length : Int) = (ji47) then (if 0 ≤ (mn (a1.size : Int) 1000) then (if (mn (a1.size : Int) 1000) ≤ (a1.size : Int) then (driftnetlaw04_QuoteWhole.l1 kj5 (a1.extract 0 ((mn (a1.size : Int) 1000) : Int).toNat) (⟨#[]⟩ : ByteArray) 0 (a1.extract 0 ((mn (a1.size : Int) 1000) : Int).toNat)) else (none)) else (none)) else (some false)) = some r := by first | (rw [hji47] at H; exact H) | (simp only [hji47] at H ⊢; exact H)
              (try rw [hji47] at A46)
              have hji47_ : (if 300 < (l0.length : Int) then 300 else (l0.length : Int)) = ji47 := hji47
              by_cases c48 : (t11.length : Int) = (ji47)
              · rw [if_pos c48] at H
                have c48b0 : ((t11.length : Int) == (ji47)) = true := beq_iff_eq.mpr c48
                have c48b1 : ((t11.length : Int) != (ji47)) = false := bne_eq_false_iff_eq.mpr c48
                clear c48
                obtain ⟨ji49, hji49⟩ : ∃ j_ : Int, (mn (a1.size : Int) 1000) = j_ := ⟨_, rfl⟩
                replace H : (if 0 ≤ (ji49) then (if (ji49) ≤ (a1.size : Int) then (driftnetlaw04_QuoteWhole.l1 kj5 (a1.extract 0 ((ji49) : Int).toNat) (⟨#[]⟩ : ByteArray) 0 (a1.extract 0 ((ji49) : Int).toNat)) else (none)) else (none)) = some r := by first | (rw [hji49] at H; exact H) | (simp only [hji49] at H ⊢; exact H)
                (try rw [hji49] at A46)
                have hji49_ : (if 1000 < (a1.size : Int) then 1000 else (a1.size : Int)) = ji49 := hji49
                by_cases c50 : 0 ≤ (ji49)
                · rw [if_pos c50] at H
                  have c50b0 := eq_true c50
                  have c50b1 : decide (0 ≤ (ji49)) = true := decide_eq_true c50
                  clear c50
                  by_cases c51 : (ji49) ≤ (a1.size : Int)
                  · rw [if_pos c51] at H
                    have c51b0 := eq_true c51
                    have c51b1 : decide ((ji49) ≤ (a1.size : Int)) = true := decide_eq_true c51
                    clear c51
                    have H' := Aside0.mk H
                    clear H
                    go_wp2_with (first | ((with_reducible refine gate_callee (f := 19) rfl ?_); refine goesL_ (some 94) rfl rfl Tryd.func19 (by kernel_rfl) rfl #[.string x5_1] rfl (by (try simp only [List.map_toArray, List.map_cons, List.map_nil]); first | done | rfl | (simp only [List.length_drop, List.length_take]; rfl)) ?_; (with_reducible refine (quote_Runes.calls x5_1 t11 _ ?side1 A46.out).mono ?_); (case side1 => exact G.at hG.out (by repeat (first | (with_reducible first | exact HB.out | apply below_alloc | apply pw_below_drewN | apply below_drew1) | exact HB.out))); rintro e w52 ⟨v12, rfl, ho0, hb⟩; refine ⟨_, rfl, ?_⟩; have n0_ := Aside0.mk (Kd.R_lower ho0 (below_size (by repeat (first | (with_reducible first | exact HB.out | apply below_alloc | apply pw_below_drewN | apply below_drew1) | exact HB.out)))); have n1_ := Aside0.mk (below_step (by repeat (first | (with_reducible first | exact HB.out | apply below_alloc | apply pw_below_drewN | apply below_drew1) | exact HB.out)) hb); clear HB; have HO13 := n0_; have HB := n1_; clear n0_ n1_; (try clear hb); (try clear hb2); (try clear hk); (try clear hi); (try clear ho0); obtain ⟨Ao53, co53, eo53⟩ := Kd.R_slice HO13.out; subst eo53))
                    go_loopg [11, 12, 13] kj5 (fun kq v11 v12 v13 w' => ∃ (x11_3 : ByteArray) (x12_3 : Int) (x13_3 : ByteArray), v11 = .string x11_3 ∧ v12 = .int .i64 x12_3 ∧ v13 = .string x13_3 ∧ Aside0 (driftnetlaw04_QuoteWhole.l1 kq (a1.extract 0 ((ji49) : Int).toNat) x11_3 x12_3 x13_3 = some r) ∧ Aside0 (kq ≤ kj5) ∧ Aside0 (Below w.heap.size w w'))
                    case atStart => exact ⟨((⟨#[]⟩ : ByteArray)), (0), (a1.extract 0 ((ji49) : Int).toNat), (by first | rfl | (simp; done) | (simp [*]; done)), (by first | rfl | (simp; done) | (simp [*]; done)), (by first | rfl | (simp; done) | (simp only [← hji49] <;> (first | rfl | simp)) | (simp [*]; done)), H', ⟨Nat.le_refl _⟩, ⟨by repeat (first | (with_reducible first | exact HB.out | apply below_alloc | apply pw_below_drewN | apply below_drew1) | exact HB.out)⟩⟩
                    case round =>
                      clear H'
                      try clear c1
                      try clear p1
                      try clear q1
                      try clear hx1
                      try clear c2
                      try clear p2
                      try clear q2
                      try clear hx2
                      try clear c3
                      try clear c4
                      try clear c5
                      try clear c6
                      try clear p6
                      try clear q6
                      try clear hx6
                      try clear c7
                      try clear c7b0
                      try clear p7
                      try clear q7
                      try clear hx7
                      try clear c8
                      try clear p8
                      try clear q8
                      try clear hx8
                      try clear c9
                      try clear c9b0
                      try clear p9
                      try clear q9
                      try clear hx9
                      try clear c10
                      try clear c10b0
                      try clear p10
                      try clear q10
                      try clear hx10
                      try clear c13
                      try clear c13b0
                      try clear c13b1
                      try clear c14
                      try clear c14b0
                      try clear c16
                      try clear c17
                      try clear c17b0
                      try clear c18
                      try clear c19
                      try clear c20
                      try clear c20b0
                      try clear c20b1
                      try clear c21
                      try clear c21b0
                      try clear c21b1
                      try clear c21b2
                      try clear c24
                      try clear c24b0
                      try clear c24b1
                      try clear c25
                      try clear c25b0
                      try clear c26
                      try clear c26b0
                      try clear c27
                      try clear c27b0
                      try clear c30
                      try clear c30b0
                      try clear c33
                      try clear c33b0
                      try clear c33b1
                      try clear c33b2
                      try clear c36
                      try clear c36b0
                      try clear c36b1
                      try clear c36b2
                      try clear c39
                      try clear c39b0
                      try clear c39b1
                      try clear c39b2
                      try clear c48
                      try clear c48b0
                      try clear c48b1
                      try clear c50
                      try clear c50b0
                      try clear c50b1
                      try clear c51
                      try clear c51b0
                      try clear c51b1
                      try clear hx10_0
                      try clear hx2_0
                      try clear hx6_0
                      try clear hx7_0
                      try clear hx8_0
                      try clear hx9_0
                      try clear p10
                      try clear p2
                      try clear p6
                      try clear p7
                      try clear p8
                      try clear p9
                      try clear q10
                      try clear q2
                      try clear q6
                      try clear q7
                      try clear q8
                      try clear q9
                      obtain ⟨x11_3, x12_3, x13_3, rfl, rfl, rfl, HA, HK3, HB⟩ := hrel
                      cases gk with
                      | zero => exact absurd HA.out (by simp [driftnetlaw04_QuoteWhole.l1])
                      | succ k3 =>
                        have H := HA.out
                        clear HA
                        simp only [driftnetlaw04_QuoteWhole.l1] at H
                        by_cases c54 : x13_3.toList = ([] : List UInt8)
                        · rw [if_pos c54] at H
                          have c54b0 : (x13_3.toList == ([] : List UInt8)) = true := beq_iff_eq.mpr c54
                          have c54b1 : (x13_3.toList != ([] : List UInt8)) = false := bne_eq_false_iff_eq.mpr c54
                          clear c54
                          by_cases c55 : x11_3.toList = (a1.extract 0 ((ji49) : Int).toNat).toList
                          · rw [if_pos c55] at H
                            have c55b0 : (x11_3.toList == (a1.extract 0 ((ji49) : Int).toNat).toList) = true := beq_iff_eq.mpr c55
                            have c55b1 : (x11_3.toList != (a1.extract 0 ((ji49) : Int).toNat).toList) = false := bne_eq_false_iff_eq.mpr c55
                            clear c55
                            replace H := Option.bind_eq_some_iff.mp H
                            obtain ⟨t14, A560, H⟩ := H
                            replace H : (some ((t14.length : Int) == x12_3)) = some r := H
                            have A56 := Aside0.mk A560
                            clear A560
                            obtain rfl := Option.some.inj H
                            go_wp2_with (first | (go_at_call 19; (with_reducible refine (quote_Runes.calls (a1.extract 0 ((ji49) : Int).toNat) t14 _ ?side1 A56.out).mono ?_); (case side1 => exact G.at hG.out (by repeat (first | (with_reducible first | exact HB.out | apply below_alloc | apply pw_below_drewN | apply below_drew1) | exact HB.out))); rintro e w57 ⟨v15, rfl, ho0, hb⟩; have n0_ := Aside0.mk (Kd.R_lower ho0 (below_size (by repeat (first | (with_reducible first | exact HB.out | apply below_alloc | apply pw_below_drewN | apply below_drew1) | exact HB.out)))); have n1_ := Aside0.mk (below_step (by repeat (first | (with_reducible first | exact HB.out | apply below_alloc | apply pw_below_drewN | apply below_drew1) | exact HB.out)) hb); clear HB; have HO16 := n0_; have HB := n1_; clear n0_ n1_; (try clear hb); (try clear hb2); (try clear hk); (try clear hi); (try clear ho0); obtain ⟨Ao58, co58, eo58⟩ := Kd.R_slice HO16.out; subst eo58))
                            go_ret
                            exact ⟨by first | rfl | (simp [errW_none, errW_some] <;> rfl) | (simp only [← hji47, ← hji49]; first | rfl | (simp [errW_none, errW_some] <;> rfl)) | (simp [*, errW_none, errW_some] <;> rfl), by repeat (first | (with_reducible first | exact HB.out | apply below_alloc | apply pw_below_drewN | apply below_drew1) | exact HB.out)⟩
                          · rw [if_neg c55] at H
                            have c55b0 : (x11_3.toList == (a1.extract 0 ((ji49) : Int).toNat).toList) = false := beq_eq_false_iff_ne.mpr c55
                            have c55b1 : (x11_3.toList != (a1.extract 0 ((ji49) : Int).toNat).toList) = true := bne_iff_ne.mpr c55
                            obtain rfl := Option.some.inj H
                            go_wp2
                            go_ret
                            exact ⟨by first | rfl | (simp [errW_none, errW_some] <;> rfl) | (simp only [← hji47, ← hji49]; first | rfl | (simp [errW_none, errW_some] <;> rfl)) | (simp [*, errW_none, errW_some] <;> rfl), by repeat (first | (with_reducible first | exact HB.out | apply below_alloc | apply pw_below_drewN | apply below_drew1) | exact HB.out)⟩
                        · rw [if_neg c54] at H
                          have c54b0 : (x13_3.toList == ([] : List UInt8)) = false := beq_eq_false_iff_ne.mpr c54
                          have c54b1 : (x13_3.toList != ([] : List UInt8)) = true := bne_iff_ne.mpr c54
                          replace H := Option.bind_eq_some_iff.mp H
                          obtain ⟨⟨t17, t18⟩, A590, H⟩ := H
                          replace H : (if t18 < 1 then (driftnetlaw04_QuoteWhole.j3 k3 (a1.extract 0 ((ji49) : Int).toNat) x11_3 x12_3 x13_3 t17 t18 true) else (if t18 > (x13_3.size : Int) then (driftnetlaw04_QuoteWhole.j3 k3 (a1.extract 0 ((ji49) : Int).toNat) x11_3 x12_3 x13_3 t17 t18 true) else (if t18 = 1 then (if 0 < (x13_3.size : Int) then (if (bt x13_3 0) ≥ 128 then (driftnetlaw04_QuoteWhole.j3 k3 (a1.extract 0 ((ji49) : Int).toNat) x11_3 x12_3 x13_3 t17 t18 (t17 != 65533)) else (driftnetlaw04_QuoteWhole.j3 k3 (a1.extract 0 ((ji49) : Int).toNat) x11_3 x12_3 x13_3 t17 t18 false)) else (none)) else (driftnetlaw04_QuoteWhole.j3 k3 (a1.extract 0 ((ji49) : Int).toNat) x11_3 x12_3 x13_3 t17 t18 false)))) = some r := H
                          have A59 := Aside0.mk A590
                          clear A590
                          have HC60 := Aside0.mk H
                          clear H
                          go_upto_region 22 with (first | ((with_reducible refine gate_callee (f := 18) rfl ?_); refine goesL_ (some 113) rfl rfl Tryd.func18 (by kernel_rfl) rfl #[.string x13_3] rfl (by (try simp only [List.map_toArray, List.map_cons, List.map_nil]); first | done | rfl | (simp only [List.length_drop, List.length_take]; rfl)) ?_; (with_reducible refine (quote_Decode.calls x13_3 t17 t18 _ ?side1 A59.out).mono ?_); (case side1 => exact G.at hG.out (by repeat (first | (with_reducible first | exact HB.out | apply below_alloc | apply pw_below_drewN | apply below_drew1) | exact HB.out))); rintro e w61 ⟨rfl, hb⟩; refine ⟨_, rfl, ?_⟩; have n0_ := Aside0.mk (below_step (by repeat (first | (with_reducible first | exact HB.out | apply below_alloc | apply pw_below_drewN | apply below_drew1) | exact HB.out)) hb); clear HB; have HB := n0_; clear n0_; (try clear hb); (try clear hb2); (try clear hk); (try clear hi)))
                          (try simp only [Act.put, List.setIfInBounds_toArray, List.set_cons_zero, List.set_cons_succ])
                          go_cut [136] (fun v136 wc => ∃ (kq : Nat) (x136_59 : Bool), v136 = .bool x136_59 ∧ Aside0 (driftnetlaw04_QuoteWhole.j3 kq (a1.extract 0 ((ji49) : Int).toNat) x11_3 x12_3 x13_3 t17 t18 x136_59 = some r) ∧ Aside0 (kq ≤ k3) ∧ Aside0 (Below w.heap.size w wc))
                          case first =>
                            have H := HC60.out
                            clear HC60
                            by_cases c62 : t18 < 1
                            · rw [if_pos c62] at H
                              have c62b0 : decide (t18 < 1) = true := decide_eq_true c62
                              clear c62
                              (first | rw [c62b0] | (simp only [i64_w, i32_w]; rw [c62b0]) | skip)
                              have H' := Aside0.mk H
                              clear H
                              go_wp2
                              go_meet
                              case rel => exact ⟨_, (true), (by first | rfl | (simp; done) | (simp [*]; done)), H', ⟨by have := HK1.out; have := HJ5.out; have := HK3.out; first | omega | exact Nat.le_refl _⟩, ⟨by repeat (first | (with_reducible first | exact HB.out | apply below_alloc | apply pw_below_drewN | apply below_drew1) | exact HB.out)⟩⟩
                            · rw [if_neg c62] at H
                              have c62b0 : decide (t18 < 1) = false := decide_eq_false c62
                              clear c62
                              (first | rw [c62b0] | (simp only [i64_w, i32_w]; rw [c62b0]) | skip)
                              by_cases c63 : t18 > (x13_3.size : Int)
                              · rw [if_pos c63] at H
                                have c63b0 : decide ((x13_3.size : Int) < t18) = true := decide_eq_true c63
                                clear c63
                                have H' := Aside0.mk H
                                clear H
                                go_wp2
                                go_meet
                                case rel => exact ⟨_, (true), (by first | rfl | (simp; done) | (simp [*]; done)), H', ⟨by have := HK1.out; have := HJ5.out; have := HK3.out; first | omega | exact Nat.le_refl _⟩, ⟨by repeat (first | (with_reducible first | exact HB.out | apply below_alloc | apply pw_below_drewN | apply below_drew1) | exact HB.out)⟩⟩
                              · rw [if_neg c63] at H
                                have c63b0 : decide ((x13_3.size : Int) < t18) = false := decide_eq_false c63
                                clear c63
                                by_cases c64 : t18 = 1
                                · rw [if_pos c64] at H
                                  have c64b0 : (t18 == 1) = true := beq_iff_eq.mpr c64
                                  have c64b1 : (t18 != 1) = false := bne_eq_false_iff_eq.mpr c64
                                  clear c64
                                  by_cases c65 : 0 < (x13_3.size : Int)
                                  · rw [if_pos c65] at H
                                    have c65b0 : decide (0 < (x13_3.size : Int)) = true := decide_eq_true c65
                                    have c65b1 : decide (0 < x13_3.size) = true := decide_eq_true (by omega)
                                    clear c65
                                    by_cases c67 : (bt x13_3 0) ≥ 128
                                    · rw [if_pos c67] at H
                                      have c67b0 : decide (128 ≤ (bt x13_3 0)) = true := decide_eq_true c67
                                      clear c67
                                      have H' := Aside0.mk H
                                      clear H
                                      have p66 : 0 ≤ (0 : Int) := (by omega)
                                      have q66 : 0 < x13_3.size := (by have : (0 : Int) < (x13_3.size : Int) := of_decide_eq_true (by first | (with_reducible assumption) | assumption); omega)
                                      have hx66 : ∀ h : 0 < x13_3.size, ((x13_3[0]'h).toNat : Int) = bt x13_3 0 := bt_at x13_3 0
                                      clear p66
                                      have qi66 : (0 < (x13_3.size : Int)) = True := eq_true (of_decide_eq_true (by first | (with_reducible assumption) | assumption))
                                      replace q66 := eq_true q66
                                      go_wp2
                                      go_meet
                                      case rel => exact ⟨_, ((t17 != 65533)), (by first | rfl | (simp; done) | (simp [*]; done)), H', ⟨by have := HK1.out; have := HJ5.out; have := HK3.out; first | omega | exact Nat.le_refl _⟩, ⟨by repeat (first | (with_reducible first | exact HB.out | apply below_alloc | apply pw_below_drewN | apply below_drew1) | exact HB.out)⟩⟩
                                    · rw [if_neg c67] at H
                                      have c67b0 : decide (128 ≤ (bt x13_3 0)) = false := decide_eq_false c67
                                      clear c67
                                      have H' := Aside0.mk H
                                      clear H
                                      have p66 : 0 ≤ (0 : Int) := (by omega)
                                      have q66 : 0 < x13_3.size := (by have : (0 : Int) < (x13_3.size : Int) := of_decide_eq_true (by first | (with_reducible assumption) | assumption); omega)
                                      have hx66 : ∀ h : 0 < x13_3.size, ((x13_3[0]'h).toNat : Int) = bt x13_3 0 := bt_at x13_3 0
                                      clear p66
                                      have qi66 : (0 < (x13_3.size : Int)) = True := eq_true (of_decide_eq_true (by first | (with_reducible assumption) | assumption))
                                      replace q66 := eq_true q66
                                      go_wp2
                                      go_meet
                                      case rel => exact ⟨_, (false), (by first | rfl | (simp; done) | (simp [*]; done)), H', ⟨by have := HK1.out; have := HJ5.out; have := HK3.out; first | omega | exact Nat.le_refl _⟩, ⟨by repeat (first | (with_reducible first | exact HB.out | apply below_alloc | apply pw_below_drewN | apply below_drew1) | exact HB.out)⟩⟩
                                  · rw [if_neg c65] at H
                                    exact absurd H (by simp)
                                · rw [if_neg c64] at H
                                  have c64b0 : (t18 == 1) = false := beq_eq_false_iff_ne.mpr c64
                                  have c64b1 : (t18 != 1) = true := bne_iff_ne.mpr c64
                                  have H' := Aside0.mk H
                                  clear H
                                  go_wp2
                                  go_meet
                                  case rel => exact ⟨_, (false), (by first | rfl | (simp; done) | (simp [*]; done)), H', ⟨by have := HK1.out; have := HJ5.out; have := HK3.out; first | omega | exact Nat.le_refl _⟩, ⟨by repeat (first | (with_reducible first | exact HB.out | apply below_alloc | apply pw_below_drewN | apply below_drew1) | exact HB.out)⟩⟩
                          case rest =>
                            clear HC60
                            try clear c1
                            try clear p1
                            try clear q1
                            try clear hx1
                            try clear c2
                            try clear p2
                            try clear q2
                            try clear hx2
                            try clear c3
                            try clear c4
                            try clear c5
                            try clear c6
                            try clear p6
                            try clear q6
                            try clear hx6
                            try clear qi6
                            try clear c7
                            try clear c7b0
                            try clear p7
                            try clear q7
                            try clear hx7
                            try clear c8
                            try clear p8
                            try clear q8
                            try clear hx8
                            try clear c9
                            try clear c9b0
                            try clear p9
                            try clear q9
                            try clear hx9
                            try clear c10
                            try clear c10b0
                            try clear p10
                            try clear q10
                            try clear hx10
                            try clear c13
                            try clear c13b0
                            try clear c13b1
                            try clear c14
                            try clear c14b0
                            try clear c16
                            try clear c17
                            try clear c17b0
                            try clear c18
                            try clear c19
                            try clear c20
                            try clear c20b0
                            try clear c20b1
                            try clear c21
                            try clear c21b0
                            try clear c21b1
                            try clear c21b2
                            try clear c24
                            try clear c24b0
                            try clear c24b1
                            try clear c25
                            try clear c25b0
                            try clear c26
                            try clear c26b0
                            try clear c27
                            try clear c27b0
                            try clear c30
                            try clear c30b0
                            try clear c33
                            try clear c33b0
                            try clear c33b1
                            try clear c33b2
                            try clear c36
                            try clear c36b0
                            try clear c36b1
                            try clear c36b2
                            try clear c39
                            try clear c39b0
                            try clear c39b1
                            try clear c39b2
                            try clear c48
                            try clear c48b0
                            try clear c48b1
                            try clear c50
                            try clear c50b0
                            try clear c50b1
                            try clear c51
                            try clear c51b0
                            try clear c51b1
                            try clear c54
                            try clear c54b0
                            try clear c54b1
                            try clear c55
                            try clear c55b0
                            try clear c55b1
                            try clear c62
                            try clear c62b0
                            try clear c63
                            try clear c63b0
                            try clear c64
                            try clear c64b0
                            try clear c64b1
                            try clear p64
                            try clear c65
                            try clear c65b0
                            try clear c65b1
                            try clear p66
                            try clear q66
                            try clear hx66
                            try clear qi66
                            try clear c67
                            try clear c67b0
                            try clear hx10_0
                            try clear hx2_0
                            try clear hx6_0
                            try clear hx7_0
                            try clear hx8_0
                            try clear hx9_0
                            try clear p1
                            try clear p10
                            try clear p2
                            try clear p6
                            try clear p66
                            try clear p7
                            try clear p8
                            try clear p9
                            try clear q1
                            try clear q10
                            try clear q2
                            try clear q6
                            try clear q66
                            try clear q7
                            try clear q8
                            try clear q9
                            obtain ⟨kq, x136_59, rfl, HA, HJ59, HB⟩ := hcut
                            cases kq with
                            | zero => exact absurd HA.out (by simp [driftnetlaw04_QuoteWhole.j3])
                            | succ kj59 =>
                              have H := HA.out
                              clear HA
                              simp only [driftnetlaw04_QuoteWhole.j3] at H
                              by_cases c68 : x136_59 = true
                              · subst c68
                                have H1 : (some false) = some r := by rw [if_pos rfl] at H; exact H
                                clear H
                                have H := H1
                                clear H1
                                obtain rfl := Option.some.inj H
                                go_wp2
                                go_ret
                                exact ⟨by first | rfl | (simp [errW_none, errW_some] <;> rfl) | (simp only [← hji47, ← hji49]; first | rfl | (simp [errW_none, errW_some] <;> rfl)) | (simp [*, errW_none, errW_some] <;> rfl), by repeat (first | (with_reducible first | exact HB.out | apply below_alloc | apply pw_below_drewN | apply below_drew1) | exact HB.out)⟩
                              · replace c68 := Bool.eq_false_iff.mpr c68
                                subst c68
                                have H1 : (if t18 > 1 then ((quote_Encode.f t17).bind fun t19 => (if x11_3.size + t19.size ≤ 9223372036854775807 then (if 0 ≤ t18 then (if t18 ≤ (x13_3.size : Int) then (driftnetlaw04_QuoteWhole.l1 kj59 (a1.extract 0 ((ji49) : Int).toNat) (x11_3 ++ t19) (wrap64 (x12_3 + 1)) (x13_3.extract (t18 : Int).toNat x13_3.size)) else (none)) else (none)) else (none))) else (if 0 < (x13_3.size : Int) then (if (bt x13_3 0) < 128 then ((quote_Encode.f t17).bind fun t20 => (if x11_3.size + t20.size ≤ 9223372036854775807 then (if 0 ≤ t18 then (if t18 ≤ (x13_3.size : Int) then (driftnetlaw04_QuoteWhole.l1 kj59 (a1.extract 0 ((ji49) : Int).toNat) (x11_3 ++ t20) (wrap64 (x12_3 + 1)) (x13_3.extract (t18 : Int).toNat x13_3.size)) else (none)) else (none)) else (none))) else (if 0 ≤ 1 then (if 1 ≤ (x13_3.size : Int) then (if x11_3.size + (x13_3.extract 0 1).size ≤ 9223372036854775807 then (if 0 ≤ t18 then (if t18 ≤ (x13_3.size : Int) then (driftnetlaw04_QuoteWhole.l1 kj59 (a1.extract 0 ((ji49) : Int).toNat) (x11_3 ++ (x13_3.extract 0 1)) (wrap64 (x12_3 + 1)) (x13_3.extract (t18 : Int).toNat x13_3.size)) else (none)) else (none)) else (none)) else (none)) else (none))) else (none))) = some r := by rw [if_neg (show ¬ (false = true) by decide)] at H; exact H
                                clear H
                                have H := H1
                                clear H1
                                by_cases c69 : t18 > 1
                                · rw [if_pos c69] at H
                                  have c69b0 : decide (1 < t18) = true := decide_eq_true c69
                                  clear c69
                                  replace H := Option.bind_eq_some_iff.mp H
                                  obtain ⟨t19, A700, H⟩ := H
                                  replace H : (if x11_3.size + t19.size ≤ 9223372036854775807 then (if 0 ≤ t18 then (if t18 ≤ (x13_3.size : Int) then (driftnetlaw04_QuoteWhole.l1 kj59 (a1.extract 0 ((ji49) : Int).toNat) (x11_3 ++ t19) (wrap64 (x12_3 + 1)) (x13_3.extract (t18 : Int).toNat x13_3.size)) else (none)) else (none)) else (none)) = some r := H
                                  have A70 := Aside0.mk A700
                                  clear A700
                                  by_cases c71 : x11_3.size + t19.size ≤ 9223372036854775807
                                  · rw [if_pos c71] at H
                                    have c71b0 := eq_true c71
                                    have c71b1 : decide (x11_3.size + t19.size ≤ 9223372036854775807) = true := decide_eq_true c71
                                    try have c71b2 : (9223372036854775807 < x11_3.size + t19.size) = False := eq_false (Nat.not_lt.2 c71)
                                    by_cases c72 : 0 ≤ t18
                                    · rw [if_pos c72] at H
                                      have c72b0 := eq_true c72
                                      have c72b1 : decide (0 ≤ t18) = true := decide_eq_true c72
                                      clear c72
                                      by_cases c73 : t18 ≤ (x13_3.size : Int)
                                      · rw [if_pos c73] at H
                                        have c73b0 := eq_true c73
                                        have c73b1 : decide (t18 ≤ (x13_3.size : Int)) = true := decide_eq_true c73
                                        clear c73
                                        have H' := Aside0.mk H
                                        clear H
                                        go_wp2_with (first | ((with_reducible refine gate_callee (f := 16) rfl ?_); refine goesL_ (some 146) rfl rfl Tryd.func16 (by kernel_rfl) rfl #[.int .i32 t17] rfl (by (try simp only [List.map_toArray, List.map_cons, List.map_nil]); first | done | rfl | (simp only [List.length_drop, List.length_take]; rfl)) ?_; (with_reducible refine (quote_Encode.calls t17 t19 _ A70.out).mono ?_); rintro e w74 ⟨rfl, hb⟩; refine ⟨_, rfl, ?_⟩; have n0_ := Aside0.mk (below_step (by repeat (first | (with_reducible first | exact HB.out | apply below_alloc | apply pw_below_drewN | apply below_drew1) | exact HB.out)) hb); clear HB; have HB := n0_; clear n0_; (try clear hb); (try clear hb2); (try clear hk); (try clear hi)))
                                        go_roundg kj59
                                        case measure => have := HK1.out; have := HJ5.out; have := HK3.out; have := HJ59.out; omega
                                        case rel => exact ⟨(x11_3 ++ t19), (wrap64 (x12_3 + 1)), (x13_3.extract (t18 : Int).toNat x13_3.size), (by first | rfl | (simp; done) | (simp [*]; done)), (by first | rfl | (simp; done) | (simp [*]; done)), (by first | rfl | (simp; done) | (simp [*]; done)), H', ⟨by have := HK1.out; have := HJ5.out; have := HK3.out; have := HJ59.out; omega⟩, ⟨by repeat (first | (with_reducible first | exact HB.out | apply below_alloc | apply pw_below_drewN | apply below_drew1) | exact HB.out)⟩⟩
                                      · rw [if_neg c73] at H
                                        exact absurd H (by simp)
                                    · rw [if_neg c72] at H
                                      exact absurd H (by simp)
                                  · rw [if_neg c71] at H
                                    exact absurd H (by simp)
                                · rw [if_neg c69] at H
                                  have c69b0 : decide (1 < t18) = false := decide_eq_false c69
                                  clear c69
                                  by_cases c75 : 0 < (x13_3.size : Int)
                                  · rw [if_pos c75] at H
                                    have c75b0 : decide (0 < (x13_3.size : Int)) = true := decide_eq_true c75
                                    have c75b1 : decide (0 < x13_3.size) = true := decide_eq_true (by omega)
                                    clear c75
                                    by_cases c77 : (bt x13_3 0) < 128
                                    · rw [if_pos c77] at H
                                      have c77b0 : decide ((bt x13_3 0) < 128) = true := decide_eq_true c77
                                      clear c77
                                      replace H := Option.bind_eq_some_iff.mp H
                                      obtain ⟨t20, A780, H⟩ := H
                                      replace H : (if x11_3.size + t20.size ≤ 9223372036854775807 then (if 0 ≤ t18 then (if t18 ≤ (x13_3.size : Int) then (driftnetlaw04_QuoteWhole.l1 kj59 (a1.extract 0 ((ji49) : Int).toNat) (x11_3 ++ t20) (wrap64 (x12_3 + 1)) (x13_3.extract (t18 : Int).toNat x13_3.size)) else (none)) else (none)) else (none)) = some r := H
                                      have A78 := Aside0.mk A780
                                      clear A780
                                      by_cases c79 : x11_3.size + t20.size ≤ 9223372036854775807
                                      · rw [if_pos c79] at H
                                        have c79b0 := eq_true c79
                                        have c79b1 : decide (x11_3.size + t20.size ≤ 9223372036854775807) = true := decide_eq_true c79
                                        try have c79b2 : (9223372036854775807 < x11_3.size + t20.size) = False := eq_false (Nat.not_lt.2 c79)
                                        by_cases c80 : 0 ≤ t18
                                        · rw [if_pos c80] at H
                                          have c80b0 := eq_true c80
                                          have c80b1 : decide (0 ≤ t18) = true := decide_eq_true c80
                                          clear c80
                                          by_cases c81 : t18 ≤ (x13_3.size : Int)
                                          · rw [if_pos c81] at H
                                            have c81b0 := eq_true c81
                                            have c81b1 : decide (t18 ≤ (x13_3.size : Int)) = true := decide_eq_true c81
                                            clear c81
                                            have H' := Aside0.mk H
                                            clear H
                                            have p76 : 0 ≤ (0 : Int) := (by omega)
                                            have q76 : 0 < x13_3.size := (by have : (0 : Int) < (x13_3.size : Int) := of_decide_eq_true (by first | (with_reducible assumption) | assumption); omega)
                                            have hx76 : ∀ h : 0 < x13_3.size, ((x13_3[0]'h).toNat : Int) = bt x13_3 0 := bt_at x13_3 0
                                            clear p76
                                            have qi76 : (0 < (x13_3.size : Int)) = True := eq_true (of_decide_eq_true (by first | (with_reducible assumption) | assumption))
                                            replace q76 := eq_true q76
                                            go_wp2_with (first | ((with_reducible refine gate_callee (f := 16) rfl ?_); refine goesL_ (some 146) rfl rfl Tryd.func16 (by kernel_rfl) rfl #[.int .i32 t17] rfl (by (try simp only [List.map_toArray, List.map_cons, List.map_nil]); first | done | rfl | (simp only [List.length_drop, List.length_take]; rfl)) ?_; (with_reducible refine (quote_Encode.calls t17 t20 _ A78.out).mono ?_); rintro e w82 ⟨rfl, hb⟩; refine ⟨_, rfl, ?_⟩; have n0_ := Aside0.mk (below_step (by repeat (first | (with_reducible first | exact HB.out | apply below_alloc | apply pw_below_drewN | apply below_drew1) | exact HB.out)) hb); clear HB; have HB := n0_; clear n0_; (try clear hb); (try clear hb2); (try clear hk); (try clear hi)))
                                            go_roundg kj59
                                            case measure => have := HK1.out; have := HJ5.out; have := HK3.out; have := HJ59.out; omega
                                            case rel => exact ⟨(x11_3 ++ t20), (wrap64 (x12_3 + 1)), (x13_3.extract (t18 : Int).toNat x13_3.size), (by first | rfl | (simp; done) | (simp [*]; done)), (by first | rfl | (simp; done) | (simp [*]; done)), (by first | rfl | (simp; done) | (simp [*]; done)), H', ⟨by have := HK1.out; have := HJ5.out; have := HK3.out; have := HJ59.out; omega⟩, ⟨by repeat (first | (with_reducible first | exact HB.out | apply below_alloc | apply pw_below_drewN | apply below_drew1) | exact HB.out)⟩⟩
                                          · rw [if_neg c81] at H
                                            exact absurd H (by simp)
                                        · rw [if_neg c80] at H
                                          exact absurd H (by simp)
                                      · rw [if_neg c79] at H
                                        exact absurd H (by simp)
                                    · rw [if_neg c77] at H
                                      have c77b0 : decide ((bt x13_3 0) < 128) = false := decide_eq_false c77
                                      clear c77
                                      by_cases c83 : 0 ≤ 1
                                      · rw [if_pos c83] at H
                                        have c83b0 := eq_true c83
                                        have c83b1 : decide (0 ≤ 1) = true := decide_eq_true c83
                                        clear c83
                                        by_cases c84 : 1 ≤ (x13_3.size : Int)
                                        · rw [if_pos c84] at H
                                          have c84b0 := eq_true c84
                                          have c84b1 : decide (1 ≤ (x13_3.size : Int)) = true := decide_eq_true c84
                                          clear c84
                                          by_cases c85 : x11_3.size + (x13_3.extract 0 1).size ≤ 9223372036854775807
                                          · rw [if_pos c85] at H
                                            have c85b0 := eq_true c85
                                            have c85b1 : decide (x11_3.size + (x13_3.extract 0 1).size ≤ 9223372036854775807) = true := decide_eq_true c85
                                            try have c85b2 : (9223372036854775807 < x11_3.size + (x13_3.extract 0 1).size) = False := eq_false (Nat.not_lt.2 c85)
                                            by_cases c86 : 0 ≤ t18
                                            · rw [if_pos c86] at H
                                              have c86b0 := eq_true c86
                                              have c86b1 : decide (0 ≤ t18) = true := decide_eq_true c86
                                              clear c86
                                              by_cases c87 : t18 ≤ (x13_3.size : Int)
                                              · rw [if_pos c87] at H
                                                have c87b0 := eq_true c87
                                                have c87b1 : decide (t18 ≤ (x13_3.size : Int)) = true := decide_eq_true c87
                                                clear c87
                                                have H' := Aside0.mk H
                                                clear H
                                                have p76 : 0 ≤ (0 : Int) := (by omega)
                                                have q76 : 0 < x13_3.size := (by have : (0 : Int) < (x13_3.size : Int) := of_decide_eq_true (by first | (with_reducible assumption) | assumption); omega)
                                                have hx76 : ∀ h : 0 < x13_3.size, ((x13_3[0]'h).toNat : Int) = bt x13_3 0 := bt_at x13_3 0
                                                clear p76
                                                have qi76 : (0 < (x13_3.size : Int)) = True := eq_true (of_decide_eq_true (by first | (with_reducible assumption) | assumption))
                                                replace q76 := eq_true q76
                                                go_wp2
                                                go_roundg kj59
                                                case measure => have := HK1.out; have := HJ5.out; have := HK3.out; have := HJ59.out; omega
                                                case rel => exact ⟨(x11_3 ++ (x13_3.extract 0 1)), (wrap64 (x12_3 + 1)), (x13_3.extract (t18 : Int).toNat x13_3.size), (by first | rfl | (simp; done) | (simp [*]; done)), (by first | rfl | (simp; done) | (simp [*]; done)), (by first | rfl | (simp; done) | (simp [*]; done)), H', ⟨by have := HK1.out; have := HJ5.out; have := HK3.out; have := HJ59.out; omega⟩, ⟨by repeat (first | (with_reducible first | exact HB.out | apply below_alloc | apply pw_below_drewN | apply below_drew1) | exact HB.out)⟩⟩
                                              · rw [if_neg c87] at H
                                                exact absurd H (by simp)
                                            · rw [if_neg c86] at H
                                              exact absurd H (by simp)
                                          · rw [if_neg c85] at H
                                            exact absurd H (by simp)
                                        · rw [if_neg c84] at H
                                          exact absurd H (by simp)
                                      · rw [if_neg c83] at H
                                        exact absurd H (by simp)
                                  · rw [if_neg c75] at H
                                    exact absurd H (by simp)
                  · rw [if_neg c51] at H
                    exact absurd H (by simp)
                · rw [if_neg c50] at H
                  exact absurd H (by simp)
              · rw [if_neg c48] at H
                have c48b0 : ((t11.length : Int) == (ji47)) = false := beq_eq_false_iff_ne.mpr c48
                have c48b1 : ((t11.length : Int) != (ji47)) = true := bne_iff_ne.mpr c48
                obtain rfl := Option.some.inj H
                go_wp2_with (first | ((with_reducible refine gate_callee (f := 19) rfl ?_); refine goesL_ (some 94) rfl rfl Tryd.func19 (by kernel_rfl) rfl #[.string x5_1] rfl (by (try simp only [List.map_toArray, List.map_cons, List.map_nil]); first | done | rfl | (simp only [List.length_drop, List.length_take]; rfl)) ?_; (with_reducible refine (quote_Runes.calls x5_1 t11 _ ?side1 A46.out).mono ?_); (case side1 => exact G.at hG.out (by repeat (first | (with_reducible first | exact HB.out | apply below_alloc | apply pw_below_drewN | apply below_drew1) | exact HB.out))); rintro e w88 ⟨v12, rfl, ho0, hb⟩; refine ⟨_, rfl, ?_⟩; have n0_ := Aside0.mk (Kd.R_lower ho0 (below_size (by repeat (first | (with_reducible first | exact HB.out | apply below_alloc | apply pw_below_drewN | apply below_drew1) | exact HB.out)))); have n1_ := Aside0.mk (below_step (by repeat (first | (with_reducible first | exact HB.out | apply below_alloc | apply pw_below_drewN | apply below_drew1) | exact HB.out)) hb); clear HB; have HO13 := n0_; have HB := n1_; clear n0_ n1_; (try clear hb); (try clear hb2); (try clear hk); (try clear hi); (try clear ho0); obtain ⟨Ao89, co89, eo89⟩ := Kd.R_slice HO13.out; subst eo89))
                go_ret
                exact ⟨by first | rfl | (simp [errW_none, errW_some] <;> rfl) | (simp only [← hji47]; first | rfl | (simp [errW_none, errW_some] <;> rfl)) | (simp [*, errW_none, errW_some] <;> rfl), by repeat (first | (with_reducible first | exact HB.out | apply below_alloc | apply pw_below_drewN | apply below_drew1) | exact HB.out)⟩
  · replace c4 := Bool.eq_false_iff.mpr c4
    subst c4
    have H1 : (some false) = some r := by rw [if_neg (show ¬ (false = true) by decide)] at H; exact H
    clear H
    have H := H1
    clear H1
    obtain rfl := Option.some.inj H
    go_enter Tryd.func6, Tryd.ntmps6
    go_wp2_with (first | ((with_reducible refine gate_callee (f := 13) rfl ?_); refine goesL_ (some 16) rfl rfl Tryd.func13 (by kernel_rfl) rfl #[] rfl (by (try simp only [List.map_toArray, List.map_cons, List.map_nil]); first | done | rfl | (simp only [List.length_drop, List.length_take]; rfl)) ?_; (with_reducible refine (driftnetlaw04_works.calls  false _ ?side1 A3.out).mono ?_); (case side1 => exact G.at hG.out (by repeat (first | (with_reducible first | exact HB.out | apply below_alloc | apply pw_below_drewN | apply below_drew1) | exact HB.out))); rintro e w90 ⟨rfl, hb⟩; refine ⟨_, rfl, ?_⟩; have n0_ := Aside0.mk (below_step (by repeat (first | (with_reducible first | exact HB.out | apply below_alloc | apply pw_below_drewN | apply below_drew1) | exact HB.out)) hb); clear HB; have HB := n0_; clear n0_; (try clear hb); (try clear hb2); (try clear hk); (try clear hi)))
    go_ret
    exact ⟨by first | rfl | (simp [errW_none, errW_some] <;> rfl) | (simp [*, errW_none, errW_some] <;> rfl), by repeat (first | (with_reducible first | exact HB.out | apply below_alloc | apply pw_below_drewN | apply below_drew1) | exact HB.out)⟩

/-- THE ONE PURE STATEMENT of driftnetlaw04_QuoteWhole: yours. -/
def driftnetlaw04_QuoteWhole.Pure : Prop := ∀ (l0 : List Int) (a1 : ByteArray), l0.length ≤ maxLen → l0.length * 4 ≤ 140737488351232 → (∀ x ∈ l0, (Lit.int .i32 x).wf = true) → a1.size ≤ 140737488351232 → ∃ k, driftnetlaw04_QuoteWhole.f k l0 a1 = some true
theorem driftnetlaw04_QuoteWhole.walk (P : driftnetlaw04_QuoteWhole.Pure) (a0 : Option Addr) (len0 cap0 : Nat) (z0 : List Int) (a1 : ByteArray) (w : World) (hG : Aside0 (G w)) (w0 : (a0 = none ∧ len0 = 0 ∧ cap0 = 0 ∧ z0 = []) ∨ ∃ x, a0 = some x ∧ len0 ≤ cap0 ∧ cap0 ≤ maxLen ∧ z0.length = cap0 ∧ (∀ i, i < z0.length → w.cell? (x.add i) = some (.int .i32 (z0.getD i 0))) ∧ ∀ n ∈ z0, (Lit.int .i32 n).wf = true) (y0 : len0 * 4 ≤ 140737488351232) (w1 : a1.size ≤ 140737488351232) :
    Calls Tryd.prog 6 #[.slice a0 len0 cap0, .string a1] w fun e w' => e = .returned (.bool true) ∧ Below w.heap.size w w' := by
  obtain ⟨l0, rfl, hr0, hm0, hw0, hc0⟩ := ReadsInt.ofRowC w0
  obtain ⟨k, h⟩ := P l0 a1 hm0 y0 hw0 w1
  refine (driftnetlaw04_QuoteWhole.calls k _ _ l0 a1 true w (Kd.C_of_reads (d := (0 : Int)) (h1 := fun _ => rfl) hr0) hc0 hG h).mono ?_
  rintro e w' ⟨rfl, hd⟩
  exact ⟨rfl, hd⟩

end Go.Proofs.YtcpknkdnboiecaaDoor.P

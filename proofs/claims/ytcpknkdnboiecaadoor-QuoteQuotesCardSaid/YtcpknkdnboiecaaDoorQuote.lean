/- quote.Quote: a text in quotes. Its premise: what the laid variables hold. -/
import Derived.Test.YtcpknkdnboiecaaDoorRunes
import Derived.Test.YtcpknkdnboiecaaDoorBuilder
import Derived.Stop.RegionWithIn
import Derived.Test.YtcpknkdnboiecaaDoorRoundTake
set_option linter.unusedVariables false
namespace Go.Proofs.YtcpknkdnboiecaaDoor
open Go Go.RowKit Go.Shelf Go.Proofs.YtcpknkdnboiecaaDoorW.PrintWords Go.Proofs.YtcpknkdnboiecaaDoor.P
attribute [local go_sem] Oper.semAt_some

def hexByte (k : Nat) : UInt8 := if k < 10 then (48 + k).toUInt8 else (87 + k).toUInt8

/-- What stands in quotes for a rune. -/
def quotePiece (x : Int × ByteArray) : List UInt8 :=
  if x.1 = 34 then 92 :: x.2.data.toList
  else if x.1 = 92 then 92 :: x.2.data.toList
  else if x.1 = 10 then [92, 110]
  else if x.1 = 13 then [92, 114]
  else if x.1 = 9 then [92, 116]
  else if x.1 < 32 ∨ x.1 = 127 ∨ (x.1 = 65533 ∧ x.2.size = 1) then [92, 120, hexByte ((x.2.get! 0).toNat / 16), hexByte ((x.2.get! 0).toNat % 16)]
  else x.2.data.toList

def quoteBytes (s : ByteArray) : List UInt8 := 34 :: (piecesOf s).flatMap quotePiece ++ [34]

theorem quotePiece_length (x : Int × ByteArray) (h : PieceOk x) : (quotePiece x).length ≤ 5 := by
  obtain ⟨_, h4, _, _⟩ := h
  have e : x.2.data.toList.length = x.2.size := by rw [Array.length_toList]; rfl
  unfold quotePiece
  repeat' split
  all_goals (first | (simp only [List.length_cons, List.length_nil]; omega) | omega)

theorem flatMap_length (l : List (Int × ByteArray)) (h : ∀ x ∈ l, PieceOk x) : (l.flatMap quotePiece).length ≤ 5 * l.length := by
  induction l with
  | nil => simp
  | cons x l ih =>
    have h1 := quotePiece_length x (h x (by simp))
    have h2 := ih (fun y hy => h y (by simp [hy]))
    simp only [List.flatMap_cons, List.length_append, List.length_cons]
    omega

def hexDigits : ByteArray := { data := #[48, 49, 50, 51, 52, 53, 54, 55, 56, 57, 97, 98, 99, 100, 101, 102] }
theorem hex_get (k : Nat) (hk : k < 16) (h : (k : Int).toNat < hexDigits.size) : hexDigits[(k : Int).toNat]'h = hexByte k := by
  obtain rfl | rfl | rfl | rfl | rfl | rfl | rfl | rfl | rfl | rfl | rfl | rfl | rfl | rfl | rfl | rfl : k = 0 ∨ k = 1 ∨ k = 2 ∨ k = 3 ∨ k = 4 ∨ k = 5 ∨ k = 6 ∨ k = 7 ∨ k = 8 ∨ k = 9 ∨ k = 10 ∨ k = 11 ∨ k = 12 ∨ k = 13 ∨ k = 14 ∨ k = 15 := by omega
  all_goals rfl
theorem hex_encode (k : Nat) (hk : k < 16) : Utf8.encode ((hexByte k).toNat : Int) = { data := #[hexByte k] } := by
  obtain rfl | rfl | rfl | rfl | rfl | rfl | rfl | rfl | rfl | rfl | rfl | rfl | rfl | rfl | rfl | rfl : k = 0 ∨ k = 1 ∨ k = 2 ∨ k = 3 ∨ k = 4 ∨ k = 5 ∨ k = 6 ∨ k = 7 ∨ k = 8 ∨ k = 9 ∨ k = 10 ∨ k = 11 ∨ k = 12 ∨ k = 13 ∨ k = 14 ∨ k = 15 := by omega
  all_goals kernel_rfl
theorem hex_ok (k : Nat) (hk : k < 16) (P : Program) (w : World) (r : Sem Value) : ((if h : (k : Int) < 16 then Result.ok (Value.int .u8 ((hexDigits[(k : Int).toNat]'(by have : hexDigits.size = 16 := rfl; omega)).toNat : Int)) w else Sem.run P r w).andThen fun a w' => Result.ok (Next.value a) w') = Result.ok (Next.value (.int .u8 ((hexByte k).toNat : Int))) w := by
  rw [dif_pos (by omega), hex_get k hk]
  rfl

section
variable {x : Int × ByteArray}
theorem qp34 (h : (x.1 == 34) = true) : ({ data := #[92] } ++ x.2 : ByteArray).data.toList = quotePiece x := by
  have h := beq_iff_eq.1 h
  unfold quotePiece
  rw [if_pos h]; simp
theorem qp92 (h : (x.1 == 34) = false) (h2 : (x.1 == 92) = true) : ({ data := #[92] } ++ x.2 : ByteArray).data.toList = quotePiece x := by
  have h := beq_eq_false_iff_ne.1 h
  have h2 := beq_iff_eq.1 h2
  unfold quotePiece
  rw [if_neg h, if_pos h2]; simp
theorem qp10 (h : (x.1 == 10) = true) : ({ data := #[92, 110] } : ByteArray).data.toList = quotePiece x := by
  have h := beq_iff_eq.1 h
  unfold quotePiece
  rw [if_neg (by omega), if_neg (by omega), if_pos h]
theorem qp13 (h : (x.1 == 13) = true) : ({ data := #[92, 114] } : ByteArray).data.toList = quotePiece x := by
  have h := beq_iff_eq.1 h
  unfold quotePiece
  rw [if_neg (by omega), if_neg (by omega), if_neg (by omega), if_pos h]
theorem qp9 (h : (x.1 == 9) = true) : ({ data := #[92, 116] } : ByteArray).data.toList = quotePiece x := by
  have h := beq_iff_eq.1 h
  unfold quotePiece
  rw [if_neg (by omega), if_neg (by omega), if_neg (by omega), if_neg (by omega), if_pos h]
theorem qp_none (a : (x.1 == 34) = false) (b : (x.1 == 92) = false) (c : (x.1 == 10) = false) (d : (x.1 == 13) = false) (e : (x.1 == 9) = false) :
    quotePiece x = if x.1 < 32 ∨ x.1 = 127 ∨ (x.1 = 65533 ∧ x.2.size = 1) then [92, 120, hexByte ((x.2.get! 0).toNat / 16), hexByte ((x.2.get! 0).toNat % 16)] else x.2.data.toList := by
  have a := beq_eq_false_iff_ne.1 a
  have b := beq_eq_false_iff_ne.1 b
  have c := beq_eq_false_iff_ne.1 c
  have d := beq_eq_false_iff_ne.1 d
  have e := beq_eq_false_iff_ne.1 e
  unfold quotePiece
  rw [if_neg a, if_neg b, if_neg c, if_neg d, if_neg e]
theorem qp_self1 (a : (x.1 == 34) = false) (b : (x.1 == 92) = false) (c : (x.1 == 10) = false) (d : (x.1 == 13) = false) (e : (x.1 == 9) = false)
    (f : 32 ≤ x.1) (g : (x.1 == 127) = false) (h : ((x.2.size : Int) == 1) = false) : x.2.data.toList = quotePiece x := by
  have g := beq_eq_false_iff_ne.1 g
  have h := beq_eq_false_iff_ne.1 h
  rw [qp_none a b c d e, if_neg (by omega)]
theorem qp_self2 (a : (x.1 == 34) = false) (b : (x.1 == 92) = false) (c : (x.1 == 10) = false) (d : (x.1 == 13) = false) (e : (x.1 == 9) = false)
    (f : 32 ≤ x.1) (g : (x.1 == 127) = false) (h : ¬ x.1 = 65533) : x.2.data.toList = quotePiece x := by
  have g := beq_eq_false_iff_ne.1 g
  rw [qp_none a b c d e, if_neg (by omega)]
theorem qp_hex {k1 k2 cc : Nat} (hx : 0 < x.2.size) (hcc : (x.2[0]'hx).toNat = cc) (h1 : k1 = cc / 16) (h2 : k2 = cc % 16) (a : (x.1 == 34) = false) (b : (x.1 == 92) = false) (c : (x.1 == 10) = false) (d : (x.1 == 13) = false) (e : (x.1 == 9) = false)
    (f : x.1 < 32 ∨ x.1 = 127 ∨ (x.1 = 65533 ∧ x.2.size = 1)) : [92, 120, hexByte k1, hexByte k2] = quotePiece x := by
  have h0 : x.2.get! 0 = x.2[0]'hx := by
    show x.2.data[0]! = _
    exact getElem!_pos x.2.data 0 hx
  rw [qp_none a b c d e, if_pos f, h0, hcc, h1, h2]
end

/-- What the body keeps. -/
def QuoteI (w : World) (b Bs : Nat) (pre : List (Int × ByteArray)) (W : World) : Prop :=
  Bld w.heap.size b (34 :: pre.flatMap quotePiece) W ∧ (∃ sv : ByteArray, Boxed W Bs 9 (.string sv)) ∧ Below w.heap.size w W

theorem QuoteI.own {w : World} {b Bs B : Nat} (hB : w.heap.size ≤ B) : OwnFrom B (QuoteI w b Bs) := by
  rintro s W W' row ⟨hv, ⟨sv, hs⟩, hb⟩ hg hrow
  refine ⟨bldF_grown hv hg (fun r e => (hrow r e).2), ⟨sv, hs.kept hg fun e' => ?_⟩, hb.grown hg hb.size (fun k e' => Nat.le_trans hB (hrow k e').1)⟩
  obtain ⟨_, o, ho, hc⟩ := hrow Bs e'.symm
  rw [show W.heap[Bs]? = _ from hs] at ho; cases ho; cases hc

theorem QuoteI.step {w : World} {b Bs : Nat} (hle : w.heap.size ≤ Bs) : ∀ s X Y, QuoteI w b Bs s X → EachSt Bs X Y → QuoteI w b Bs s Y := by
  rintro s X Y ⟨hv, ⟨sv, hs⟩, hb⟩ (h | ⟨u, rfl⟩)
  · exact ⟨bldF_below hv h, ⟨sv, Boxed.below hs h⟩, hb.trans (h.mono hb.size)⟩
  · exact ⟨bldF_box hv hs (by decide) (by decide) _, ⟨u, hs.set _⟩, hb.setCell (p := ⟨Bs, 0, none⟩) hle _⟩

theorem quote_round {w W w3 : World} {b Bs B : Nat} {pre : List (Int × ByteArray)} {x : Int × ByteArray} {sv : ByteArray} {L : List UInt8} {Ix : Code → List (Int × ByteArray) → World → Prop} {a : Act}
    (h3 : Bld w.heap.size b (34 :: pre.flatMap quotePiece ++ L) w3) (hb3 : Below w.heap.size W w3) (hk3 : Lib.OthersKept 5 (some b) W w3) (hsv : Boxed W Bs 9 (.string sv)) (hB : Below w.heap.size w W)
    (hne : Bs ≠ b) (hbB : b < B) (e : L = quotePiece x) : ownPostG B (EachKp w.heap.size Bs) (QuoteI w b Bs) Ix (pre ++ [x]) W .normal a w3 := by
  have hs3 : Boxed w3 Bs 9 (.string sv) := Boxed.others hsv hk3 hne (by decide)
  refine ⟨⟨hb3.size, fun k o hk ho hc => hk3 k o ho (fun e' => by have := Option.some.inj e'; omega) (fun c fz e' => by rw [e'] at hc; cases hc)⟩, ⟨hb3, fun u hu => ?_⟩, ?_, ⟨sv, hs3⟩, hB.trans hb3⟩
  · rw [hsv.cell] at hu
    cases hu
    exact ⟨hs3.cell, fun _ => hs3.frozen⟩
  · rw [e] at h3
    simpa using h3

set_option maxRecDepth 100000 in
set_option maxHeartbeats 4000000 in
theorem quote_calls (s : ByteArray) (hs : s.size ≤ 17592186044416) (w : World) (hG : Aside0 (G w)) : Calls Tryd.prog 11 #[.string s] w fun e w' =>
    e = .returned (.string ⟨(quoteBytes s).toArray⟩) ∧ Below w.heap.size w w' := by
  refine (callsIn_wide (n := 5)).1 ?_
  refine callsIn_of_wp_marks Tryd.func11 rfl trivial ?_ rfl
  simp only [Tryd.ntmps11, List.size_toArray, List.length_cons, List.length_nil, Nat.reduceAdd, Nat.reduceSub, Array.replicate_succ, Array.replicate_zero, List.push_toArray, List.append_toArray, List.nil_append, List.cons_append]
  have hnew := bld_new w
  gi_wp2_with (refine ⟨trivial, ?_⟩; gi_at_call 23; refine (callsIn_wide.2 (bld_WriteByte w.heap.size w.heap.size [] 34 _ hnew (by simp) (by simp))).mono ?_; rintro e w1 ⟨rfl, h1, hb1, hk1⟩)
  have hb0 : Below w.heap.size w w1 := ((Below.refl _ w).alloc (Nat.le_refl _) _).trans hb1
  have hsz1 : w.heap.size + 1 ≤ w1.heap.size := by have := hb1.size; simp at this; exact this
  clear hb1 hk1 hnew
  gi_wp2_with (refine ⟨trivial, ?_⟩; gi_at_call 26; refine (callsIn_wide.2 (each_calls s _)).mono ?_; rintro e w2 ⟨rfl, rfl⟩)
  have hsz : (w1.alloc (.cells #[.string s] 9)).heap.size = w1.heap.size + 1 := by simp
  have hb2 : Below w.heap.size w (w1.alloc (.cells #[.string s] 9)) := hb0.alloc hb0.size _
  have bx1 : Boxed (w1.alloc (.cells #[.string s] 9)) w1.heap.size 9 (.string s) := Boxed.new w1 _ _
  have hbl : Bld w.heap.size w.heap.size [34] (w1.alloc (.cells #[.string s] 9)) := Lib.IsBuilderF.alloc h1 _
  refine wpIn_rangeSteps rfl (by omega) (gf := 39) (lb := #[.pointer (some ⟨w1.heap.size, 0, none⟩)]) rfl trivial (enters_of Tryd.func39 (by kernel_rfl) rfl)
    (each1_steps (5 - 1) (by omega) s (by omega) w1.heap.size w _ hG hb2 (by omega) bx1.cell bx1.frozen)
    (fun h k => h.trans' k) (fun W l o o' hl ho hc _ => EachKp.putObj' (Nat.le_refl _) W l o o' (by rw [hsz] at hl; omega) ho hc)
    (EachSt.keeps (by rw [hsz]; omega)) (Below.refl _ _) (fun _ => rfl)
    (QuoteI w w.heap.size w1.heap.size) (fun _ _ _ => False)
    (QuoteI.own (by rw [hsz]; omega)) (fun _ _ _ _ _ h => h.elim)
    (QuoteI.step (by omega)) (fun _ _ _ _ h => h.elim)
    ⟨hbl, ⟨s, bx1⟩, hb2⟩
    (fun x => { tmps := (#[.string s, undef, .string { data := #[] }, .pointer (some ⟨w.heap.size, 0, none⟩), .int .i32 x.1, .string x.2, undef, .nilIface, .string s, .func (.func 39) #[] #[.pointer (some ⟨w1.heap.size, 0, none⟩)], .int .i32 x.1, .string x.2] ++ Array.replicate 50 undef : Array Value), defers := [] }) ?assign ?body ?done ?stop
  case assign =>
    intro l x W K hK
    simp only [Array.replicate_succ, Array.replicate_zero, List.push_toArray, List.append_toArray, List.nil_append, List.cons_append] at hK
    gi_wp2
    exact hK
  case body =>
    rintro l pre x W ⟨hv, ⟨sv, hsv⟩, hB⟩ hal
    simp only [Array.replicate_succ, Array.replicate_zero, List.push_toArray, List.append_toArray, List.nil_append, List.cons_append]
    obtain ⟨hx1, hx2, hx3, hx4⟩ : PieceOk x := piecesOf_ok s x (hal.subset (by simp))
    have hlen : (34 :: pre.flatMap quotePiece).length ≤ 87960930222081 := by
      have h1 := hal.length_le
      have h2 := piecesOf_length s
      have h3 := flatMap_length pre (fun y hy => piecesOf_ok s y (hal.subset (by simp [hy])))
      simp at h1
      rw [List.length_cons]
      omega
    have HWS : Aside0 (∀ S : ByteArray, S.size ≤ 5 → Calls Tryd.prog 22 #[.pointer (some ⟨w.heap.size, 0, none⟩), .string S] W fun e w' => e = .returned (.tuple #[.int .i64 S.size, .nilIface]) ∧ Bld w.heap.size w.heap.size (34 :: pre.flatMap quotePiece ++ S.data.toList) w' ∧ Below w.heap.size W w' ∧ Lib.OthersKept 5 (some w.heap.size) W w') :=
      ⟨fun S hS => bld_WriteString w.heap.size w.heap.size (34 :: pre.flatMap quotePiece) S W hv (by omega) hB.size⟩
    have HWD : Aside0 (∀ k1 k2 : Nat, Calls Tryd.prog 22 #[.pointer (some ⟨w.heap.size, 0, none⟩), .string { data := #[92, 120, hexByte k1, hexByte k2] }] W.drew fun e w' => e = .returned (.tuple #[.int .i64 (({ data := #[92, 120, hexByte k1, hexByte k2] } : ByteArray).size), .nilIface]) ∧ Bld w.heap.size w.heap.size (34 :: pre.flatMap quotePiece ++ [92, 120, hexByte k1, hexByte k2]) w' ∧ Below w.heap.size W w' ∧ Lib.OthersKept 5 (some w.heap.size) W w') :=
      ⟨fun k1 k2 => (bld_WriteString w.heap.size w.heap.size (34 :: pre.flatMap quotePiece) { data := #[92, 120, hexByte k1, hexByte k2] } W.drew hv (by show _ + 4 ≤ _; omega) hB.size).mono (fun e w' h => ⟨h.1, h.2.1, ⟨h.2.2.1.os, h.2.2.1.tape, h.2.2.1.output, h.2.2.1.size, h.2.2.1.block⟩, h.2.2.2⟩)⟩
    gi_wp2_with fail
    rotate_left 5
    · generalize hcc : x.2[0].toNat = cc
      have hc256 : cc < 256 := by rw [← hcc]; exact UInt8.toNat_lt _
      have HCC := Aside0.mk hcc
      clear hcc
      obtain ⟨k1, hk1, ew1⟩ : ∃ k1 : Nat, k1 = cc / 16 ∧ IntKind.u8.wrap ((cc : Int) / 16) = (k1 : Int) := ⟨cc / 16, rfl, by rw [IntKind.wrap_u8]; omega⟩
      obtain ⟨k2, hk2, ew2⟩ : ∃ k2 : Nat, k2 = cc % 16 ∧ (cc : Int).tmod 16 = (k2 : Int) := ⟨cc % 16, rfl, by rw [Int.tmod_eq_emod_of_nonneg (by omega)]; omega⟩
      have l1 : k1 < 16 := by omega
      have l2 : k2 < 16 := by omega
      have EW1 := Aside0.mk ew1
      have EW2 := Aside0.mk ew2
      have EK1 := Aside0.mk hk1
      have EK2 := Aside0.mk hk2
      clear ew1 ew2 hk1 hk2
      refine wpIn_region_any (by kernel_rfl) ?_
      try (change wpAnyIn _ _ _ _ _ _ _ _ _ (World.drew _))
      refine take_it (i := 0) (v := ?_) (by kernel_rfl) rfl (by kernel_rfl) (by kernel_rfl) (by kernel_rfl) (fun _ _ _ h => h) ⟨Or.inl ⟨by rfl, ?hy0⟩, fun _ => rfl⟩ ?_
      case hy0 => intro w; go_simp; with_reducible rfl
      refine take_it (i := 1) (v := .int .u8 (k1 : Int)) (by kernel_rfl) rfl (by kernel_rfl) (by kernel_rfl) (by kernel_rfl) (fun _ _ _ h => h) ⟨Or.inl ⟨by rfl, ?hy1⟩, fun _ => rfl⟩ ?_
      case hy1 => intro w; go_simp; rw [EW1.out]
      refine take_it (i := 2) (v := .int .u8 ((hexByte k1).toNat : Int)) (by kernel_rfl) rfl (by kernel_rfl) (by kernel_rfl) (by kernel_rfl) (fun _ _ _ h => h) ⟨Or.inl ⟨by rfl, ?hy2⟩, fun _ => rfl⟩ ?_
      case hy2 => intro w; go_simp; exact hex_ok k1 l1 _ _ _
      refine take_it (i := 3) (v := .string { data := #[hexByte k1] }) (by kernel_rfl) rfl (by kernel_rfl) (by kernel_rfl) (by kernel_rfl) (fun _ _ _ h => h) ⟨Or.inl ⟨by rfl, ?hy3⟩, fun _ => rfl⟩ ?_
      case hy3 => intro w; go_simp; exact hex_encode k1 l1
      refine take_it (i := 4) (v := .string { data := #[92, 120, hexByte k1] }) (by kernel_rfl) rfl (by kernel_rfl) (by kernel_rfl) (by kernel_rfl) (fun _ _ _ h => h) ⟨Or.inl ⟨by rfl, ?hy4⟩, fun _ => rfl⟩ ?_
      case hy4 => intro w; go_simp; rfl
      refine take_it (i := 5) (v := ?_) (by kernel_rfl) rfl (by kernel_rfl) (by kernel_rfl) (by kernel_rfl) (fun _ _ _ h => h) ⟨Or.inl ⟨by rfl, ?hy5⟩, fun _ => rfl⟩ ?_
      case hy5 => intro w; go_simp; with_reducible rfl
      refine take_it (i := 6) (v := .int .u8 (k2 : Int)) (by kernel_rfl) rfl (by kernel_rfl) (by kernel_rfl) (by kernel_rfl) (fun _ _ _ h => h) ⟨Or.inl ⟨by rfl, ?hy6⟩, fun _ => rfl⟩ ?_
      case hy6 => intro w; go_simp; rw [EW2.out]
      refine take_it (i := 7) (v := .int .u8 ((hexByte k2).toNat : Int)) (by kernel_rfl) rfl (by kernel_rfl) (by kernel_rfl) (by kernel_rfl) (fun _ _ _ h => h) ⟨Or.inl ⟨by rfl, ?hy7⟩, fun _ => rfl⟩ ?_
      case hy7 => intro w; go_simp; exact hex_ok k2 l2 _ _ _
      refine take_it (i := 8) (v := .string { data := #[hexByte k2] }) (by kernel_rfl) rfl (by kernel_rfl) (by kernel_rfl) (by kernel_rfl) (fun _ _ _ h => h) ⟨Or.inl ⟨by rfl, ?hy8⟩, fun _ => rfl⟩ ?_
      case hy8 => intro w; go_simp; exact hex_encode k2 l2
      refine take_it (i := 9) (v := .string { data := #[92, 120, hexByte k1, hexByte k2] }) (by kernel_rfl) rfl (by kernel_rfl) (by kernel_rfl) (by kernel_rfl) (fun _ _ _ h => h) ⟨Or.inl ⟨by rfl, ?hy9⟩, fun _ => rfl⟩ ?_
      case hy9 => intro w; go_simp; rfl
      refine wpAnyIn_ready (rs := [10]) (by kernel_rfl) (by simp) ?_
      refine AllReadyIn.cons rfl (fun K hK => ?_) AllReadyIn.nil
      go_simp
      refine ⟨trivial, (CallsIn.inRound l (callsIn_wide.2 (HWD.out k1 k2))).mono ?_⟩
      rintro e w3 ⟨rfl, h3, hb3, hk3⟩
      refine hK _ _ ?_
      clear hK K
      refine wpAnyIn_done (by kernel_rfl) ?_ _
      gi_wp2
      exact quote_round h3 hb3 hk3 hsv hB (by omega) (by rw [hsz]; omega) (qp_hex hx1 HCC.out EK1.out EK2.out ‹_› ‹_› ‹_› ‹_› ‹_› (by first | exact .inl ‹_› | exact .inr (.inl (beq_iff_eq.1 ‹(x.1 == 127) = true›)) | exact .inr (.inr ⟨‹_›, by have := beq_iff_eq.1 ‹((x.2.size : Int) == 1) = true›; omega⟩)))
    · generalize hcc : x.2[0].toNat = cc
      have hc256 : cc < 256 := by rw [← hcc]; exact UInt8.toNat_lt _
      have HCC := Aside0.mk hcc
      clear hcc
      obtain ⟨k1, hk1, ew1⟩ : ∃ k1 : Nat, k1 = cc / 16 ∧ IntKind.u8.wrap ((cc : Int) / 16) = (k1 : Int) := ⟨cc / 16, rfl, by rw [IntKind.wrap_u8]; omega⟩
      obtain ⟨k2, hk2, ew2⟩ : ∃ k2 : Nat, k2 = cc % 16 ∧ (cc : Int).tmod 16 = (k2 : Int) := ⟨cc % 16, rfl, by rw [Int.tmod_eq_emod_of_nonneg (by omega)]; omega⟩
      have l1 : k1 < 16 := by omega
      have l2 : k2 < 16 := by omega
      have EW1 := Aside0.mk ew1
      have EW2 := Aside0.mk ew2
      have EK1 := Aside0.mk hk1
      have EK2 := Aside0.mk hk2
      clear ew1 ew2 hk1 hk2
      refine wpIn_region_any (by kernel_rfl) ?_
      try (change wpAnyIn _ _ _ _ _ _ _ _ _ (World.drew _))
      refine take_it (i := 0) (v := ?_) (by kernel_rfl) rfl (by kernel_rfl) (by kernel_rfl) (by kernel_rfl) (fun _ _ _ h => h) ⟨Or.inl ⟨by rfl, ?hy0⟩, fun _ => rfl⟩ ?_
      case hy0 => intro w; go_simp; with_reducible rfl
      refine take_it (i := 1) (v := .int .u8 (k1 : Int)) (by kernel_rfl) rfl (by kernel_rfl) (by kernel_rfl) (by kernel_rfl) (fun _ _ _ h => h) ⟨Or.inl ⟨by rfl, ?hy1⟩, fun _ => rfl⟩ ?_
      case hy1 => intro w; go_simp; rw [EW1.out]
      refine take_it (i := 2) (v := .int .u8 ((hexByte k1).toNat : Int)) (by kernel_rfl) rfl (by kernel_rfl) (by kernel_rfl) (by kernel_rfl) (fun _ _ _ h => h) ⟨Or.inl ⟨by rfl, ?hy2⟩, fun _ => rfl⟩ ?_
      case hy2 => intro w; go_simp; exact hex_ok k1 l1 _ _ _
      refine take_it (i := 3) (v := .string { data := #[hexByte k1] }) (by kernel_rfl) rfl (by kernel_rfl) (by kernel_rfl) (by kernel_rfl) (fun _ _ _ h => h) ⟨Or.inl ⟨by rfl, ?hy3⟩, fun _ => rfl⟩ ?_
      case hy3 => intro w; go_simp; exact hex_encode k1 l1
      refine take_it (i := 4) (v := .string { data := #[92, 120, hexByte k1] }) (by kernel_rfl) rfl (by kernel_rfl) (by kernel_rfl) (by kernel_rfl) (fun _ _ _ h => h) ⟨Or.inl ⟨by rfl, ?hy4⟩, fun _ => rfl⟩ ?_
      case hy4 => intro w; go_simp; rfl
      refine take_it (i := 5) (v := ?_) (by kernel_rfl) rfl (by kernel_rfl) (by kernel_rfl) (by kernel_rfl) (fun _ _ _ h => h) ⟨Or.inl ⟨by rfl, ?hy5⟩, fun _ => rfl⟩ ?_
      case hy5 => intro w; go_simp; with_reducible rfl
      refine take_it (i := 6) (v := .int .u8 (k2 : Int)) (by kernel_rfl) rfl (by kernel_rfl) (by kernel_rfl) (by kernel_rfl) (fun _ _ _ h => h) ⟨Or.inl ⟨by rfl, ?hy6⟩, fun _ => rfl⟩ ?_
      case hy6 => intro w; go_simp; rw [EW2.out]
      refine take_it (i := 7) (v := .int .u8 ((hexByte k2).toNat : Int)) (by kernel_rfl) rfl (by kernel_rfl) (by kernel_rfl) (by kernel_rfl) (fun _ _ _ h => h) ⟨Or.inl ⟨by rfl, ?hy7⟩, fun _ => rfl⟩ ?_
      case hy7 => intro w; go_simp; exact hex_ok k2 l2 _ _ _
      refine take_it (i := 8) (v := .string { data := #[hexByte k2] }) (by kernel_rfl) rfl (by kernel_rfl) (by kernel_rfl) (by kernel_rfl) (fun _ _ _ h => h) ⟨Or.inl ⟨by rfl, ?hy8⟩, fun _ => rfl⟩ ?_
      case hy8 => intro w; go_simp; exact hex_encode k2 l2
      refine take_it (i := 9) (v := .string { data := #[92, 120, hexByte k1, hexByte k2] }) (by kernel_rfl) rfl (by kernel_rfl) (by kernel_rfl) (by kernel_rfl) (fun _ _ _ h => h) ⟨Or.inl ⟨by rfl, ?hy9⟩, fun _ => rfl⟩ ?_
      case hy9 => intro w; go_simp; rfl
      refine wpAnyIn_ready (rs := [10]) (by kernel_rfl) (by simp) ?_
      refine AllReadyIn.cons rfl (fun K hK => ?_) AllReadyIn.nil
      go_simp
      refine ⟨trivial, (CallsIn.inRound l (callsIn_wide.2 (HWD.out k1 k2))).mono ?_⟩
      rintro e w3 ⟨rfl, h3, hb3, hk3⟩
      refine hK _ _ ?_
      clear hK K
      refine wpAnyIn_done (by kernel_rfl) ?_ _
      gi_wp2
      exact quote_round h3 hb3 hk3 hsv hB (by omega) (by rw [hsz]; omega) (qp_hex hx1 HCC.out EK1.out EK2.out ‹_› ‹_› ‹_› ‹_› ‹_› (by first | exact .inl ‹_› | exact .inr (.inl (beq_iff_eq.1 ‹(x.1 == 127) = true›)) | exact .inr (.inr ⟨‹_›, by have := beq_iff_eq.1 ‹((x.2.size : Int) == 1) = true›; omega⟩)))
    · generalize hcc : x.2[0].toNat = cc
      have hc256 : cc < 256 := by rw [← hcc]; exact UInt8.toNat_lt _
      have HCC := Aside0.mk hcc
      clear hcc
      obtain ⟨k1, hk1, ew1⟩ : ∃ k1 : Nat, k1 = cc / 16 ∧ IntKind.u8.wrap ((cc : Int) / 16) = (k1 : Int) := ⟨cc / 16, rfl, by rw [IntKind.wrap_u8]; omega⟩
      obtain ⟨k2, hk2, ew2⟩ : ∃ k2 : Nat, k2 = cc % 16 ∧ (cc : Int).tmod 16 = (k2 : Int) := ⟨cc % 16, rfl, by rw [Int.tmod_eq_emod_of_nonneg (by omega)]; omega⟩
      have l1 : k1 < 16 := by omega
      have l2 : k2 < 16 := by omega
      have EW1 := Aside0.mk ew1
      have EW2 := Aside0.mk ew2
      have EK1 := Aside0.mk hk1
      have EK2 := Aside0.mk hk2
      clear ew1 ew2 hk1 hk2
      refine wpIn_region_any (by kernel_rfl) ?_
      try (change wpAnyIn _ _ _ _ _ _ _ _ _ (World.drew _))
      refine take_it (i := 0) (v := ?_) (by kernel_rfl) rfl (by kernel_rfl) (by kernel_rfl) (by kernel_rfl) (fun _ _ _ h => h) ⟨Or.inl ⟨by rfl, ?hy0⟩, fun _ => rfl⟩ ?_
      case hy0 => intro w; go_simp; with_reducible rfl
      refine take_it (i := 1) (v := .int .u8 (k1 : Int)) (by kernel_rfl) rfl (by kernel_rfl) (by kernel_rfl) (by kernel_rfl) (fun _ _ _ h => h) ⟨Or.inl ⟨by rfl, ?hy1⟩, fun _ => rfl⟩ ?_
      case hy1 => intro w; go_simp; rw [EW1.out]
      refine take_it (i := 2) (v := .int .u8 ((hexByte k1).toNat : Int)) (by kernel_rfl) rfl (by kernel_rfl) (by kernel_rfl) (by kernel_rfl) (fun _ _ _ h => h) ⟨Or.inl ⟨by rfl, ?hy2⟩, fun _ => rfl⟩ ?_
      case hy2 => intro w; go_simp; exact hex_ok k1 l1 _ _ _
      refine take_it (i := 3) (v := .string { data := #[hexByte k1] }) (by kernel_rfl) rfl (by kernel_rfl) (by kernel_rfl) (by kernel_rfl) (fun _ _ _ h => h) ⟨Or.inl ⟨by rfl, ?hy3⟩, fun _ => rfl⟩ ?_
      case hy3 => intro w; go_simp; exact hex_encode k1 l1
      refine take_it (i := 4) (v := .string { data := #[92, 120, hexByte k1] }) (by kernel_rfl) rfl (by kernel_rfl) (by kernel_rfl) (by kernel_rfl) (fun _ _ _ h => h) ⟨Or.inl ⟨by rfl, ?hy4⟩, fun _ => rfl⟩ ?_
      case hy4 => intro w; go_simp; rfl
      refine take_it (i := 5) (v := ?_) (by kernel_rfl) rfl (by kernel_rfl) (by kernel_rfl) (by kernel_rfl) (fun _ _ _ h => h) ⟨Or.inl ⟨by rfl, ?hy5⟩, fun _ => rfl⟩ ?_
      case hy5 => intro w; go_simp; with_reducible rfl
      refine take_it (i := 6) (v := .int .u8 (k2 : Int)) (by kernel_rfl) rfl (by kernel_rfl) (by kernel_rfl) (by kernel_rfl) (fun _ _ _ h => h) ⟨Or.inl ⟨by rfl, ?hy6⟩, fun _ => rfl⟩ ?_
      case hy6 => intro w; go_simp; rw [EW2.out]
      refine take_it (i := 7) (v := .int .u8 ((hexByte k2).toNat : Int)) (by kernel_rfl) rfl (by kernel_rfl) (by kernel_rfl) (by kernel_rfl) (fun _ _ _ h => h) ⟨Or.inl ⟨by rfl, ?hy7⟩, fun _ => rfl⟩ ?_
      case hy7 => intro w; go_simp; exact hex_ok k2 l2 _ _ _
      refine take_it (i := 8) (v := .string { data := #[hexByte k2] }) (by kernel_rfl) rfl (by kernel_rfl) (by kernel_rfl) (by kernel_rfl) (fun _ _ _ h => h) ⟨Or.inl ⟨by rfl, ?hy8⟩, fun _ => rfl⟩ ?_
      case hy8 => intro w; go_simp; exact hex_encode k2 l2
      refine take_it (i := 9) (v := .string { data := #[92, 120, hexByte k1, hexByte k2] }) (by kernel_rfl) rfl (by kernel_rfl) (by kernel_rfl) (by kernel_rfl) (fun _ _ _ h => h) ⟨Or.inl ⟨by rfl, ?hy9⟩, fun _ => rfl⟩ ?_
      case hy9 => intro w; go_simp; rfl
      refine wpAnyIn_ready (rs := [10]) (by kernel_rfl) (by simp) ?_
      refine AllReadyIn.cons rfl (fun K hK => ?_) AllReadyIn.nil
      go_simp
      refine ⟨trivial, (CallsIn.inRound l (callsIn_wide.2 (HWD.out k1 k2))).mono ?_⟩
      rintro e w3 ⟨rfl, h3, hb3, hk3⟩
      refine hK _ _ ?_
      clear hK K
      refine wpAnyIn_done (by kernel_rfl) ?_ _
      gi_wp2
      exact quote_round h3 hb3 hk3 hsv hB (by omega) (by rw [hsz]; omega) (qp_hex hx1 HCC.out EK1.out EK2.out ‹_› ‹_› ‹_› ‹_› ‹_› (by first | exact .inl ‹_› | exact .inr (.inl (beq_iff_eq.1 ‹(x.1 == 127) = true›)) | exact .inr (.inr ⟨‹_›, by have := beq_iff_eq.1 ‹((x.2.size : Int) == 1) = true›; omega⟩)))
    all_goals
      refine ⟨trivial, (CallsIn.inRound l (callsIn_wide.2 (HWS.out _ ?_))).mono ?_⟩
      · first | (simp only [ByteArray.size_append]; show 1 + _ ≤ 5; omega) | decide | omega
      · rintro e w3 ⟨rfl, h3, hb3, hk3⟩
        gi_wp2
        exact quote_round h3 hb3 hk3 hsv hB (by omega) (by rw [hsz]; omega) (by first | exact qp34 ‹_› | exact qp92 ‹_› ‹_› | exact qp10 ‹_› | exact qp13 ‹_› | exact qp9 ‹_› | exact qp_self1 ‹_› ‹_› ‹_› ‹_› ‹_› ‹_› ‹_› ‹_› | exact qp_self2 ‹_› ‹_› ‹_› ‹_› ‹_› ‹_› ‹_› ‹_›)
  case done =>
    rintro D ys W hD rfl ⟨hv, ⟨sv, hsv⟩, hB⟩ hK
    have hD' : w.heap.size + 2 ≤ D := by rw [hsz] at hD; omega
    have hlen : (34 :: (piecesOf s).flatMap quotePiece).length ≤ 87960930222081 := by
      have h2 := piecesOf_length s
      have h3 := flatMap_length (piecesOf s) (piecesOf_ok s)
      rw [List.length_cons]
      omega
    gi_wp2_with fail
    refine ⟨trivial, (callsIn_wide.2 (bld_WriteByte w.heap.size w.heap.size (34 :: (piecesOf s).flatMap quotePiece) 34 W hv (by omega) hB.size)).mono ?_⟩
    rintro e w3 ⟨rfl, h3, hb3, hk3⟩
    have hK3 := hk3 D _ hK (fun e' => by have := Option.some.inj e'; omega) (fun c fz e' => by cases e')
    have hB3 := hB.trans hb3
    clear hb3 hk3 hK hB hv hsv
    gi_wp2_with fail
    refine ⟨trivial, (callsIn_wide.2 (bld_String w.heap.size w.heap.size _ w3 h3 hB3.size)).mono ?_⟩
    rintro e w4 ⟨rfl, h4, hb4, hk4⟩
    have hK4 := hk4 D _ hK3 (fun e' => by have := Option.some.inj e'; omega) (fun c fz e' => by cases e')
    gi_wp2
    refine ⟨by simp, .inl ⟨_, _, rfl, run_takeDeferred hK4, ?_⟩⟩
    exact ⟨_, results_tmp rfl _ _ _, rfl, (hB3.trans hb4).trans (belowK_b (w := w) (Nat.le_refl _) _ D _ _ (by omega) hK4 rfl rfl)⟩
  case stop =>
    rintro D c pre W _ _ h _
    exact h.elim
end Go.Proofs.YtcpknkdnboiecaaDoor
namespace Go.Proofs.YtcpknkdnboiecaaDoor.P
open Go Go.RowKit Go.Proofs.YtcpknkdnboiecaaDoorW.PrintWords

def quote_Quote.f (a0 : ByteArray) : Option ByteArray := if a0.size ≤ 17592186044416 then some ⟨(quoteBytes a0).toArray⟩ else none

theorem quote_Quote.calls (a0 : ByteArray) (r : ByteArray) (w : World) (hG : Aside0 (G w)) (h : quote_Quote.f a0 = some r) :
    Calls Tryd.prog 11 #[.string a0] w fun e w' => e = .returned (.string r) ∧ Below w.heap.size w w' := by
  unfold quote_Quote.f at h
  split at h
  · cases h
    exact quote_calls a0 ‹_› w hG
  · cases h
end Go.Proofs.YtcpknkdnboiecaaDoor.P

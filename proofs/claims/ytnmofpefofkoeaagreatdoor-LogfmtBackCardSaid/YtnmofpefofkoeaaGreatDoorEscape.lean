/- quote.escape: what one escape stands for, and what is left. Its condition: what the laid variables hold; the text's size. -/
import Derived.Test.YtnmofpefofkoeaaGreatDoorG
import Derived.Test.YtnmofpefofkoeaaGreatDoorEncode
import Derived.Test.YtnmofpefofkoeaaGreatDoorParse16
import Derived.Test.YtnmofpefofkoeaaGreatDoorHexTrim
import Derived.Deep.QuietTactic
import Derived.BigQuiet
import Derived.Laws.BytesArg
import Derived.BigRegion
import Derived.Shelf.Strings.SlTrimAscii
set_option linter.unusedVariables false
namespace Go.Proofs.YtnmofpefofkoeaaGreatDoor
open Go Go.RowKit Go.Maps Go.WideElems Go.WideMaps Go.Proofs.YtnmofpefofkoeaaGreatDoorW.PrintWords

def escOf : Nat → Option Nat
  | 34 => some 34 | 39 => some 39 | 92 => some 92 | 97 => some 7 | 98 => some 8 | 102 => some 12 | 110 => some 10 | 114 => some 13 | 116 => some 9 | 118 => some 11 | _ => none
def codOf : Nat → Option Nat
  | 85 => some 8 | 117 => some 4 | 120 => some 2 | _ => none

def litOf : DataW Unit → Option Int
  | .lit (.int _ a) => some a
  | _ => none
theorem esc_has : ∀ c : Fin 256, Maps.has escData (.int .u8 (c.val : Int)) = (escOf c.val).isSome := by decide +kernel
theorem esc_at : ∀ c : Fin 256, litOf (escData.atKey (.int .u8 (c.val : Int)) (.lit (.int .u8 0))) = some (((escOf c.val).getD 0 : Nat) : Int) := by decide +kernel
theorem cod_has : ∀ c : Fin 256, Maps.has codData (.int .u8 (c.val : Int)) = (codOf c.val).isSome := by decide +kernel
theorem cod_at : ∀ c : Fin 256, litOf (codData.atKey (.int .u8 (c.val : Int)) (.lit (.int .i64 0))) = some (((codOf c.val).getD 0 : Nat) : Int) := by decide +kernel

theorem key_wf : ∀ c : Fin 256, (Lit.int .u8 (c.val : Int)).wf = true := by decide +kernel
theorem look_esc {w : World} {bm n : Nat} (h : w.ownsMap Tryz.prog 5 (plainElem Tryz.prog 5) bm n escData) (c : Nat) (hc : c < 256) :
    (Instr.lookup 115 (.map (some bm)) (.int .u8 (c : Int)) true).run Tryz.prog w = .ok (.tuple #[.int .u8 (((escOf c).getD 0 : Nat) : Int), .bool (escOf c).isSome]) w := by
  obtain ⟨v, ps, hrun, hv⟩ := h.look_ok (int_keyed Tryz.underlying5) Tryz.underlying115 (z := .int .u8 0) (by kernel_rfl) (plainElem_int Tryz.underlying5 (by decide)) (keyOf_int_mk Tryz.underlying5 (a := (c : Int)) (key_wf ⟨c, hc⟩))
  obtain ⟨a, rfl, hz, _⟩ := plainElem_int_inv Tryz.underlying5 hv
  have h1 := esc_at ⟨c, hc⟩
  have h2 := esc_has ⟨c, hc⟩
  simp only at h1 h2
  simp only [Prod.mk.injEq] at hz
  rw [hz.1] at h1
  simp only [litOf, Option.some.injEq] at h1
  rw [hrun, h2, h1]

theorem look_cod {w : World} {bm n : Nat} (h : w.ownsMap Tryz.prog 5 (plainElem Tryz.prog 3) bm n codData) (c : Nat) (hc : c < 256) :
    (Instr.lookup 116 (.map (some bm)) (.int .u8 (c : Int)) true).run Tryz.prog w = .ok (.tuple #[.int .i64 (((codOf c).getD 0 : Nat) : Int), .bool (codOf c).isSome]) w := by
  obtain ⟨v, ps, hrun, hv⟩ := h.look_ok (int_keyed Tryz.underlying5) Tryz.underlying116 (z := .int .i64 0) (by kernel_rfl) (plainElem_int Tryz.underlying3 (by decide)) (keyOf_int_mk Tryz.underlying5 (a := (c : Int)) (key_wf ⟨c, hc⟩))
  obtain ⟨a, rfl, hz, _⟩ := plainElem_int_inv Tryz.underlying3 hv
  have h1 := cod_at ⟨c, hc⟩
  have h2 := cod_has ⟨c, hc⟩
  simp only at h1 h2
  simp only [Prod.mk.injEq] at hz
  rw [hz.1] at h1
  simp only [litOf, Option.some.injEq] at h1
  rw [hrun, h2, h1]

def allHex (l : List UInt8) : Bool := l.all fun c => decide (hexDig c.toNat < 16)
def validN (x : Nat) : Bool := decide (x < 55296 ∨ 57343 < x ∧ x ≤ 1114111)

def escapeP (s : ByteArray) : Option (ByteArray × ByteArray) :=
  if s.size = 0 then none else
    match escOf (s.data.toList.getD 0 0).toNat with
    | some b => some (⟨#[UInt8.ofNat b]⟩, s.extract 1 s.size)
    | none => match codOf (s.data.toList.getD 0 0).toNat with
      | none => none
      | some n => if s.size < 1 + n then none else
        if allHex (s.extract 1 (1 + n)).data.toList then
          if n = 2 then some (⟨#[UInt8.ofNat (hexVal (s.extract 1 (1 + n)).data.toList)]⟩, s.extract (1 + n) s.size)
          else if validN (hexVal (s.extract 1 (1 + n)).data.toList) then some (⟨(Lib.encodeRune (hexVal (s.extract 1 (1 + n)).data.toList : Nat)).toArray⟩, s.extract (1 + n) s.size) else none
        else none
def escRes : Option (ByteArray × ByteArray) → Value
  | none => .tuple #[.string ⟨#[]⟩, .string ⟨#[]⟩, .bool false]
  | some (t, r) => .tuple #[.string t, .string r, .bool true]

theorem drewN_below (w : World) (n : Nat) : Below w.heap.size w (w.drewN n) := pw_below_drewN (Below.refl _ w) n
theorem holds_drewN {w : World} {K E bm n : Nat} {D : DataW Unit} (h : w.ownsMap Tryz.prog K (plainElem Tryz.prog E) bm n D) (m : Nat) : (w.drewN m).ownsMap Tryz.prog K (plainElem Tryz.prog E) bm n D := by
  have hl := h.lt
  obtain ⟨es, clock, hb', F, hn, hD⟩ := h
  exact ⟨es, clock, ((drewN_below w m).block bm hl).trans hb', F, hn, hD⟩
theorem look_esc_at {w : World} {bm n : Nat} (h : w.ownsMap Tryz.prog 5 (plainElem Tryz.prog 5) bm n escData) (c : UInt8) (o : Option Nat) (ho : escOf c.toNat = o) :
    ∀ m, (Instr.lookup 115 (.map (some bm)) (.int .u8 (c.toNat : Int)) true).run Tryz.prog (w.drewN m) = .ok (.tuple #[.int .u8 ((o.getD 0 : Nat) : Int), .bool o.isSome]) (w.drewN m) := fun m => by
  rw [← ho]; exact look_esc (holds_drewN h m) c.toNat c.toNat_lt
theorem look_cod_at {w : World} {bm n : Nat} (h : w.ownsMap Tryz.prog 5 (plainElem Tryz.prog 3) bm n codData) (c : UInt8) (o : Option Nat) (ho : codOf c.toNat = o) :
    ∀ m, (Instr.lookup 116 (.map (some bm)) (.int .u8 (c.toNat : Int)) true).run Tryz.prog (w.drewN m) = .ok (.tuple #[.int .i64 ((o.getD 0 : Nat) : Int), .bool o.isSome]) (w.drewN m) := fun m => by
  rw [← ho]; exact look_cod (holds_drewN h m) c.toNat c.toNat_lt
theorem get0_eq (s : ByteArray) (h : 0 < s.size) : s.data.toList.getD 0 0 = s[0]'h := by
  cases s with | mk d => cases d with | mk l => cases l with
    | nil => exact absurd h (by decide)
    | cons a l => rfl

theorem conv_one (W w : World) (g : Nat) (b : Nat) (hg : g = W.heap.size) : (convert 29 9 (.slice (some ⟨g, 0, none⟩) 1 1)).run Tryz.prog (W.alloc (.cells #[.int .u8 (b : Int)] 5)) = .ok (.string ⟨#[UInt8.ofNat b]⟩) (W.alloc (.cells #[.int .u8 (b : Int)] 5)) := by
  subst hg
  exact run_convert_bytes_arg (W.alloc (.cells #[.int .u8 (b : Int)] 5)) 29 5 Tryz.underlying29 Tryz.underlying5 W.heap.size 0 1 1 [(b : Int)] rfl (fun i hi => by
    obtain rfl : i = 0 := by omega
    exact cell_one_new W (.int .u8 (b : Int)) 5 0 _ rfl) 9 Tryz.underlying9

set_option maxRecDepth 100000 in
set_option maxHeartbeats 1000000 in
theorem ivalid_calls (y : Int) (h0 : 0 ≤ y) (h : y ≤ 1114111) (o : Bool) (ho : o = decide (y < 55296 ∨ 57343 < y)) (w : World) : Calls Tryz.prog 93 #[.int .i32 y] w fun e w' => e = .returned (.bool o) ∧ w = w' := by
  by_cases h1 : y < 55296
  · obtain rfl : o = true := by rw [ho]; exact decide_eq_true (Or.inl h1)
    clear ho
    go_enter Tryz.func93, Tryz.ntmps93
    go_wp2
    go_ret
    exact ⟨rfl, rfl⟩
  · by_cases h2 : 57343 < y
    · obtain rfl : o = true := by rw [ho]; exact decide_eq_true (Or.inr h2)
      clear ho
      go_enter Tryz.func93, Tryz.ntmps93
      go_wp2
      go_ret
      exact ⟨rfl, rfl⟩
    · obtain rfl : o = false := by rw [ho]; exact decide_eq_false (by omega)
      clear ho
      go_enter Tryz.func93, Tryz.ntmps93
      go_wp2
      go_ret
      exact ⟨rfl, rfl⟩
theorem valid_calls (x : Nat) (h : x ≤ 1114111) (w : World) : Calls Tryz.prog 93 #[.int .i32 (x : Int)] w fun e w' => e = .returned (.bool (validN x)) ∧ w = w' :=
  ivalid_calls x (by omega) (by omega) _ (by unfold validN; rw [Bool.eq_iff_iff, decide_eq_true_iff, decide_eq_true_iff]; omega) w

theorem codOf_some {c n : Nat} (h : codOf c = some n) : n = 2 ∨ n = 4 ∨ n = 8 := by
  unfold codOf at h
  split at h <;> simp at h <;> omega

/-- What stands behind the letter is to the base 16, as the code asks it: two calls, a text. -/
def trimmed (t : ByteArray) : ByteArray := ⟨(Lib.trimS (Lib.toLowerD t.data.toList) hexSet).toArray⟩
def lowered (t : ByteArray) : ByteArray := ⟨(Lib.toLowerD t.data.toList).toArray⟩
theorem lower_at (t : ByteArray) (ht : t.size ≤ 8) (w : World) (hG : G w) :
    Calls Tryz.prog 91 #[.string t] w fun e w' => e = .returned (.string (lowered t)) ∧ Below w.heap.size w w' :=
  Tryz.strings_ToLower_any t w (by omega) hG.cases hG.utf8
theorem trim_at (t : ByteArray) (ht : t.size ≤ 8) (w : World) :
    Calls Tryz.prog 90 #[.string (lowered t), .string ⟨#[48, 49, 50, 51, 52, 53, 54, 55, 56, 57, 97, 98, 99, 100, 101, 102]⟩] w fun e w' => e = .returned (.string (trimmed t)) ∧ Below w.heap.size w w' := by
  have h := toLowerD_length t.data.toList
  have e : t.data.toList.length = t.size := (Lib.size_eq t).symm
  exact Any.strings_Trim_laid Tryz.lays160 (by kernel_rfl) (lowered t) ⟨#[48, 49, 50, 51, 52, 53, 54, 55, 56, 57, 97, 98, 99, 100, 101, 102]⟩ w (by show (Lib.toLowerD t.data.toList).toArray.size ≤ _; rw [List.size_toArray]; omega) (by decide) (ascii_of_all (by decide))
theorem trimmed_empty (t : ByteArray) : (trimmed t).toList.isEmpty = allHex t.data.toList := by
  rw [← decide_eq_emptyBytes]
  have h := trim_lower_nil t.data.toList
  unfold allHex
  rw [Bool.eq_iff_iff, decide_eq_true_iff, List.all_eq_true]
  simp only [decide_eq_true_eq]
  rw [← h]
  unfold trimmed
  constructor
  · intro hh
    have := congrArg (fun x => x.data.toList) hh
    simpa using this
  · intro hh; rw [hh]; rfl

set_option maxRecDepth 100000 in
set_option maxHeartbeats 4000000 in
theorem escape_calls (s : ByteArray) (hs : s.size ≤ 17592186044416) (w : World) (hG : Aside0 (G w)) :
    Calls Tryz.prog 80 #[.string s] w fun e w' => e = .returned (escRes (escapeP s)) ∧ Below w.heap.size w w' := by
  by_cases h0 : s.size = 0
  · have t2 : s.toList.isEmpty = true := by
      rw [← decide_eq_emptyBytes]
      exact decide_eq_true (by cases s with | mk d => cases d with | mk l => cases l with
        | nil => rfl
        | cons a l => simp [ByteArray.size] at h0)
    have hr : escapeP s = none := by unfold escapeP; rw [if_pos h0]
    rw [hr]
    clear hr
    go_enter Tryz.func80, Tryz.ntmps80
    go_wp2
    go_ret3
    exact ⟨rfl, Below.refl _ _⟩
  · have t2 : s.toList.isEmpty = false := by
      rw [← decide_eq_emptyBytes]
      exact decide_eq_false (fun h => by rw [h] at h0; exact absurd h0 (by decide))
    have hp : 0 < s.size := by omega
    have HE : Hid (escapeP s = _) := Lib.hid rfl
    obtain ⟨bme, ne, hce, hme⟩ := hG.out.esc
    rcases ho : escOf (s[0]'hp).toNat with _ | b
    · have hlk := look_esc_at hme (s[0]'hp) _ ho
      simp only [Option.getD_none, Option.isSome_none] at hlk
      obtain ⟨bmc, nc, hcc, hmc⟩ := hG.out.cod
      rcases hc : codOf (s[0]'hp).toNat with _ | n
      · have hlc := look_cod_at hmc (s[0]'hp) _ hc
        simp only [Option.getD_none, Option.isSome_none] at hlc
        have hr : escapeP s = none := by unfold escapeP; rw [if_neg h0, get0_eq s hp, ho, hc]
        rw [hr]
        clear hr HE
        go_enter Tryz.func80, Tryz.ntmps80
        go_wp2
        go_quiet (fail)
        go_wp2
        go_quiet (fail)
        go_wp2
        go_ret3
        exact ⟨rfl, drewN_below _ _⟩
      · have hn := codOf_some hc
        have hlc := look_cod_at hmc (s[0]'hp) _ hc
        simp only [Option.getD_some, Option.isSome_some] at hlc
        by_cases hsz : s.size < 1 + n
        · have hr : escapeP s = none := by unfold escapeP; rw [if_neg h0, get0_eq s hp, ho, hc]; simp only; rw [if_pos hsz]
          rw [hr]
          clear hr HE
          go_enter Tryz.func80, Tryz.ntmps80
          go_wp2
          go_quiet (fail)
          go_wp2
          go_quiet (fail)
          go_wp2
          go_ret3
          exact ⟨rfl, drewN_below _ _⟩
        · have ht : (s.extract 1 (1 + n)).size = n := by rw [ByteArray.size_extract]; omega
          have hE := trimmed_empty (s.extract 1 (1 + n))
          have t8 : (s.extract 1 (1 + n)).size ≤ 8 := by omega
          by_cases hx : allHex (s.extract 1 (1 + n)).data.toList = true
          · have hp1 : 0 < (s.extract 1 (1 + n)).size := by omega
            have hall : ∀ c ∈ (s.extract 1 (1 + n)).data.toList, hexDig c.toNat < 16 := fun c hc => by
              have := List.all_eq_true.1 hx c hc
              exact of_decide_eq_true this
            have HX : Aside0 (∀ c ∈ (s.extract 1 (1 + n)).data.toList, hexDig c.toNat < 16) := ⟨hall⟩
            have hlt := hexVal_lt _ hall
            rw [show (s.extract 1 (1 + n)).data.toList.length = n by rw [← Lib.size_eq, ht]] at hlt
            have hr : escapeP s = if n = 2 then some (⟨#[UInt8.ofNat (hexVal (s.extract 1 (1 + n)).data.toList)]⟩, s.extract (1 + n) s.size)
                else if validN (hexVal (s.extract 1 (1 + n)).data.toList) then some (⟨(Lib.encodeRune (hexVal (s.extract 1 (1 + n)).data.toList : Nat)).toArray⟩, s.extract (1 + n) s.size) else none := by
              unfold escapeP; rw [if_neg h0, get0_eq s hp, ho, hc]; simp only; rw [if_neg hsz, if_pos hx]
            rw [hx] at hE
            clear hx hall
            obtain ⟨x, hX⟩ : ∃ x, x = hexVal (s.extract 1 (1 + n)).data.toList := ⟨_, rfl⟩
            rw [← hX] at hr hlt
            obtain ⟨y, hy⟩ : ∃ y : Int, y = (x : Int) := ⟨_, rfl⟩
            have HP : ∀ W, Calls Tryz.prog 92 #[.string (s.extract 1 (1 + n)), .int .i64 16, .int .i64 64] W fun e w' => e = .returned (.tuple #[.int .u64 y, .nilIface]) ∧ Below W.heap.size W w' := fun W => by
              rw [hy, hX]; exact parse16_calls _ W hp1 t8 HX
            clear hX HE
            by_cases h2 : n = 2
            · subst h2
              rw [if_pos rfl] at hr
              rw [hr]
              clear hr
              have x256 : y < 256 := by omega
              have x0 : 0 ≤ y := by omega
              have hwx : IntKind.u8.wrap y = y := by rw [IntKind.wrap_u8]; omega
              obtain ⟨z, hz⟩ : ∃ z : UInt8, z = UInt8.ofNat x := ⟨_, rfl⟩
              have HZ := Aside0.mk hz
              rw [← hz]
              have HY := Aside0.mk hy
              clear hlt hy hz
              go_enter Tryz.func80, Tryz.ntmps80
              go_wp2
              go_quiet (fail)
              go_wp2
              go_quiet (fail)
              go_wp2_with (first
                | (go_at_call 91; (with_reducible refine (lower_at (s.extract 1 (1 + 2)) t8 _ (hG.out.below (drewN_below _ _))).mono ?_); rintro e w1 ⟨rfl, hb1⟩; have HB1 := Aside0.mk (below_step (drewN_below _ _) hb1); clear hb1)
                | (go_at_call 90; (with_reducible refine (trim_at (s.extract 1 (1 + 2)) t8 _).mono ?_); rintro e w2 ⟨rfl, hb2⟩; have HB2 := Aside0.mk (below_step HB1.out hb2); clear hb2)
                | (go_at_call 92; (with_reducible refine (HP _).mono ?_); rintro e w3 ⟨rfl, hb3⟩; have HB3 := Aside0.mk (below_step HB2.out hb3); clear hb3)
                | (go_at_call 93; (with_reducible refine (HV _).mono ?_); rintro e w4 ⟨rfl, rfl⟩))
              have hcv : ∀ k, (convert 29 9 (.slice (some ⟨w3.heap.size, 0, none⟩) 1 1)).run Tryz.prog ((w3.drewN k).alloc (.cells #[.int .u8 y] 5)) = .ok (.string ⟨#[z]⟩) ((w3.drewN k).alloc (.cells #[.int .u8 y] 5)) := fun k => by
                rw [HY.out, HZ.out]; exact conv_one (w3.drewN k) w w3.heap.size x (by simp)
              have hcv1 : (convert 29 9 (.slice (some ⟨w3.heap.size, 0, none⟩) 1 1)).run Tryz.prog (w3.drew.alloc (.cells #[.int .u8 y] 5)) = .ok (.string ⟨#[z]⟩) (w3.drew.alloc (.cells #[.int .u8 y] 5)) := hcv 1
              have hcv2 : (convert 29 9 (.slice (some ⟨w3.heap.size, 0, none⟩) 1 1)).run Tryz.prog (w3.alloc (.cells #[.int .u8 y] 5)).drew = .ok (.string ⟨#[z]⟩) (w3.alloc (.cells #[.int .u8 y] 5)).drew := hcv 1
              clear hcv hcv1
              go_region
              all_goals go_wp2
              all_goals go_ret3
              exact ⟨rfl, (below_step HB3.out (drewN_below w3 1)).alloc (Nat.le_trans HB3.out.size (drewN_below w3 1).size) _⟩
            · rw [if_neg h2] at hr
              by_cases hv : x ≤ 1114111 ∧ validN x = true
              · obtain ⟨hle, hvt⟩ := hv
                rw [if_pos hvt] at hr
                rw [hr]
                clear hr
                have hn2 : ¬ (n : Int) = 2 := by omega
                have x0 : 0 ≤ y := by omega
                have hbigI : y ≤ 1114111 := by omega
                have HV : ∀ W, Calls Tryz.prog 93 #[.int .i32 y] W fun e w' => e = .returned (.bool true) ∧ W = w' := fun W => by
                  have := valid_calls x (by omega) W
                  rw [hvt] at this; rw [hy]; exact this
                obtain ⟨enc, henc⟩ : ∃ enc : ByteArray, enc = ⟨(Lib.encodeRune (x : Int)).toArray⟩ := ⟨_, rfl⟩
                have HN : ∀ W, Calls Tryz.prog 94 #[.int .i32 y] W fun e w' => e = .returned (.string enc) ∧ Below W.heap.size W w' := fun W => by
                  rw [henc, hy]; exact encode_calls x (by omega) (by omega) W
                rw [← henc]
                have hwx : IntKind.i32.wrap y = y := by rw [IntKind.wrap_i32]; omega
                have hsI : 1 + (n : Int) ≤ (s.size : Int) := by omega
                clear hle hvt hy hlt henc
                go_enter Tryz.func80, Tryz.ntmps80
                go_wp2
                go_quiet (fail)
                go_wp2
                go_quiet (fail)
                go_wp2_with (first
                  | (go_at_call 91; (with_reducible refine (lower_at (s.extract 1 (1 + n)) t8 _ (hG.out.below (drewN_below _ _))).mono ?_); rintro e w1 ⟨rfl, hb1⟩; have HB1 := Aside0.mk (below_step (drewN_below _ _) hb1); clear hb1)
                  | (go_at_call 90; (with_reducible refine (trim_at (s.extract 1 (1 + n)) t8 _).mono ?_); rintro e w2 ⟨rfl, hb2⟩; have HB2 := Aside0.mk (below_step HB1.out hb2); clear hb2)
                  | (go_at_call 92; (with_reducible refine (HP _).mono ?_); rintro e w3 ⟨rfl, hb3⟩; have HB3 := Aside0.mk (below_step HB2.out hb3); clear hb3)
                  | (go_at_call 93; (with_reducible refine (HV _).mono ?_); rintro e w4 ⟨rfl, rfl⟩))
                refine wp_region_any (by kernel_rfl) ?_
                try (change wpAny _ _ _ _ _ _ _ (World.drew _))
                refine wpAny_take (i := 0) (v := .int .u64 y) rfl (by kernel_rfl) (by kernel_rfl) (by kernel_rfl) (fun _ _ _ h => h) (Or.inl ⟨by rfl, ?hy0⟩) ?_
                case hy0 => intro w; go_simp; try rfl
                refine wpAny_take (i := 1) (v := .int .i32 y) rfl (by kernel_rfl) (by kernel_rfl) (by kernel_rfl) (fun _ _ _ h => h) (Or.inl ⟨by rfl, ?hy1⟩) ?_
                case hy1 => intro w; go_simp; try rfl
                refine wpAny_take (i := 3) (v := .string s) rfl (by kernel_rfl) (by kernel_rfl) (by kernel_rfl) (fun _ _ _ h => h) (Or.inl ⟨by rfl, ?hy3⟩) ?_
                case hy3 => intro w; go_simp; try rfl
                refine wpAny_take (i := 4) (v := .int .i64 n) rfl (by kernel_rfl) (by kernel_rfl) (by kernel_rfl) (fun _ _ _ h => h) (Or.inl ⟨by rfl, ?hy4⟩) ?_
                case hy4 => intro w; go_simp; try rfl
                refine wpAny_take (i := 5) (v := .int .i64 (1 + n)) rfl (by kernel_rfl) (by kernel_rfl) (by kernel_rfl) (fun _ _ _ h => h) (Or.inl ⟨by rfl, ?hy5⟩) ?_
                case hy5 => intro w; go_simp; rw [IntKind.wrap_i64]; omega
                refine wpAny_take (i := 6) (v := .string (s.extract (1 + n) s.size)) rfl (by kernel_rfl) (by kernel_rfl) (by kernel_rfl) (fun _ _ _ h => h) (Or.inl ⟨by rfl, ?hy6⟩) ?_
                case hy6 => intro w; go_simp; try rfl
                refine wpAny_ready (rs := [2]) (by kernel_rfl) (by simp) ?_
                refine AllReady.cons rfl (fun K hK => ?_) AllReady.nil
                go_simp
                refine (HN _).mono ?_
                rintro e w5 ⟨rfl, hb5⟩
                have HB5 := Aside0.mk (below_step (below_step HB3.out (drewN_below w3 1)) hb5)
                refine hK _ _ ?_
                clear hK K
                refine wpAny_ready (rs := [7]) (by kernel_rfl) (by simp) ?_
                refine AllReady.cons rfl (fun K hK => ?_) AllReady.nil
                go_simp
                refine hK _ _ ?_
                clear hK K
                refine wpAny_ready (rs := [8]) (by kernel_rfl) (by simp) ?_
                refine AllReady.cons rfl (fun K hK => ?_) AllReady.nil
                go_simp
                refine hK _ _ ?_
                clear hK K
                refine wpAny_ready (rs := [9]) (by kernel_rfl) (by simp) ?_
                refine AllReady.cons rfl (fun K hK => ?_) AllReady.nil
                go_simp
                refine hK _ _ ?_
                clear hK K
                refine wpAny_done (by kernel_rfl) ?_ _
                go_wp2
                go_ret3
                exact ⟨rfl, HB5.out⟩
              · have hr2 : escapeP s = none := by
                  rw [hr]
                  have : ¬ validN x = true := by intro h; refine hv ⟨?_, h⟩; unfold validN at h; have := of_decide_eq_true h; omega
                  rw [if_neg this]
                rw [hr2]
                clear hr hr2
                have hn2 : ¬ (n : Int) = 2 := by omega
                have xu : y < 4294967296 := by
                  have : (16 : Nat) ^ n ≤ 16 ^ 8 := Nat.pow_le_pow_right (by decide) (by omega)
                  omega
                have x0 : 0 ≤ y := by omega
                by_cases hbig : 1114111 < x
                · have hbigI : 1114111 < y := by omega
                  clear hv hbig hy hlt
                  go_enter Tryz.func80, Tryz.ntmps80
                  go_wp2
                  go_quiet (fail)
                  go_wp2
                  go_quiet (fail)
                  go_wp2_with (first
                    | (go_at_call 91; (with_reducible refine (lower_at (s.extract 1 (1 + n)) t8 _ (hG.out.below (drewN_below _ _))).mono ?_); rintro e w1 ⟨rfl, hb1⟩; have HB1 := Aside0.mk (below_step (drewN_below _ _) hb1); clear hb1)
                    | (go_at_call 90; (with_reducible refine (trim_at (s.extract 1 (1 + n)) t8 _).mono ?_); rintro e w2 ⟨rfl, hb2⟩; have HB2 := Aside0.mk (below_step HB1.out hb2); clear hb2)
                    | (go_at_call 92; (with_reducible refine (HP _).mono ?_); rintro e w3 ⟨rfl, hb3⟩; have HB3 := Aside0.mk (below_step HB2.out hb3); clear hb3)
                    | (go_at_call 93; (with_reducible refine (HV _).mono ?_); rintro e w4 ⟨rfl, rfl⟩))
                  go_ret3
                  exact ⟨rfl, HB3.out⟩
                · have hbigI : y ≤ 1114111 := by omega
                  have hvf : validN x = false := by rw [← Bool.not_eq_true]; intro h; exact hv ⟨by omega, h⟩
                  have HV : ∀ W, Calls Tryz.prog 93 #[.int .i32 y] W fun e w' => e = .returned (.bool false) ∧ W = w' := fun W => by
                    have := valid_calls x (by omega) W
                    rw [hvf] at this; rw [hy]; exact this
                  have hwx : IntKind.i32.wrap y = y := by rw [IntKind.wrap_i32]; omega
                  clear hv hbig hvf hy hlt
                  go_enter Tryz.func80, Tryz.ntmps80
                  go_wp2
                  go_quiet (fail)
                  go_wp2
                  go_quiet (fail)
                  go_wp2_with (first
                    | (go_at_call 91; (with_reducible refine (lower_at (s.extract 1 (1 + n)) t8 _ (hG.out.below (drewN_below _ _))).mono ?_); rintro e w1 ⟨rfl, hb1⟩; have HB1 := Aside0.mk (below_step (drewN_below _ _) hb1); clear hb1)
                    | (go_at_call 90; (with_reducible refine (trim_at (s.extract 1 (1 + n)) t8 _).mono ?_); rintro e w2 ⟨rfl, hb2⟩; have HB2 := Aside0.mk (below_step HB1.out hb2); clear hb2)
                    | (go_at_call 92; (with_reducible refine (HP _).mono ?_); rintro e w3 ⟨rfl, hb3⟩; have HB3 := Aside0.mk (below_step HB2.out hb3); clear hb3)
                    | (go_at_call 93; (with_reducible refine (HV _).mono ?_); rintro e w4 ⟨rfl, rfl⟩))
                  go_ret3
                  exact ⟨rfl, HB3.out⟩
          · have hr : escapeP s = none := by unfold escapeP; rw [if_neg h0, get0_eq s hp, ho, hc]; simp only; rw [if_neg hsz, if_neg hx]
            rw [hr]
            rw [Bool.not_eq_true] at hx
            rw [hx] at hE
            clear hr HE hx
            go_enter Tryz.func80, Tryz.ntmps80
            go_wp2
            go_quiet (fail)
            go_wp2
            go_quiet (fail)
            go_wp2_with (first
              | (go_at_call 91; (with_reducible refine (lower_at (s.extract 1 (1 + n)) t8 _ (hG.out.below (drewN_below _ _))).mono ?_); rintro e w1 ⟨rfl, hb1⟩; have HB1 := Aside0.mk (below_step (drewN_below _ _) hb1); clear hb1)
              | (go_at_call 90; (with_reducible refine (trim_at (s.extract 1 (1 + n)) t8 _).mono ?_); rintro e w2 ⟨rfl, hb2⟩; have HB2 := Aside0.mk (below_step HB1.out hb2); clear hb2))
            go_ret3
            exact ⟨rfl, HB2.out⟩
    · have hlk := look_esc_at hme (s[0]'hp) _ ho
      simp only [Option.getD_some, Option.isSome_some] at hlk
      go_enter Tryz.func80, Tryz.ntmps80
      go_wp2
      go_quiet (fail)
      go_wp2
      have hcv := fun n => conv_one (w.drewN n) w w.heap.size b (by simp)
      go_region
      all_goals go_wp2
      all_goals go_ret3
      have hr : escapeP s = some (⟨#[UInt8.ofNat b]⟩, s.extract 1 s.size) := by unfold escapeP; rw [if_neg h0, get0_eq s hp, ho]
      rw [hr]
      exact ⟨rfl, (drewN_below w (nq + 1)).alloc (by simp) _⟩

end Go.Proofs.YtnmofpefofkoeaaGreatDoor

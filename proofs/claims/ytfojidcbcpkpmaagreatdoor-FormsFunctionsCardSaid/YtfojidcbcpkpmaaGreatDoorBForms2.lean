/- Parts of the proof: the walks and laws that the last text of this claim rests on. No condition beyond each one's own. -/
import Derived.Test.YtfojidcbcpkpmaaGreatDoorBForms1
section
set_option linter.unusedVariables false
namespace Go.Proofs.YtfojidcbcpkpmaaGreatDoor
open Go Go.RowKit Go.Lib Go.Proofs.YtfojidcbcpkpmaaGreatDoorW.PrintWords Go.Proofs.YtfojidcbcpkpmaaGreatDoorW.PrintLast Go.Proofs.YtfojidcbcpkpmaaGreatDoorW.PrintMore Go.Proofs.YtfojidcbcpkpmaaGreatDoor.P
theorem drawn_below {w w' : World} (h : Drawn0 w w') : Below w.heap.size w w' := by
  obtain ⟨nd, rfl⟩ := h
  exact pw_below_drewN (Below.refl _ _) _
def inB (c : UInt8) : Bool := (P.labels_inName.f ((c.toNat : Nat) : Int)).getD false
def digB (c : UInt8) : Bool := (P.labels_isDigit.f ((c.toNat : Nat) : Int)).getD false
theorem inB_256 : ∀ c : Fin 256, P.labels_inName.f ((c.val : Nat) : Int) = some ((P.labels_inName.f ((c.val : Nat) : Int)).getD false) ∧ P.labels_isDigit.f ((c.val : Nat) : Int) = some ((P.labels_isDigit.f ((c.val : Nat) : Int)).getD false) := by decide +kernel
theorem inB_f (c : UInt8) : P.labels_inName.f ((c.toNat : Nat) : Int) = some (inB c) := (inB_256 ⟨c.toNat, c.toNat_lt⟩).1
theorem digB_f (c : UInt8) : P.labels_isDigit.f ((c.toNat : Nat) : Int) = some (digB c) := (inB_256 ⟨c.toNat, c.toNat_lt⟩).2
/-- The bytes of a block. -/
def BytesAt (L : List UInt8) (gb : Nat) (w : World) : Prop :=
  ∃ cs fz, w.heap[gb]? = some (.cells cs 5 fz) ∧ ∀ j (hj : j < L.length), cs[j]? = some (.int .u8 ((L[j].toNat : Nat) : Int))
theorem BytesAt.cell {L : List UInt8} {gb : Nat} {w : World} (h : BytesAt L gb w) {i : Nat} (hi : i < L.length) : w.cell? ⟨gb, i, none⟩ = some (.int .u8 ((L[i].toNat : Nat) : Int)) := by
  obtain ⟨cs, fz, hb, hc⟩ := h
  simp [World.cell?, hb, hc i hi]
theorem BytesAt.lt {L : List UInt8} {gb : Nat} {w : World} (h : BytesAt L gb w) : gb < w.heap.size := by
  obtain ⟨cs, fz, hb, hc⟩ := h
  exact (Array.getElem?_eq_some_iff.1 hb).1
theorem BytesAt.below {L : List UInt8} {gb : Nat} {w w' : World} (h : BytesAt L gb w) (hb : Below w.heap.size w w') : BytesAt L gb w' := by
  have hl := h.lt
  obtain ⟨cs, fz, hk, hc⟩ := h
  exact ⟨cs, fz, (hb.block gb hl).trans hk, hc⟩
set_option maxRecDepth 100000 in
set_option maxHeartbeats 4000000 in
theorem idxf_calls (L : List UInt8) (gb cap : Nat) (hL : L.length ≤ 1099511627776) (g : Nat) (eg : ∀ args w, (callFunc g args).run Tryz.prog w = .ok (.enter g args) w) (p : UInt8 → Bool)
    (hp : ∀ (c : UInt8) (w : World), Calls Tryz.prog g #[.int .u8 (c.toNat : Int)] w fun e w' => e = .returned (.bool (p c)) ∧ Below w.heap.size w w') (w : World) (hb : BytesAt L gb w) :
    Calls Tryz.prog 90 #[.slice (some ⟨gb, 0, none⟩) L.length cap, .func (.func g) #[] #[]] w fun e w' => ∃ r : Int, e = .returned (.int .i64 r) ∧ decide (r ≥ 0) = L.any p ∧ Below w.heap.size w w' := by
  obtain ⟨res, hres⟩ : ∃ res : Bool, L.any p = res := ⟨_, rfl⟩
  rw [hres]
  have HRES : Aside0 ((L.drop 0).any p = res) := ⟨hres⟩
  have HL := Aside0.mk hL
  have HY := Aside0.mk hb
  clear hres hL hb
  go_enter Tryz.func90, Tryz.ntmps90
  go_wp2
  go_loopg [8] (L.length + 1) (fun kq v8 wr => ∃ (j : Int), v8 = .int .i64 j ∧ Aside0 (∃ i : Nat, j = (i : Int) ∧ i ≤ L.length ∧ L.length < kq + i ∧ (L.drop i).any p = res) ∧ Aside0 (BytesAt L gb wr) ∧ Aside0 (Below w.heap.size w wr))
  case atStart => exact ⟨0, rfl, ⟨0, rfl, Nat.zero_le _, by omega, HRES.out⟩, HY, ⟨Below.refl _ _⟩⟩
  case round =>
    clear HY
    obtain ⟨j, rfl, ⟨i, hij, hi, hk, hO⟩, HY, HB⟩ := hrel
    cases gk with
    | zero => exact absurd hk (by omega)
    | succ kq =>
      by_cases hlt : i < L.length
      · rw [List.drop_eq_getElem_cons hlt, List.any_cons] at hO
        have hcell := HY.out.cell hlt
        obtain ⟨c, hc⟩ : ∃ c, L[i] = c := ⟨_, rfl⟩
        rw [hc] at hcell hO
        have hji : j.toNat = i := by omega
        have q1 : (wr.cell? ⟨gb, j.toNat, none⟩ = some (.int .u8 ((c.toNat : Nat) : Int))) := by rw [hji]; exact hcell
        have hg : decide (j < (L.length : Int)) = true := decide_eq_true (by omega)
        have p1 : (0 ≤ j) = True := eq_true (by omega)
        have p2 : (j < (L.length : Int)) = True := eq_true (by omega)
        have HJ : Aside0 (j = (i : Int) ∧ i < L.length ∧ L.length < kq + 1 + i) := ⟨hij, hlt, hk⟩
        have HC := Aside0.mk (hp c)
        clear hcell hji hc hij hi hk hlt
        cases hkp : p c with
        | true =>
          rw [hkp, Bool.true_or] at hO
          have HO := Aside0.mk hO
          clear hO
          go_wp2_with (go_at_fn g; (with_reducible refine (HC.out _).mono ?_); rintro e w7 ⟨rfl, hbl⟩; rw [hkp]; have NB := Aside0.mk (below_step HB.out hbl); clear hbl)
          go_ret
          exact ⟨j, rfl, by rw [← HO.out]; exact decide_eq_true (by have := HJ.out; omega), NB.out⟩
        | false =>
          rw [hkp, Bool.false_or] at hO
          have HO := Aside0.mk hO
          clear hO
          go_wp2_with (go_at_fn g; (with_reducible refine (HC.out _).mono ?_); rintro e w7 ⟨rfl, hbl⟩; rw [hkp]; have NB := Aside0.mk (below_step HB.out hbl); have NY := Aside0.mk (HY.out.below hbl); clear hbl)
          go_roundg kq
          case measure => have := HJ.out; omega
          case rel =>
            have e0 := HJ.out
            exact ⟨wrap64 (j + 1), rfl, ⟨i + 1, by have := HL.out; unfold wrap64; omega, by omega, by omega, HO.out⟩, NY, NB⟩
      · have hg : decide (j < (L.length : Int)) = false := decide_eq_false (by omega)
        have hz : L.drop i = [] := List.drop_eq_nil_of_le (by omega)
        rw [hz] at hO
        have HO := Aside0.mk hO
        clear hij hi hk hO hlt hz
        go_wp2
        go_ret
        exact ⟨-1, rfl, by rw [← HO.out]; rfl, HB.out⟩
theorem name1_calls (c : UInt8) (w : World) : Calls Tryz.prog 64 #[.int .u8 (c.toNat : Int)] w fun e w' => e = .returned (.bool (!inB c)) ∧ Below w.heap.size w w' := by
  have HC := Aside0.mk (fun W => P.labels_inName.calls ((c.toNat : Nat) : Int) (inB c) W (inB_f c))
  go_enter Tryz.func64, Tryz.ntmps64
  go_wp2_with (go_at_call 65; (with_reducible refine (HC.out _).mono ?_); rintro e w1 ⟨rfl, hd0⟩; have HB := Aside0.mk (drawn_below hd0); clear hd0)
  go_ret
  exact ⟨rfl, HB.out⟩
theorem containsF_calls (L : List UInt8) (gb cap : Nat) (hL : L.length ≤ 1099511627776) (w : World) (hb : BytesAt L gb w) :
    Calls Tryz.prog 63 #[.slice (some ⟨gb, 0, none⟩) L.length cap, .func (.func 64) #[] #[]] w fun e w' => e = .returned (.bool (L.any fun c => !inB c)) ∧ Below w.heap.size w w' := by
  have HC := Aside0.mk (idxf_calls L gb cap hL 64 (enters_of Tryz.func64 (by kernel_rfl) rfl) _ name1_calls w hb)
  go_enter Tryz.func63, Tryz.ntmps63
  go_wp2_with (go_at_call 90; (refine HC.out.mono ?_); rintro e w1 ⟨r, rfl, hr, hd0⟩)
  go_ret
  exact ⟨rfl, hd0⟩
def isNameP (l : List UInt8) : Bool := !l.isEmpty && decide (l.length ≤ 64) && !digB (l.headD 0) && l.all inB
set_option maxRecDepth 100000 in
set_option maxHeartbeats 4000000 in
theorem isName_calls (s : ByteArray) (hs : s.size ≤ 1099511627776) (w : World) :
    Calls Tryz.prog 37 #[.string s] w fun e w' => e = .returned (.bool (isNameP s.data.toList)) ∧ Below w.heap.size w w' := by
  have hln : s.data.toList.length = s.size := (Lib.size_eq s).symm
  by_cases hne : s.size = 0
  · have he : s.data.toList = [] := List.eq_nil_of_length_eq_zero (by omega)
    have e0 : s.toList = ([] : List UInt8) := by rw [ByteArray.toList_eq]; exact he
    have hr : isNameP s.data.toList = false := by unfold isNameP; rw [he]; rfl
    rw [hr]
    have t1 : s.toList.isEmpty = true := by rw [e0]; rfl
    clear hln he hne hr hs
    go_enter Tryz.func37, Tryz.ntmps37
    go_wp2
    go_ret
    exact ⟨rfl, Below.refl _ _⟩
  · obtain ⟨c, t, hct⟩ : ∃ c t, s.data.toList = c :: t := by
      cases h : s.data.toList with
      | nil => rw [h] at hln; exact absurd hln.symm hne
      | cons c t => exact ⟨c, t, rfl⟩
    have t1 : s.toList.isEmpty = false := by rw [ByteArray.toList_eq, hct]; rfl
    have hr : isNameP s.data.toList = (decide ((s.size : Int) ≤ 64) && !digB c && !((s.data.toList).any fun c => !inB c)) := by
      unfold isNameP
      rw [hct, List.isEmpty_cons, List.headD_cons, ← hct, hln, List.not_any_eq_all_not]
      simp only [Bool.not_false, Bool.true_and, Bool.not_not]
      congr 2
      rw [decide_eq_decide]; omega
    rw [hr]
    have hcv : ∀ W : World, (convert 9 40 (.string s)).run Tryz.prog W = .ok (.slice (some ⟨W.heap.size, 0, none⟩) s.size (grownCap W s.size 0 5)) (Lib.bytesWorld W 5 s) := fun W => Lib.run_convert_string_bytes (P := Tryz.prog) W 9 40 5 s (u := .string) Tryz.underlying9 Tryz.underlying40 Tryz.underlying5
    have HW := Aside0.mk (fun W : World => Lib.bytesWorld_below W 5 s)
    have HF : Aside0 (∀ W : World, Calls Tryz.prog 63 #[.slice (some ⟨W.heap.size, 0, none⟩) s.size (grownCap W s.size 0 5), .func (.func 64) #[] #[]] (Lib.bytesWorld W 5 s) fun e w' => e = .returned (.bool (s.data.toList.any fun c => !inB c)) ∧ Below (Lib.bytesWorld W 5 s).heap.size (Lib.bytesWorld W 5 s) w') := ⟨fun W => by
      have := containsF_calls s.data.toList W.heap.size (grownCap W s.size 0 5) (by omega) (Lib.bytesWorld W 5 s) ⟨_, _, Lib.bytesWorld_at_new W 5 s, fun j hj => by
        have hj' : j < s.data.size := by simpa using hj
        have hj2 : j < s.size := hj'
        simp [Lib.bytesCells, Array.getElem?_append, hj2]⟩
      rw [hln] at this
      exact this⟩
    have hb0 : ∀ h : 0 < s.size, s[0]'h = c := fun h => by
      have : s.data.toList[0]? = some c := by rw [hct]; rfl
      rw [Array.getElem?_toList] at this
      exact (Array.getElem?_eq_some_iff.1 this).2
    have HD := Aside0.mk (fun W => P.labels_isDigit.calls ((c.toNat : Nat) : Int) (digB c) W (digB_f c))
    have p0 : (0 < (s.size : Int)) = True := eq_true (by omega)
    have p1 : (0 < s.size) = True := eq_true (by omega)
    have p2 : 0 < s.size := by omega
    obtain ⟨anyr, hany⟩ : ∃ r, (s.data.toList.any fun c => !inB c) = r := ⟨_, rfl⟩
    rw [hany] at HF ⊢
    clear hany
    clear hct hr hln hne hs
    cases hd : decide ((s.size : Int) ≤ 64) with
    | false =>
      go_enter Tryz.func37, Tryz.ntmps37
      go_wp2
      go_ret
      exact ⟨rfl, Below.refl _ _⟩
    | true =>
      cases hg : digB c with
      | true =>
        rw [hg] at HD
        go_enter Tryz.func37, Tryz.ntmps37
        go_wp2_with (go_at_call 62; (try rw [hb0]); (with_reducible refine (HD.out _).mono ?_); rintro e w1 ⟨rfl, hd0⟩; have HB := Aside0.mk (drawn_below hd0); clear hd0)
        go_ret
        exact ⟨rfl, HB.out⟩
      | false =>
        rw [hg] at HD
        go_enter Tryz.func37, Tryz.ntmps37
        go_wp2_with (first | (go_at_call 62; (try rw [hb0]); (with_reducible refine (HD.out _).mono ?_); rintro e w1 ⟨rfl, hd0⟩; have HB := Aside0.mk (drawn_below hd0); clear hd0) | (go_at_call 63; (refine (HF.out _).mono ?_); rintro e w2 ⟨rfl, hb2⟩; have NB := Aside0.mk (below_step HB.out (below_step (HW.out _) hb2)); clear hb2))
        go_ret
        exact ⟨rfl, NB.out⟩
end Go.Proofs.YtfojidcbcpkpmaaGreatDoor
end
section
set_option linter.unusedVariables false
namespace Go.Proofs.YtfojidcbcpkpmaaGreatDoor
open Go Go.RowKit Go.Lib Go.Proofs.YtfojidcbcpkpmaaGreatDoorW.PrintWords Go.Proofs.YtfojidcbcpkpmaaGreatDoorW.PrintLast Go.Proofs.YtfojidcbcpkpmaaGreatDoorW.PrintMore Go.Proofs.YtfojidcbcpkpmaaGreatDoor.P
def runN (p : UInt8 → Bool) : List UInt8 → Nat
  | [] => 0
  | c :: t => if p c = true then 1 + runN p t else 0
theorem lbt_drop (s : ByteArray) (i : Nat) (h : i < s.size) : ∃ c t, s.data.toList.drop i = c :: t ∧ (∀ h' : i < s.size, s[i]'h' = c) ∧ s.data.toList.drop (i + 1) = t := by
  have hl : i < s.data.toList.length := by rw [← Lib.size_eq]; exact h
  exact ⟨s.data.toList[i], s.data.toList.drop (i + 1), List.drop_eq_getElem_cons hl, fun _ => rfl, rfl⟩
theorem name_one (c : UInt8) : isNameP [95, c] = inB c := by
  have : ∀ c : Fin 256, isNameP [95, UInt8.ofNat c.val] = inB (UInt8.ofNat c.val) := by decide +kernel
  have := this ⟨c.toNat, c.toNat_lt⟩
  simpa using this
theorem inB_95 : inB 95 = true := by decide +kernel
theorem cut_one' (s : ByteArray) (i : Nat) (h : i < s.size) (c : UInt8) (hc : ∀ h' : i < s.size, s[i]'h' = c) : ((⟨#[95]⟩ : ByteArray) ++ s.extract i (i + 1)).data.toList = [95, c] := by
  have e : (s.extract i (i + 1)).data.toList = [c] := by
    rw [ByteArray.data_extract, Array.toList_extract, List.extract_eq_take_drop, show i + 1 - i = 1 by omega]
    have hl : i < s.data.toList.length := by rw [← Lib.size_eq]; exact h
    rw [List.drop_eq_getElem_cons hl, List.take_succ_cons, List.take_zero]
    have := hc h
    exact congrArg (· :: []) this
  have e2 : ((⟨#[95]⟩ : ByteArray) ++ s.extract i (i + 1)).data.toList = [95] ++ (s.extract i (i + 1)).data.toList := by rw [ByteArray.data_append, Array.toList_append]
  rw [e2, e]; rfl
set_option maxRecDepth 100000 in
set_option maxHeartbeats 4000000 in
theorem word_calls (s : ByteArray) (hs : s.size ≤ 4294967296) (w : World) :
    Calls Tryz.prog 36 #[.string s] w fun e w' => e = .returned (.tuple #[.string (s.extract 0 (runN inB s.data.toList)), .string (s.extract (runN inB s.data.toList) s.size)]) ∧ Below w.heap.size w w' := by
  obtain ⟨res, hres⟩ : ∃ res : Nat, runN inB s.data.toList = res := ⟨_, rfl⟩
  rw [hres]
  have HRES : Aside0 (0 + runN inB (s.data.toList.drop 0) = res) := ⟨by rw [Nat.zero_add]; exact hres⟩
  have HS := Aside0.mk hs
  clear hres hs
  go_enter Tryz.func36, Tryz.ntmps36
  go_wp2
  go_loopg [7] (s.size + 1) (fun kq v7 wr => ∃ (j : Int), v7 = .int .i64 j ∧ Aside0 (∃ i : Nat, j = (i : Int) ∧ i ≤ s.size ∧ s.size < kq + i ∧ i + runN inB (s.data.toList.drop i) = res) ∧ Aside0 (Below w.heap.size w wr))
  case atStart => exact ⟨0, rfl, ⟨0, rfl, Nat.zero_le _, by omega, HRES.out⟩, ⟨Below.refl _ _⟩⟩
  case round =>
    obtain ⟨j, rfl, ⟨i, hij, hi, hk, hO⟩, HB⟩ := hrel
    cases gk with
    | zero => exact absurd hk (by omega)
    | succ kq =>
      by_cases hlt : i < s.size
      · obtain ⟨c, t, e, hb, et⟩ := lbt_drop s i hlt
        have hbc : ∀ h' : j.toNat < s.size, s[j.toNat]'h' = c := fun h' => by
          have e : j.toNat = i := by omega
          simp only [e]
          exact hb _
        have w1 : wrap64 (j + 1) = j + 1 := by have := HS.out; unfold wrap64; omega
        have hsl : ∃ q : ByteArray, (⟨#[95]⟩ : ByteArray) ++ s.extract j.toNat (wrap64 (j + 1)).toNat = q ∧ q.data.toList = [95, c] := ⟨_, rfl, by
          rw [w1, show j.toNat = i by omega, show (j + 1).toNat = i + 1 by omega]
          exact cut_one' s i hlt c hb⟩
        obtain ⟨q, hq, hqc⟩ := hsl
        rw [e, runN] at hO
        have hg : decide (j < (s.size : Int)) = true := decide_eq_true (by omega)
        have p1 : (0 ≤ j) = True := eq_true (by omega)
        have q1 : (j < (s.size : Int)) = True := eq_true (by omega)
        have p3 : (j ≤ wrap64 (j + 1)) = True := eq_true (by omega)
        have q3 : (wrap64 (j + 1) ≤ (s.size : Int)) = True := eq_true (by omega)
        have p4 : (j ≤ (s.size : Int)) = True := eq_true (by omega)
        have HJ : Aside0 (j = (i : Int) ∧ i < s.size ∧ s.size < kq + 1 + i) := ⟨hij, hlt, hk⟩
        have hfit : (9223372036854775807 < 1 + ((wrap64 (j + 1)).toNat - j.toNat)) = False := eq_false (by omega)
        have hqs : q.size = 2 := by rw [Lib.size_eq, hqc]; rfl
        have HN := Aside0.mk (fun W => isName_calls q (by omega) W)
        rw [hqc, name_one] at HN
        have HE := Aside0.mk et
        have HW := Aside0.mk w1
        clear e et hij hi hk hlt hb hqc hqs w1
        by_cases h95 : c = 95
        · subst h95
          rw [inB_95, if_pos rfl] at hO
          have HO := Aside0.mk hO
          clear hO
          go_wp2
          go_roundg kq
          case measure => have := HJ.out; omega
          case rel =>
            refine ⟨wrap64 (j + 1), rfl, ⟨i + 1, ?_, ?_, ?_, ?_⟩, HB⟩
            · have := HJ.out; have := HW.out; omega
            · have := HJ.out; omega
            · have := HJ.out; omega
            · rw [HE.out]; have := HO.out; omega
        · have n95 : (((c.toNat : Nat) : Int) != 95) = true := by
            rw [bne_iff_ne]
            intro h
            exact h95 (UInt8.toNat.inj (by show c.toNat = 95; omega))
          cases hkp : inB c with
          | true =>
            rw [hkp, if_pos rfl] at hO
            rw [hkp] at HN
            have HO := Aside0.mk hO
            clear hO h95
            go_wp2_with (go_at_call 37; (try rw [hq]); (refine (HN.out _).mono ?_); rintro e w7 ⟨rfl, hbl⟩; have NB := Aside0.mk (below_step HB.out hbl); clear hbl)
            go_roundg kq
            case measure => have := HJ.out; omega
            case rel =>
              refine ⟨wrap64 (j + 1), rfl, ⟨i + 1, ?_, ?_, ?_, ?_⟩, NB⟩
              · have := HJ.out; have := HW.out; omega
              · have := HJ.out; omega
              · have := HJ.out; omega
              · rw [HE.out]; have := HO.out; omega
          | false =>
            rw [hkp, if_neg Bool.false_ne_true] at hO
            rw [hkp] at HN
            have HO := Aside0.mk hO
            clear hO h95
            go_wp2_with (go_at_call 37; (try rw [hq]); (refine (HN.out _).mono ?_); rintro e w7 ⟨rfl, hbl⟩; have NB := Aside0.mk (below_step HB.out hbl); clear hbl)
            repeat (go_quiet (fail); try go_wp2)
            go_ret2
            have e0 : j.toNat = res := by have := HJ.out; have := HO.out; omega
            exact ⟨by rw [← e0]; rfl, pw_below_drewN NB.out _⟩
      · have hg : decide (j < (s.size : Int)) = false := decide_eq_false (by omega)
        have hz : s.data.toList.drop i = [] := List.drop_eq_nil_of_le (by rw [← Lib.size_eq]; omega)
        rw [hz, runN] at hO
        have HO : Aside0 (s.size = res) := ⟨by omega⟩
        clear hij hi hk hO hlt hz
        go_wp2
        go_ret2
        refine ⟨?_, HB.out⟩
        rw [← HO.out, ByteArray.extract_zero_size]
        have e1 : s.extract s.size s.size = ⟨#[]⟩ := ByteArray.ext (Array.toList_inj.1 (by rw [ByteArray.data_extract, Array.toList_extract, List.extract_eq_take_drop, Nat.sub_self, List.take_zero]))
        rw [e1]
        rfl
end Go.Proofs.YtfojidcbcpkpmaaGreatDoor
end
section
set_option linter.unusedVariables false
namespace Go.Proofs.YtfojidcbcpkpmaaGreatDoor
open Go Go.RowKit Go.Lib Go.Proofs.YtfojidcbcpkpmaaGreatDoorW.PrintWords Go.Proofs.YtfojidcbcpkpmaaGreatDoorW.PrintLast Go.Proofs.YtfojidcbcpkpmaaGreatDoorW.PrintMore Go.Proofs.YtfojidcbcpkpmaaGreatDoor.P
def KF : Kd Nat := Kd.scalar fnV (fun _ => rfl)
def skipS (s : ByteArray) : ByteArray := ⟨(Lib.trimLeftB s.data.toList 32).toArray⟩
def cutS (s p : ByteArray) : ByteArray := ⟨(Lib.trimPrefix s.data.toList p.data.toList).toArray⟩
def hasS (s p : ByteArray) : Bool := Lib.hasPrefix s.data.toList p.data.toList
def wordN (s : ByteArray) : Nat := runN inB s.data.toList
def takeS (s : ByteArray) : ByteArray := s.extract 0 (wordN s)
def restS (s : ByteArray) : ByteArray := s.extract (wordN s) s.size
theorem skip_calls (s : ByteArray) (w : World) : Calls Tryz.prog 35 #[.string s, .string ⟨#[32]⟩] w fun e w' => e = .returned (.string (skipS s)) ∧ w' = w := Tryz.strings_TrimLeft_one s 32 (by decide) w
theorem cutp_calls (s p : ByteArray) (w : World) : Calls Tryz.prog 34 #[.string s, .string p] w fun e w' => e = .returned (.tuple #[.string (cutS s p), .bool (hasS s p)]) ∧ w' = w := Tryz.strings_CutPrefix s p w
theorem skipS_size (s : ByteArray) : (skipS s).size ≤ s.size := by
  rw [Lib.size_eq, Lib.size_eq]
  exact (List.dropWhile_sublist _).length_le
theorem cutS_size (s p : ByteArray) : (cutS s p).size ≤ s.size := by
  rw [Lib.size_eq, Lib.size_eq]
  show (Lib.trimPrefix s.data.toList p.data.toList).length ≤ _
  unfold Lib.trimPrefix
  split
  · rw [List.length_drop]; omega
  · exact Nat.le_refl _
theorem restS_size (s : ByteArray) : (restS s).size ≤ s.size := by
  unfold restS; rw [ByteArray.size_extract]; omega
theorem takeS_size (s : ByteArray) : (takeS s).size ≤ s.size := by
  unfold takeS; rw [ByteArray.size_extract]; omega
theorem cut_has (s p : ByteArray) (hp : 0 < p.size) (h : hasS s p = true) : (cutS s p).size < s.size := by
  have : (cutS s p).data.toList = s.data.toList.drop p.data.toList.length := by
    show Lib.trimPrefix s.data.toList p.data.toList = _
    unfold Lib.trimPrefix
    exact if_pos h
  have hl : p.data.toList.length ≤ s.data.toList.length := (List.isPrefixOf_iff_prefix.1 h).length_le
  rw [Lib.size_eq, this, List.length_drop, Lib.size_eq s]
  rw [Lib.size_eq] at hp
  omega
abbrev barT : ByteArray := ⟨#[124]⟩
abbrev dotT : ByteArray := ⟨#[46]⟩
abbrev shutT : ByteArray := ⟨#[125, 125]⟩
def lineL : List UInt8 := [95, 95, 108, 105, 110, 101, 95, 95]
/-- The functions behind a field's name, from left to right, and what stands behind them. -/
def loopR : Nat → ByteArray → List Nat → Option (List Nat × ByteArray)
  | 0, _, _ => none
  | k + 1, s, fs => if hasS (skipS s) barT = true then
      match fnNamed (takeS (skipS (cutS (skipS s) barT))).data.toList with
      | none => none
      | some f => loopR k (restS (skipS (cutS (skipS s) barT))) (fs ++ [f])
    else some (fs, cutS (skipS s) barT)
def readN (s : ByteArray) : Option ByteArray :=
  if hasS (skipS s) dotT = true then (if isNameP (takeS (cutS (skipS s) dotT)).data.toList = true then some (takeS (cutS (skipS s) dotT)) else none)
  else if (takeS (cutS (skipS s) dotT)).data.toList = lineL then some ⟨#[]⟩ else none
def finP (nm : ByteArray) : Option (List Nat × ByteArray) → Option (ByteArray × List Nat × ByteArray)
  | none => none
  | some (fs, t) => if hasS t shutT = true then some (nm, fs, cutS t shutT) else none
def readP (s : ByteArray) : Option (ByteArray × List Nat × ByteArray) :=
  match readN s with
  | none => none
  | some nm => finP nm (loopR (s.size + 1) (restS (cutS (skipS s) dotT)) [])
def ReadPost (B : Nat) (r : Option (ByteArray × List Nat × ByteArray)) (e : Ending) (w' : World) : Prop :=
  match r with
  | some (nm, fs, t) => ∃ A c, e = .returned (.tuple #[.agg #[.string nm, .slice A fs.length c], .string t, .bool true]) ∧ KF.R 33 w' B (fun k => k ≠ B) (.slice A fs.length c) fs
  | none => ∃ x A n c t, e = .returned (.tuple #[.agg #[.string x, .slice A n c], .string t, .bool false])
theorem info_fn : (Tryz.prog.info? 33).map (fun i => (i.zero, i.size, i.bytes)) = some (some .nilFunc, 1, 8) := by kernel_rfl
theorem box2 {w : World} {g t : Nat} {a b : Value} (h : w.heap[g]? = some (.cells #[a, b] t (0, 0))) : w.cell? ⟨g, 0, none⟩ = some a ∧ w.frozen? ⟨g, 0, none⟩ = false ∧ w.cell? ⟨g, 1, none⟩ = some b ∧ w.frozen? ⟨g, 1, none⟩ = false ∧
    (∀ v, (w.setCell ⟨g, 0, none⟩ v).cell? ⟨g, 1, none⟩ = some b) ∧ ∀ v, (w.setCell ⟨g, 0, none⟩ v).frozen? ⟨g, 1, none⟩ = false :=
  ⟨blk_cell h 0, blk_frozen h 0, blk_cell h 1, blk_frozen h 1, fun v => blk_cell (blk_put h 0 v rfl) 1, fun v => blk_frozen (blk_put h 0 v rfl) 1⟩
set_option maxRecDepth 100000 in
set_option maxHeartbeats 8000000 in
theorem read_calls (s : ByteArray) (hs : s.size ≤ 4294967000) (w : World) (hG : Aside0 (G w)) :
    Calls Tryz.prog 22 #[.string s] w fun e w' => ReadPost w.heap.size (readP s) e w' ∧ Below w.heap.size w w' := by
  obtain ⟨s1, h1⟩ : ∃ s1, skipS s = s1 := ⟨_, rfl⟩
  obtain ⟨s2, h2⟩ : ∃ s2, cutS s1 dotT = s2 := ⟨_, rfl⟩
  obtain ⟨d, hd⟩ : ∃ d, hasS s1 dotT = d := ⟨_, rfl⟩
  obtain ⟨nm, hnm⟩ : ∃ nm, takeS s2 = nm := ⟨_, rfl⟩
  obtain ⟨s3, h3⟩ : ∃ s3, restS s2 = s3 := ⟨_, rfl⟩
  have z1 := skipS_size s
  have z2 := cutS_size s1 dotT
  have z3 := restS_size s2
  have z4 := takeS_size s2
  rw [h1] at z1
  rw [h2] at z2
  rw [h3] at z3
  rw [hnm] at z4
  have C1 := Aside0.mk (fun W => skip_calls s W)
  have C2 := Aside0.mk (fun W => cutp_calls s1 dotT W)
  have C3 := Aside0.mk (fun W => word_calls s2 (by omega) W)
  have C4 := Aside0.mk (fun W => isName_calls nm (by omega) W)
  rw [h1] at C1
  rw [h2, hd] at C2
  have e3 : s2.extract 0 (runN inB s2.data.toList) = nm := hnm
  have e4 : s2.extract (runN inB s2.data.toList) s2.size = s3 := h3
  rw [e3, e4] at C3
  have hR : readP s = match (if d = true then (if isNameP nm.data.toList = true then some nm else none) else if nm.data.toList = lineL then some ⟨#[]⟩ else none) with
      | none => none
      | some nm => finP nm (loopR (s.size + 1) s3 []) := by
    unfold readP readN
    rw [h1, h2, hd, hnm, h3]
  have hz3 : s3.size ≤ s.size := by omega
  clear e3 e4 h1 h2 h3 hd hnm z1 z2 z3 z4
  rw [hR]
  clear hR
  obtain ⟨N, hN⟩ : ∃ N, s.size = N := ⟨_, rfl⟩
  rw [hN] at hz3 ⊢
  have HN := Aside0.mk (And.intro hz3 (hN ▸ hs))
  clear hz3 hN hs
  obtain ⟨b1, hb1⟩ : ∃ b, isNameP nm.data.toList = b := ⟨_, rfl⟩
  rw [hb1] at C4 ⊢
  clear hb1
  obtain ⟨gb, hgb⟩ : ∃ gb, w.heap.size = gb := ⟨_, rfl⟩
  obtain ⟨W1, hW1⟩ : ∃ W1, w.alloc (.cells #[.string ⟨#[]⟩, .slice none 0 0] 62) = W1 := ⟨_, rfl⟩
  have BK1 : Aside0 (W1.heap[gb]? = some (.cells #[.string ⟨#[]⟩, .slice none 0 0] 62 (0, 0))) := ⟨by rw [← hW1, ← hgb]; exact blk_new _ _⟩
  have HB1 : Aside0 (Below w.heap.size w W1) := ⟨by rw [← hW1]; exact below_alloc (Below.refl _ _) _⟩
  have HGB := Aside0.mk hgb
  obtain ⟨nm2, hnm2⟩ : ∃ o : Option ByteArray, (if d = true then (if b1 = true then some nm else none) else if nm.data.toList = lineL then some ⟨#[]⟩ else none) = o := ⟨_, rfl⟩
  rw [hnm2]
  cases nm2 with
  | none =>
    cases d with
    | true =>
      have hb1 : b1 = false := by cases b1 with
        | true => simp at hnm2
        | false => rfl
      subst hb1
      clear hnm2
      go_enter Tryz.func22, Tryz.ntmps22
      go_wp2_with (first | (go_at_call 35; (with_reducible refine (C1.out _).mono ?_); rintro e w1 ⟨rfl, rfl⟩) | (go_at_call 34; (with_reducible refine (C2.out _).mono ?_); rintro e w1 ⟨rfl, rfl⟩) | (go_at_call 36; (with_reducible refine (C3.out _).mono ?_); rintro e w2 ⟨rfl, hb2⟩; have HB2 := Aside0.mk (below_step HB1.out hb2); have BK2 := Aside0.mk (blk_below BK1.out hb2); clear hb2) | (go_at_call 37; (with_reducible refine (C4.out _).mono ?_); rintro e w3 ⟨rfl, hb3⟩; have HB3 := Aside0.mk (below_step HB2.out hb3); have BK3 := Aside0.mk (blk_below BK2.out hb3); clear hb3; obtain ⟨q1, q2, q3, q4, q5, q6⟩ := box2 BK3.out))
      refine bodyPost_ret (results_ctt rfl _ _ gb 62 #[.string ⟨#[]⟩, .slice none 0 0] (0, 0) _ rfl (blk_put (blk_put BK3.out 0 _ rfl) 1 _ rfl) Tryz.underlying62 rfl (by kernel_rfl)) rfl ?_
      have hle := Nat.le_of_eq HGB.out
      have hB := below_set (j := 1) (v := .slice none 0 0) (below_set (j := 0) (v := .string ⟨#[]⟩) HB3.out hle) hle
      exact ⟨⟨_, _, _, _, _, rfl⟩, hB⟩
    | false =>
      have hne : ¬ nm.data.toList = lineL := fun h => by rw [if_neg Bool.false_ne_true, if_pos h] at hnm2; cases hnm2
      rw [← ByteArray.toList_eq] at hne
      have n1 : (nm.toList == ([95, 95, 108, 105, 110, 101, 95, 95] : List UInt8)) = false := beq_eq_false_iff_ne.2 hne
      have n2 : (nm.toList != ([95, 95, 108, 105, 110, 101, 95, 95] : List UInt8)) = true := bne_iff_ne.2 hne
      clear hne hnm2
      go_enter Tryz.func22, Tryz.ntmps22
      go_wp2_with (first | (go_at_call 35; (with_reducible refine (C1.out _).mono ?_); rintro e w1 ⟨rfl, rfl⟩) | (go_at_call 34; (with_reducible refine (C2.out _).mono ?_); rintro e w1 ⟨rfl, rfl⟩) | (go_at_call 36; (with_reducible refine (C3.out _).mono ?_); rintro e w2 ⟨rfl, hb2⟩; have HB3 := Aside0.mk (below_step HB1.out hb2); have BK3 := Aside0.mk (blk_below BK1.out hb2); clear hb2; obtain ⟨q1, q2, q3, q4, q5, q6⟩ := box2 BK3.out))
      refine bodyPost_ret (results_ctt rfl _ _ gb 62 #[.string ⟨#[]⟩, .slice none 0 0] (0, 0) _ rfl (blk_put (blk_put BK3.out 0 _ rfl) 1 _ rfl) Tryz.underlying62 rfl (by kernel_rfl)) rfl ?_
      have hle := Nat.le_of_eq HGB.out
      have hB := below_set (j := 1) (v := .slice none 0 0) (below_set (j := 0) (v := .string ⟨#[]⟩) HB3.out hle) hle
      exact ⟨⟨_, _, _, _, _, rfl⟩, hB⟩
  | some fn0 =>
    obtain ⟨R, hRR⟩ : ∃ R, loopR (N + 1) s3 [] = R := ⟨_, rfl⟩
    simp only []
    rw [hRR]
    have HRR := Aside0.mk hRR
    have hor : (d = true ∧ b1 = true ∧ nm = fn0) ∨ (d = false ∧ nm.data.toList = lineL ∧ (⟨#[]⟩ : ByteArray) = fn0) := by
      cases d with
      | true =>
        cases b1 with
        | true => exact .inl ⟨rfl, rfl, by simpa using hnm2⟩
        | false => simp at hnm2
      | false =>
        rw [if_neg Bool.false_ne_true] at hnm2
        by_cases h : nm.data.toList = lineL
        · rw [if_pos h] at hnm2; exact .inr ⟨rfl, h, Option.some.inj hnm2⟩
        · rw [if_neg h] at hnm2; cases hnm2
    clear hnm2 hRR
    have hle : gb ≤ gb := Nat.le_refl _
    rcases hor with ⟨hd, hb, hf⟩ | ⟨hd, hl, hf⟩
    case' inl =>
      subst hd
      subst hb
      have HF := Aside0.mk hf
      clear hf
      go_enter Tryz.func22, Tryz.ntmps22
      go_wp2_with (first | (go_at_call 35; (with_reducible refine (C1.out _).mono ?_); rintro e w1 ⟨rfl, rfl⟩) | (go_at_call 34; (with_reducible refine (C2.out _).mono ?_); rintro e w1 ⟨rfl, rfl⟩) | (go_at_call 36; (with_reducible refine (C3.out _).mono ?_); rintro e w2 ⟨rfl, hb2⟩; have HB2 := Aside0.mk (below_step HB1.out hb2); have BK2 := Aside0.mk (blk_below BK1.out hb2); clear hb2) | (go_at_call 37; (with_reducible refine (C4.out _).mono ?_); rintro e w3 ⟨rfl, hb3⟩; have HB3 := Aside0.mk (below_step HB2.out hb3); have BK3 := Aside0.mk (blk_below BK2.out hb3); clear hb3; obtain ⟨q1, q2, q3, q4, q5, q6⟩ := box2 BK3.out))
      have BK : Aside0 ((w3.setCell ⟨gb, 0, none⟩ (.string nm)).heap[gb]? = some (.cells #[.string fn0, .slice none 0 0] 62 (0, 0))) := ⟨by
        have := blk_put (cs' := #[.string nm, .slice none 0 0]) BK3.out 0 (.string nm) rfl
        rw [HF.out] at this ⊢
        exact this⟩
      have HBK := Aside0.mk (below_set (j := 0) (v := .string nm) HB3.out (Nat.le_of_eq HGB.out))
      clear q1 q2 q3 q4 q5 q6 BK1 BK2 BK3 HB1 HB2 HB3 HF C1 C2 C3 C4
    case' inr =>
      subst hd
      have n1 : (nm.toList == ([95, 95, 108, 105, 110, 101, 95, 95] : List UInt8)) = true := beq_iff_eq.2 (by rw [ByteArray.toList_eq]; exact hl)
      have n2 : (nm.toList != ([95, 95, 108, 105, 110, 101, 95, 95] : List UInt8)) = false := bne_eq_false_iff_eq.2 (by rw [ByteArray.toList_eq]; exact hl)
      have HF := Aside0.mk hf
      clear hf hl
      go_enter Tryz.func22, Tryz.ntmps22
      go_wp2_with (first | (go_at_call 35; (with_reducible refine (C1.out _).mono ?_); rintro e w1 ⟨rfl, rfl⟩) | (go_at_call 34; (with_reducible refine (C2.out _).mono ?_); rintro e w1 ⟨rfl, rfl⟩) | (go_at_call 36; (with_reducible refine (C3.out _).mono ?_); rintro e w2 ⟨rfl, hb2⟩; have HBK := Aside0.mk (below_step HB1.out hb2); have BK3 := Aside0.mk (blk_below BK1.out hb2); clear hb2))
      rw [HF.out] at BK3
      have BK := BK3
      clear BK1 BK3 HB1 HF C1 C2 C3 C4 n1 n2
    all_goals
      go_loopg [0] (N + 1) (fun kq v0 wr => ∃ (x : ByteArray), v0 = .string x ∧ Aside0 (x.size ≤ N ∧ x.size < kq) ∧ Aside0 (∃ (fs : List Nat) (v : Value), wr.heap[gb]? = some (.cells #[.string fn0, v] 62 (0, 0)) ∧ KF.R 33 wr gb (fun k => k ≠ gb) v fs ∧ fs.length + x.size ≤ N ∧ loopR kq x fs = R) ∧ Aside0 (Below w.heap.size w wr))
      case atStart => exact ⟨s3, rfl, ⟨by have := HN.out; omega, by have := HN.out; omega⟩, ⟨[], .slice none 0 0, BK.out, Kd.R_nil _ _ _ _ _, by have := HN.out; simp; omega, HRR.out⟩, HBK⟩
      case round =>
        clear BK HBK HRR
        obtain ⟨x, rfl, ⟨hxN, hxk⟩, ⟨fs, v, hbk, hrow, hfN, hlR⟩, HB⟩ := hrel
        cases gk with
        | zero => exact absurd hxk (by omega)
        | succ kq =>
          rw [loopR] at hlR
          obtain ⟨x1, h1⟩ : ∃ x1, skipS x = x1 := ⟨_, rfl⟩
          obtain ⟨x2, h2⟩ : ∃ x2, cutS x1 barT = x2 := ⟨_, rfl⟩
          obtain ⟨bar, hbar⟩ : ∃ b, hasS x1 barT = b := ⟨_, rfl⟩
          rw [h1, hbar, h2] at hlR
          have z1 := skipS_size x
          have z2 := cutS_size x1 barT
          have z2b : bar = true → x2.size < x1.size := fun h => by rw [← h2]; exact cut_has x1 barT (by decide) (hbar.trans h)
          rw [h1] at z1
          rw [h2] at z2
          have D1 := Aside0.mk (fun W => skip_calls x W)
          have D2 := Aside0.mk (fun W => cutp_calls x1 barT W)
          rw [h1] at D1
          rw [h2, hbar] at D2
          clear h1 h2 hbar
          cases bar with
          | false =>
            rw [if_neg Bool.false_ne_true] at hlR
            subst hlR
            obtain ⟨t, ht⟩ : ∃ t, cutS x2 shutT = t := ⟨_, rfl⟩
            obtain ⟨b, hb⟩ : ∃ b, hasS x2 shutT = b := ⟨_, rfl⟩
            have D3 := Aside0.mk (fun W => cutp_calls x2 shutT W)
            rw [ht, hb] at D3
            have hfin : finP fn0 (some (fs, x2)) = if b = true then some (fn0, fs, t) else none := by rw [← ht, ← hb]; rfl
            obtain ⟨A, c, rfl⟩ := Kd.R_slice hrow
            obtain ⟨q1, q2, q3, q4, q5, q6⟩ := box2 hbk
            have HK := Aside0.mk hbk
            have HR := Aside0.mk hrow
            clear ht hb hbk hrow hxN hxk hfN z1 z2 z2b
            go_wp2_with (first | (go_at_call 35; (with_reducible refine (D1.out _).mono ?_); rintro e w1 ⟨rfl, rfl⟩) | (go_at_call 34; (with_reducible refine (D2.out _).mono ?_); rintro e w1 ⟨rfl, rfl⟩) | (go_at_call 34; (with_reducible refine (D3.out _).mono ?_); rintro e w1 ⟨rfl, rfl⟩))
            refine bodyPost_ret (results_ctt rfl _ _ gb 62 #[.string fn0, .slice A fs.length c] (0, 0) _ rfl (blk_put (blk_put HK.out 0 _ rfl) 1 _ rfl) Tryz.underlying62 rfl (by kernel_rfl)) rfl ?_
            rw [hfin]
            have hle2 := Nat.le_of_eq HGB.out
            have hB := below_set (j := 1) (v := .slice A fs.length c) (below_set (j := 0) (v := .string fn0) HB.out hle2) hle2
            cases b with
            | true =>
              have hr2 := Kd.R_far (p := ⟨gb, 1, none⟩) (Kd.R_far (p := ⟨gb, 0, none⟩) HR.out (fun _ h => h) (.string fn0)) (fun _ h => h) (.slice A fs.length c)
              have hg := HGB.out
              refine ⟨⟨A, c, rfl, ?_⟩, hB⟩
              rw [hg]
              exact hr2
            | false => exact ⟨⟨_, _, _, _, _, rfl⟩, hB⟩
          | true =>
            rw [if_pos rfl] at hlR
            obtain ⟨u, hu⟩ : ∃ u, skipS x2 = u := ⟨_, rfl⟩
            obtain ⟨q, hq⟩ : ∃ q, takeS u = q := ⟨_, rfl⟩
            obtain ⟨r, hr⟩ : ∃ r, restS u = r := ⟨_, rfl⟩
            obtain ⟨o, ho⟩ : ∃ o, fnNamed q.data.toList = o := ⟨_, rfl⟩
            have y1 := skipS_size x2
            have y2 := restS_size u
            have y3 := takeS_size u
            rw [hu] at hlR y1
            rw [hq] at hlR y3
            rw [hr] at hlR y2
            rw [ho] at hlR
            have hz := z2b rfl
            have hxn := HN.out.2
            have D3 := Aside0.mk (fun W => skip_calls x2 W)
            have D4 := Aside0.mk (fun W => word_calls u (by omega) W)
            have e3 : u.extract 0 (runN inB u.data.toList) = q := hq
            have e4 : u.extract (runN inB u.data.toList) u.size = r := hr
            rw [hu] at D3
            rw [e3, e4] at D4
            have HQ : Aside0 (q.size ≤ 1099511627776) := ⟨by omega⟩
            have HS : Aside0 (r.size + 1 ≤ x.size ∧ x.size ≤ N ∧ x.size < kq + 1 ∧ fs.length + x.size ≤ N) := ⟨by omega⟩
            obtain ⟨A, c, rfl⟩ := Kd.R_slice hrow
            have HK := Aside0.mk hbk
            have HR := Aside0.mk hrow
            have HO := Aside0.mk ho
            have HL := Aside0.mk hlR
            clear ho hlR hu hq hr e3 e4 y1 y2 y3 z1 z2 z2b hz hbk hrow hxN hxk hfN hxn
            cases o with
            | none =>
              go_wp2_with (first | (go_at_call 35; (with_reducible refine (D1.out _).mono ?_); rintro e w1 ⟨rfl, rfl⟩) | (go_at_call 34; (with_reducible refine (D2.out _).mono ?_); rintro e w1 ⟨rfl, rfl⟩) | (go_at_call 35; (with_reducible refine (D3.out _).mono ?_); rintro e w1 ⟨rfl, rfl⟩) | (go_at_call 36; (with_reducible refine (D4.out _).mono ?_); rintro e w4 ⟨rfl, hb4⟩; have HB4 := Aside0.mk (below_step HB.out hb4); have HK4 := Aside0.mk (blk_below HK.out hb4); clear hb4; obtain ⟨q1, q2, q3, q4, q5, q6⟩ := box2 HK4.out; obtain ⟨bm, ob, hc, hob, hl⟩ := (G.at hG.out HB4.out).out.fns; obtain ⟨zz, hlk⟩ := hl _ hob q HQ.out; rw [HO.out] at hlk; simp only [Option.map_none, Option.getD_none, Option.isSome_none] at hlk; clear hl hob))
              refine bodyPost_ret (results_ctt rfl _ _ gb 62 #[.string ⟨#[]⟩, .slice none 0 0] (0, 0) _ rfl (blk_put (blk_put HK4.out 0 _ rfl) 1 _ rfl) Tryz.underlying62 rfl (by kernel_rfl)) rfl ?_
              have hle2 := Nat.le_of_eq HGB.out
              have hB := below_set (j := 1) (v := .slice none 0 0) (below_set (j := 0) (v := .string ⟨#[]⟩) HB4.out hle2) hle2
              have hR0 : R = none := HL.out.symm
              rw [hR0]
              exact ⟨⟨_, _, _, _, _, rfl⟩, hB⟩
            | some f =>
              go_wp2_with (first | (go_at_call 35; (with_reducible refine (D1.out _).mono ?_); rintro e w1 ⟨rfl, rfl⟩) | (go_at_call 34; (with_reducible refine (D2.out _).mono ?_); rintro e w1 ⟨rfl, rfl⟩) | (go_at_call 35; (with_reducible refine (D3.out _).mono ?_); rintro e w1 ⟨rfl, rfl⟩) | (go_at_call 36; (with_reducible refine (D4.out _).mono ?_); rintro e w4 ⟨rfl, hb4⟩; have HB4 := Aside0.mk (below_step HB.out hb4); have HK4 := Aside0.mk (blk_below HK.out hb4); have HR4 := Aside0.mk (Kd.R_below HR.out hb4); clear hb4; obtain ⟨q1, q2, q3, q4, q5, q6⟩ := box2 HK4.out; obtain ⟨bm, ob, hc, hob, hl⟩ := (G.at hG.out HB4.out).out.fns; obtain ⟨zz, hlk⟩ := hl _ hob q HQ.out; rw [HO.out] at hlk; simp only [Option.map_some, Option.getD_some, Option.isSome_some, fnV] at hlk; clear hl hob) | ((with_reducible refine gate_builtin (b := .append) (xs := #[.tmp 59, .tmp 61]) rfl ?_); at_builtin; refine Kd.R_append KF (w0 := w) gb rfl (.tmp 59) (.tmp 61) 60 33 .nilFunc 8 rfl Tryz.underlying60 info_fn rfl (by decide) (by omega) (.slice A fs.length c) fs f [.func (.func f) #[] #[]] (fun k => k ≠ gb) (fun _ => False) rfl (by first | (go_simp; done) | (go_simp; rfl)) ?aP (fun _ hk => hk.elim) ?aF ?aO ?aB ?aS ?aL ?_; (case aP => rfl); (case aF => exact Kd.freshB HK4.out); (case aO => exact HR4.out); (case aB => have := HB4.out; rw [HGB.out] at this; exact this); (case aS => have := below_size HB4.out; rw [HGB.out] at this; exact this); (case aL => have := HS.out; have := HN.out; omega); intro v5 w5 ho5 hb5 hg5 hat5; obtain ⟨A5, c5, rfl⟩ := Kd.R_slice ho5; have HK5 := Aside0.mk (blk_grown HK4.out hg5 (Kd.R_away HR4.out (fun _ h => h))); have HB5 := Aside0.mk hb5; have HR5 := Aside0.mk ho5; clear ho5 hb5 hg5 hat5 q1 q2 q3 q4 q5 q6; obtain ⟨q1, q2, q3, q4, q5, q6⟩ := box2 HK5.out))
              go_roundg kq
              case measure => have := HS.out; omega
              case rel =>
                have hb := HB5.out
                rw [← HGB.out] at hb
                have hs5 := HS.out
                have hl5 : (fs ++ [f]).length = fs.length + 1 := by rw [List.length_append]; rfl
                refine ⟨r, rfl, ⟨by omega, by omega⟩, ⟨fs ++ [f], .slice A5 (fs ++ [f]).length c5, ?_, ?_, by omega, HL.out⟩, ⟨below_set hb (Nat.le_of_eq HGB.out)⟩⟩
                · exact blk_put HK5.out 1 _ (by rw [hl5]; rfl)
                · exact Kd.R_far (p := ⟨gb, 1, none⟩) HR5.out (fun _ h => h) _
end Go.Proofs.YtfojidcbcpkpmaaGreatDoor
end
section
set_option linter.unusedVariables false
namespace Go.Proofs.YtfojidcbcpkpmaaGreatDoor
open Go Go.RowKit Go.Lib Go.Proofs.YtfojidcbcpkpmaaGreatDoorW.PrintWords Go.Proofs.YtfojidcbcpkpmaaGreatDoorW.PrintLast Go.Proofs.YtfojidcbcpkpmaaGreatDoorW.PrintMore Go.Proofs.YtfojidcbcpkpmaaGreatDoor.P
/-- A piece as1 it lies in memory; a piece as1 it is meant. -/
abbrev Pc := ByteArray ⊕ (ByteArray × Value)
abbrev PcP := ByteArray ⊕ (ByteArray × List Nat)
def pcV : Pc → Value
  | .inl s => .iface 59 (.string s)
  | .inr (n, fv) => .iface 62 (.agg #[.string n, fv])
def KP : Kd Pc := Kd.scalar pcV (fun x => by cases x <;> rfl)
def PcOk (w : World) (gb : Nat) : Pc → PcP → Prop
  | .inl s, .inl t => s = t
  | .inr (n, fv), .inr (m, fs) => n = m ∧ KF.R 33 w gb (fun k => k ≠ gb) fv fs
  | _, _ => False
def PcsOk (w : World) (gb : Nat) : List Pc → List PcP → Prop
  | [], [] => True
  | m :: ms, p :: ps => PcOk w gb m p ∧ PcsOk w gb ms ps
  | _, _ => False
theorem PcOk.step {w w' : World} {gb : Nat} (hs : ∀ v fs, KF.R 33 w gb (fun k => k ≠ gb) v fs → KF.R 33 w' gb (fun k => k ≠ gb) v fs) : ∀ {m : Pc} {p : PcP}, PcOk w gb m p → PcOk w' gb m p
  | .inl s, .inl t, h => h
  | .inr (n, fv), .inr (m, fs), h => ⟨h.1, hs _ _ h.2⟩
  | .inl _, .inr _, h => h.elim
  | .inr _, .inl _, h => h.elim
theorem PcsOk.step {w w' : World} {gb : Nat} (hs : ∀ v fs, KF.R 33 w gb (fun k => k ≠ gb) v fs → KF.R 33 w' gb (fun k => k ≠ gb) v fs) : ∀ {ms : List Pc} {ps : List PcP}, PcsOk w gb ms ps → PcsOk w' gb ms ps
  | [], [], h => h
  | m :: ms, p :: ps, h => ⟨PcOk.step hs h.1, PcsOk.step hs h.2⟩
  | [], _ :: _, h => h.elim
  | _ :: _, [], h => h.elim
theorem PcsOk.below {w w' : World} {gb : Nat} {ms : List Pc} {ps : List PcP} (h : PcsOk w gb ms ps) (hb : Below w.heap.size w w') : PcsOk w' gb ms ps := h.step fun _ _ hr => Kd.R_below hr hb
theorem PcsOk.app {w : World} {gb : Nat} : ∀ {ms : List Pc} {ps : List PcP} {m : Pc} {p : PcP}, PcsOk w gb ms ps → PcOk w gb m p → PcsOk w gb (ms ++ [m]) (ps ++ [p])
  | [], [], m, p, h, h2 => ⟨h2, trivial⟩
  | x :: ms, y :: ps, m, p, h, h2 => ⟨h.1, PcsOk.app h.2 h2⟩
  | [], _ :: _, _, _, h, _ => h.elim
  | _ :: _, [], _, _, h, _ => h.elim
theorem PcsOk.len {w : World} {gb : Nat} : ∀ {ms : List Pc} {ps : List PcP}, PcsOk w gb ms ps → ms.length = ps.length
  | [], [], h => rfl
  | x :: ms, y :: ps, h => by rw [List.length_cons, List.length_cons, PcsOk.len h.2]
  | [], _ :: _, h => h.elim
  | _ :: _, [], h => h.elim
abbrev openT : ByteArray := ⟨#[123, 123]⟩
def cA (s : ByteArray) : ByteArray := ⟨(Lib.cut s.data.toList openT.data.toList).1.toArray⟩
def cB (s : ByteArray) : ByteArray := ⟨(Lib.cut s.data.toList openT.data.toList).2.1.toArray⟩
def cM (s : ByteArray) : Bool := (Lib.cut s.data.toList openT.data.toList).2.2
def newL : Nat → ByteArray → List PcP → Option (Option (List PcP))
  | 0, _, _ => none
  | k + 1, s, acc => if s.size ≤ 4294967000 ∧ (cB s).size ≤ 4294967000 ∧ acc.length ≤ 10000 then
      (if cM s = true then
        match readP (cB s) with
        | none => some none
        | some (nm, fs, t) => newL k t (acc ++ [.inl (cA s)] ++ [.inr (nm, fs)])
      else some (some (acc ++ [.inl (cA s)])))
    else none
def newF (s : ByteArray) : Option (Option (List PcP)) := if s.size > 1024 then some none else newL (s.size + 2) s []
theorem cutO_calls (s : ByteArray) (w : World) (hG : Aside0 (G w)) (hs : s.size ≤ 4294967000) :
    Calls Tryz.prog 21 #[.string s, .string openT] w fun e w' => e = .returned (.tuple #[.string (cA s), .string (cB s), .bool (cM s)]) ∧ Below w.heap.size w w' := cut_calls s openT w hG (by omega)
def NewPost (B : Nat) (r : Option (List PcP)) (e : Ending) (w' : World) : Prop :=
  match r with
  | some ps => ∃ gb ms A c, e = .returned (.tuple #[.pointer (some ⟨gb, 0, none⟩), .int .i64 0]) ∧ B ≤ gb ∧ w'.heap[gb]? = some (.cells #[.slice A ms.length c] 57 (0, 0)) ∧ KP.R 66 w' gb (fun k => k ≠ gb) (.slice A ms.length c) ms ∧ PcsOk w' gb ms ps
  | none => e = .returned (.tuple #[.pointer none, .int .i64 190])
theorem info_piece : (Tryz.prog.info? 66).map (fun i => (i.zero, i.size, i.bytes)) = some (some .nilIface, 1, 16) := by kernel_rfl
theorem KF_low {w : World} {b b' : Nat} {ok : Nat → Prop} {v : Value} {fs : List Nat} (h : KF.R 33 w b ok v fs) (hb : b' ≤ b) : KF.R 33 w b' ok v fs := by
  have ho := Kd.own_of_R h
  refine Kd.R_of_own ⟨ho.1, ho.2.imp id ?_⟩ h.1
  rintro ⟨g, cap, cur, h1, h2, h3⟩
  exact ⟨g, cap, cur, h1, Nat.le_trans hb h2, h3⟩
theorem rows_apart {w w5 : World} {gb : Nat} {ok ok' : Nat → Prop} {v fv : Value} {ms : List Pc} {fs : List Nat} (h : KF.R 33 w gb ok fv fs) (hp : KP.R 66 w gb ok' v ms) (hg : w.grownBy w5 v.ownBlock) : KF.R 33 w5 gb ok fv fs := by
  refine Kd.R_mono (Kd.R_grown (Kd.R_bound h) hg (fun k hk e => ?_)) (fun k hk => hk.1)
  obtain ⟨_, _, _, q, hq, cells, hc⟩ := hk
  have ho := Kd.own_of_R hp
  rcases ho.2 with ⟨rfl, _⟩ | ⟨g, cap, cur, rfl, _, h3, _⟩
  · cases e
  · simp only [Value.ownBlock, Option.some.injEq] at e
    subst e
    rw [hc] at h3
    have h4 : q = 66 := by injection h3 with h3; injection h3
    have h5 : q ∈ [33] := hq
    rw [List.mem_singleton.1 h5] at h4
    exact absurd h4 (by decide)
theorem PcsOk.grown {w w5 : World} {gb : Nat} {v u : Value} {ms ms' : List Pc} {ps : List PcP} (h : PcsOk w gb ms ps) (hp : KP.R 66 w gb (fun k => k ≠ gb) v ms') (hg : w.grownBy w5 v.ownBlock) : PcsOk (w5.setCell ⟨gb, 0, none⟩ u) gb ms ps :=
  h.step fun _ _ hr => Kd.R_far (p := ⟨gb, 0, none⟩) (rows_apart hr hp hg) (fun _ h => h) u
set_option maxRecDepth 100000 in
set_option maxHeartbeats 8000000 in
theorem new_calls (s : ByteArray) (R : Option (List PcP)) (hf : newF s = some R) (w : World) (hG : Aside0 (G w)) :
    Calls Tryz.prog 12 #[.string s] w fun e w' => NewPost w.heap.size R e w' ∧ Below w.heap.size w w' := by
  unfold newF at hf
  by_cases hbig : s.size > 1024
  · rw [if_pos hbig] at hf
    obtain rfl := Option.some.inj hf
    have hd : decide ((s.size : Int) > 1024) = true := decide_eq_true (by omega)
    have hd2 : decide (1024 < (s.size : Int)) = true := decide_eq_true (by omega)
    clear hf hbig
    go_enter Tryz.func12, Tryz.ntmps12
    go_wp2
    go_ret2
    exact ⟨rfl, Below.refl _ _⟩
  · rw [if_neg hbig] at hf
    have hd : decide ((s.size : Int) > 1024) = false := decide_eq_false (by omega)
    have hd2 : decide (1024 < (s.size : Int)) = false := decide_eq_false (by omega)
    obtain ⟨K, hK⟩ : ∃ K, s.size + 2 = K := ⟨_, rfl⟩
    rw [hK] at hf
    have HF := Aside0.mk hf
    clear hf hbig hK
    obtain ⟨gb, hgb⟩ : ∃ gb, w.heap.size = gb := ⟨_, rfl⟩
    obtain ⟨W1, hW1⟩ : ∃ W1, w.alloc (.cells #[.slice none 0 0] 57) = W1 := ⟨_, rfl⟩
    have BK : Aside0 (W1.heap[gb]? = some (.cells #[.slice none 0 0] 57 (0, 0))) := ⟨by rw [← hW1, ← hgb]; exact blk_new _ _⟩
    have HB1 : Aside0 (Below w.heap.size w W1) := ⟨by rw [← hW1]; exact below_alloc (Below.refl _ _) _⟩
    have HGB := Aside0.mk hgb
    go_enter Tryz.func12, Tryz.ntmps12
    go_wp2
    go_loopg [5] K (fun kq v5 wr => ∃ x : ByteArray, v5 = .string x ∧ Aside0 (∃ (ms : List Pc) (ps : List PcP) (v : Value), wr.heap[gb]? = some (.cells #[v] 57 (0, 0)) ∧ KP.R 66 wr gb (fun k => k ≠ gb) v ms ∧ PcsOk wr gb ms ps ∧ newL kq x ps = some R) ∧ Aside0 (Below w.heap.size w wr))
    case atStart => exact ⟨s, rfl, ⟨[], [], .slice none 0 0, BK.out, Kd.R_nil _ _ _ _ _, trivial, HF.out⟩, HB1⟩
    case round =>
      clear BK HB1 HF hW1
      obtain ⟨x, rfl, ⟨ms, ps, v, hbk, hrow, hps, hnl⟩, HB⟩ := hrel
      cases gk with
      | zero => cases hnl
      | succ kq =>
        rw [newL] at hnl
        by_cases hc : x.size ≤ 4294967000 ∧ (cB x).size ≤ 4294967000 ∧ ps.length ≤ 10000
        case neg => rw [if_neg hc] at hnl; cases hnl
        rw [if_pos hc] at hnl
        have D1 := Aside0.mk (cutO_calls x wr (G.at hG.out HB.out) hc.1)
        obtain ⟨a, ha⟩ : ∃ a, cA x = a := ⟨_, rfl⟩
        obtain ⟨b, hb⟩ : ∃ b, cB x = b := ⟨_, rfl⟩
        obtain ⟨more, hm⟩ : ∃ m, cM x = m := ⟨_, rfl⟩
        rw [ha, hb, hm] at hnl D1
        rw [hb] at hc
        have hlen := hps.len
        have HC : Aside0 (b.size ≤ 4294967000 ∧ ms.length ≤ 10000) := ⟨⟨hc.2.1, by omega⟩⟩
        obtain ⟨A, c, rfl⟩ := Kd.R_slice hrow
        have HK := Aside0.mk hbk
        have HR := Aside0.mk hrow
        have HP := Aside0.mk hps
        have HL := Aside0.mk hnl
        clear ha hb hm hc hlen hbk hrow hps hnl
        cases more with
        | false =>
          go_wp2_with (first | (go_at_call 21; (with_reducible refine D1.out.mono ?_); rintro e w2 ⟨rfl, hb2⟩; have HB2 := Aside0.mk (below_step HB.out hb2); have HK2 := Aside0.mk (blk_below HK.out hb2); have HR2 := Aside0.mk (Kd.R_below HR.out hb2); have HP2 := Aside0.mk (HP.out.below hb2); clear hb2; have q1 : w2.cell? ⟨gb, 0, none⟩ = some (.slice A ms.length c) := blk_cell HK2.out 0; have q2 := blk_frozen HK2.out 0) | ((with_reducible refine gate_builtin (b := .append) (xs := #[.tmp 27, .tmp 30]) rfl ?_); at_builtin; refine Kd.R_append KP (w0 := w) gb rfl (.tmp 27) (.tmp 30) 55 66 .nilIface 16 rfl Tryz.underlying55 info_piece rfl (by decide) (by omega) (.slice A ms.length c) ms (.inl a) [.iface 59 (.string a)] (fun k => k ≠ gb) (fun _ => False) rfl (by first | (go_simp; done) | (go_simp; rfl)) ?aP (fun _ hk => hk.elim) ?aF ?aO ?aB ?aS ?aL ?_; (case aP => rfl); (case aF => exact Kd.freshB HK2.out); (case aO => exact HR2.out); (case aB => have := HB2.out; rw [HGB.out] at this; exact this); (case aS => have := below_size HB2.out; rw [HGB.out] at this; exact this); (case aL => have := HC.out; omega); intro v5 w5 ho5 hb5 hg5 hat5; obtain ⟨A5, c5, rfl⟩ := Kd.R_slice ho5; have HK5 := Aside0.mk (blk_grown HK2.out hg5 (Kd.R_away HR2.out (fun _ h => h))); have HB5 := Aside0.mk hb5; have HR5 := Aside0.mk ho5; have HG5 := Aside0.mk (And.intro hg5 hat5); clear ho5 hb5 hg5 hat5 q1 q2; have q1 : w5.cell? ⟨gb, 0, none⟩ = some (.slice A ms.length c) := blk_cell HK5.out 0; have q2 := blk_frozen HK5.out 0))
          go_ret2
          have hl5 : (ms ++ [(.inl a : Pc)]).length = ms.length + 1 := by rw [List.length_append]; rfl
          have hb := HB5.out
          have hg0 := HGB.out
          rw [← hg0] at hb
          have hR0 : R = some (ps ++ [.inl a]) := by
            have := HL.out
            rw [if_neg Bool.false_ne_true] at this
            exact (Option.some.inj this).symm
          rw [hR0]
          refine ⟨⟨gb, ms ++ [.inl a], A5, c5, rfl, Nat.le_of_eq hg0, blk_put HK5.out 0 _ (by rw [hl5]; rfl), ?_, ?_⟩, below_set hb (Nat.le_of_eq hg0)⟩
          · exact Kd.R_far (p := ⟨gb, 0, none⟩) HR5.out (fun _ h => h) _
          · exact (HP2.out.grown HR2.out HG5.out.1).app rfl
        | true =>
          rw [if_pos rfl] at HL
          obtain ⟨rd0, hrd⟩ : ∃ r, readP b = r := ⟨_, rfl⟩
          rw [hrd] at HL
          have HD := Aside0.mk hrd
          clear hrd
          cases rd0 with
          | none =>
            go_wp2_with (first | (go_at_call 21; (with_reducible refine D1.out.mono ?_); rintro e w2 ⟨rfl, hb2⟩; have HB2 := Aside0.mk (below_step HB.out hb2); have HK2 := Aside0.mk (blk_below HK.out hb2); have HR2 := Aside0.mk (Kd.R_below HR.out hb2); have HP2 := Aside0.mk (HP.out.below hb2); clear hb2; have q1 : w2.cell? ⟨gb, 0, none⟩ = some (.slice A ms.length c) := blk_cell HK2.out 0; have q2 := blk_frozen HK2.out 0) | ((with_reducible refine gate_builtin (b := .append) (xs := #[.tmp 27, .tmp 30]) rfl ?_); at_builtin; refine Kd.R_append KP (w0 := w) gb rfl (.tmp 27) (.tmp 30) 55 66 .nilIface 16 rfl Tryz.underlying55 info_piece rfl (by decide) (by omega) (.slice A ms.length c) ms (.inl a) [.iface 59 (.string a)] (fun k => k ≠ gb) (fun _ => False) rfl (by first | (go_simp; done) | (go_simp; rfl)) ?aP (fun _ hk => hk.elim) ?aF ?aO ?aB ?aS ?aL ?_; (case aP => rfl); (case aF => exact Kd.freshB HK2.out); (case aO => exact HR2.out); (case aB => have := HB2.out; rw [HGB.out] at this; exact this); (case aS => have := below_size HB2.out; rw [HGB.out] at this; exact this); (case aL => have := HC.out; omega); intro v5 w5 ho5 hb5 hg5 hat5; obtain ⟨A5, c5, rfl⟩ := Kd.R_slice ho5; have HK5 := Aside0.mk (blk_grown HK2.out hg5 (Kd.R_away HR2.out (fun _ h => h))); have HB5 := Aside0.mk hb5; have HR5 := Aside0.mk ho5; have HG5 := Aside0.mk (And.intro hg5 hat5); clear ho5 hb5 hg5 hat5 q1 q2; have q1 : w5.cell? ⟨gb, 0, none⟩ = some (.slice A ms.length c) := blk_cell HK5.out 0; have q2 := blk_frozen HK5.out 0) | (go_at_call 22; (refine (read_calls b HC.out.1 _ (G.at hG.out (below_set (by have := HB5.out; rw [← HGB.out] at this; exact this) (Nat.le_of_eq HGB.out)))).mono ?_); rintro e w6 ⟨hrp, hb6⟩; rw [HD.out] at hrp; obtain ⟨u1, u2, n6, c6, u3, rfl⟩ := hrp; have HB6 := Aside0.mk hb6; clear hb6; obtain ⟨g7, hg7⟩ : ∃ g, w6.heap.size = g := ⟨_, rfl⟩; obtain ⟨W7, hW7⟩ : ∃ W, w6.alloc (.cells #[.string ⟨#[]⟩, .slice none 0 0] 62) = W := ⟨_, rfl⟩; have HK7 : Aside0 (W7.heap[g7]? = some (.cells #[.string ⟨#[]⟩, .slice none 0 0] 62 (0, 0))) := ⟨by rw [← hW7, ← hg7]; exact blk_new _ _⟩; have HW7 := Aside0.mk hW7; have HG7 := Aside0.mk hg7; obtain ⟨r1, r2, r3, r4, r5, r6⟩ := box2 HK7.out))
            go_ret2
            have hb5 := HB5.out
            have hg0 := HGB.out
            rw [← hg0] at hb5
            have h6 := below_step (below_set (j := 0) (v := .slice A5 (ms.length + 1) c5) hb5 (Nat.le_of_eq hg0)) HB6.out
            have h7 : Below w.heap.size w W7 := by rw [← HW7.out]; exact below_alloc h6 _
            have hle : w.heap.size ≤ g7 := by rw [← HG7.out]; exact below_size h6
            have hR0 : R = none := (Option.some.inj HL.out).symm
            rw [hR0]
            exact ⟨rfl, below_set (below_set h7 hle) hle⟩
          | some y =>
            obtain ⟨nm, fs, t⟩ := y
            go_wp2_with (first | (go_at_call 21; (with_reducible refine D1.out.mono ?_); rintro e w2 ⟨rfl, hb2⟩; have HB2 := Aside0.mk (below_step HB.out hb2); have HK2 := Aside0.mk (blk_below HK.out hb2); have HR2 := Aside0.mk (Kd.R_below HR.out hb2); have HP2 := Aside0.mk (HP.out.below hb2); clear hb2; have q1 : w2.cell? ⟨gb, 0, none⟩ = some (.slice A ms.length c) := blk_cell HK2.out 0; have q2 := blk_frozen HK2.out 0) | ((with_reducible refine gate_builtin (b := .append) (xs := #[.tmp 27, .tmp 30]) rfl ?_); at_builtin; refine Kd.R_append KP (w0 := w) gb rfl (.tmp 27) (.tmp 30) 55 66 .nilIface 16 rfl Tryz.underlying55 info_piece rfl (by decide) (by omega) (.slice A ms.length c) ms (.inl a) [.iface 59 (.string a)] (fun k => k ≠ gb) (fun _ => False) rfl (by first | (go_simp; done) | (go_simp; rfl)) ?aP (fun _ hk => hk.elim) ?aF ?aO ?aB ?aS ?aL ?_; (case aP => rfl); (case aF => exact Kd.freshB HK2.out); (case aO => exact HR2.out); (case aB => have := HB2.out; rw [HGB.out] at this; exact this); (case aS => have := below_size HB2.out; rw [HGB.out] at this; exact this); (case aL => have := HC.out; omega); intro v5 w5 ho5 hb5 hg5 hat5; obtain ⟨A5, c5, rfl⟩ := Kd.R_slice ho5; have HK5 := Aside0.mk (blk_grown HK2.out hg5 (Kd.R_away HR2.out (fun _ h => h))); have HB5 := Aside0.mk hb5; have HR5 := Aside0.mk ho5; have HG5 := Aside0.mk (And.intro hg5 hat5); clear ho5 hb5 hg5 hat5 q1 q2; have q1 : w5.cell? ⟨gb, 0, none⟩ = some (.slice A ms.length c) := blk_cell HK5.out 0; have q2 := blk_frozen HK5.out 0) | (go_at_call 22; (refine (read_calls b HC.out.1 _ (G.at hG.out (below_set (by have := HB5.out; rw [← HGB.out] at this; exact this) (Nat.le_of_eq HGB.out)))).mono ?_); rintro e w6 ⟨hrp, hb6⟩; rw [HD.out] at hrp; obtain ⟨A6, c6, rfl, hr6⟩ := hrp; have HB6 := Aside0.mk hb6; have HR6 := Aside0.mk hr6; clear hb6 hr6; obtain ⟨g7, hg7⟩ : ∃ g, w6.heap.size = g := ⟨_, rfl⟩; obtain ⟨W7, hW7⟩ : ∃ W, w6.alloc (.cells #[.string ⟨#[]⟩, .slice none 0 0] 62) = W := ⟨_, rfl⟩; have HK7 : Aside0 (W7.heap[g7]? = some (.cells #[.string ⟨#[]⟩, .slice none 0 0] 62 (0, 0))) := ⟨by rw [← hW7, ← hg7]; exact blk_new _ _⟩; have HW7 := Aside0.mk hW7; have HG7 := Aside0.mk hg7; obtain ⟨r1, r2, r3, r4, r5, r6⟩ := box2 HK7.out))
            have hl5 : (ms ++ [(.inl a : Pc)]).length = ms.length + 1 := by rw [List.length_append]; rfl
            have hg0 := HGB.out
            have hlt : gb < g7 := by
              have h1 := blk_lt (blk_put HK5.out 0 (.slice A5 (ms.length + 1) c5) rfl)
              have h2 := below_size HB6.out
              have h3 := HG7.out
              omega
            obtain ⟨W8, hW8⟩ : ∃ W8, (W7.setCell ⟨g7, 0, none⟩ (.string nm)).setCell ⟨g7, 1, none⟩ (.slice A6 fs.length c6) = W8 := ⟨_, rfl⟩
            have F7 : ∀ w : World, ∀ v : Value, ∀ k, k < g7 → w.heap[k]? = W7.heap[k]? → True := fun _ _ _ _ _ => trivial
            have hb68 : Below g7 w6 W8 := by
              have h1 : Below g7 w6 W7 := by rw [← HW7.out, ← HG7.out]; exact below_alloc (Below.refl _ _) _
              rw [← hW8]
              exact (h1.setCell (Nat.le_refl _) _).setCell (Nat.le_refl _) _
            have hb68' : Below w6.heap.size w6 W8 := by rw [HG7.out]; exact hb68
            have HK8 : Aside0 (W8.heap[gb]? = some (.cells #[.slice A5 (ms.length + 1) c5] 57 (0, 0))) := ⟨blk_below (blk_below (blk_put (cs' := #[.slice A5 (ms.length + 1) c5]) HK5.out 0 _ rfl) HB6.out) hb68'⟩
            have HX8 : Aside0 (W8.heap[g7]? = some (.cells #[.string nm, .slice A6 fs.length c6] 62 (0, 0))) := ⟨by rw [← hW8]; exact blk_put (blk_put HK7.out 0 _ rfl) 1 _ rfl⟩
            have HR8 : Aside0 (KP.R 66 W8 gb (fun k => k ≠ gb) (.slice A5 (ms ++ [(.inl a : Pc)]).length c5) (ms ++ [.inl a])) := ⟨Kd.R_below (Kd.R_below (Kd.R_far (p := ⟨gb, 0, none⟩) HR5.out (fun _ h => h) (.slice A5 (ms.length + 1) c5)) HB6.out) hb68'⟩
            have HP8 : Aside0 (PcsOk W8 gb (ms ++ [.inl a]) (ps ++ [.inl a])) := ⟨(((HP2.out.grown HR2.out HG5.out.1).app (show PcOk _ _ (.inl a) (.inl a) from rfl)).below HB6.out).below hb68'⟩
            have hk5 := blk_put (cs' := #[.slice A5 (ms.length + 1) c5]) HK5.out 0 (.slice A5 (ms.length + 1) c5) rfl
            have HS8 : Aside0 (KF.R 33 W8 gb (fun k => k ≠ gb) (.slice A6 fs.length c6) fs) := ⟨Kd.R_below (KF_low (Kd.R_mono (Kd.R_newB HR6.out hk5) (fun k hk => hk.2)) (Nat.le_of_lt (blk_lt hk5))) hb68'⟩
            have HB8 : Aside0 (Below w.heap.size w W8) := ⟨by
              have hb5 := HB5.out
              rw [← hg0] at hb5
              exact below_step (below_step (below_set (j := 0) (v := .slice A5 (ms.length + 1) c5) hb5 (Nat.le_of_eq hg0)) HB6.out) hb68'⟩
            rw [hl5] at HR8
            rw [hW8]
            clear hW8 hb68 hb68' hk5 r1 r2 r3 r4 r5 r6 HK7 HW7 HB6 HR6 HK5 HR5 HB5 HG5 HK2 HR2 HP2 HB2 F7 q1 q2
            obtain ⟨q1, q2, q3, q4, q5, q6⟩ := box2 HX8.out
            have q7 : W8.cell? ⟨gb, 0, none⟩ = some (.slice A5 (ms.length + 1) c5) := blk_cell HK8.out 0
            have q8 := blk_frozen HK8.out 0
            have KS : ∀ w' : World, Below W8.heap.size W8 w' → w'.cell? ⟨gb, 0, none⟩ = some (.slice A5 (ms.length + 1) c5) ∧ w'.cell? ⟨g7, 0, none⟩ = some (.string nm) ∧ w'.cell? ⟨g7, 1, none⟩ = some (.slice A6 fs.length c6) := fun w' hb => ⟨blk_cell (blk_below HK8.out hb) 0, blk_cell (blk_below HX8.out hb) 0, blk_cell (blk_below HX8.out hb) 1⟩
            have KR : ∀ w' : World, Below W8.heap.size W8 w' → w'.ownsRow gb 66 1 (.slice A5 (ms.length + 1) c5) (ms.length + 1) (encs pcV (ms ++ [.inl a])) := fun w' hb => by
              have := Kd.own_of_R (Kd.R_below HR8.out hb)
              rw [hl5] at this
              exact this
            obtain ⟨ti, ti1, ti2, ti3, ti4⟩ := info_parts info_piece
            have HV8 : Aside0 (∀ k, (Value.slice A5 (ms.length + 1) c5).ownBlock = some k → gb ≤ k) := ⟨fun k hk => by
              rcases (KR W8 (Below.refl _ _)).2 with ⟨h1, _⟩ | ⟨g, cap, cur, h1, h2, _⟩
              · rw [h1] at hk; cases hk
              · rw [h1] at hk
                simp only [Value.ownBlock, Option.some.injEq] at hk
                rw [← hk]; exact h2⟩
            have HA7 : Aside0 (some gb ≠ (Value.slice A5 (ms.length + 1) c5).ownBlock) := ⟨Kd.R_away HR8.out (fun _ h => h)⟩
            have HN7 : Aside0 (some g7 ≠ (Value.slice A5 (ms.length + 1) c5).ownBlock) := ⟨fun e => by
              rcases (KR W8 (Below.refl _ _)).2 with ⟨h1, _⟩ | ⟨g, cap, cur, h1, _, h3, _⟩
              · rw [h1] at e; cases e
              · rw [h1] at e
                simp only [Value.ownBlock, Option.some.injEq] at e
                subst e
                have h4 := HX8.out
                rw [h3] at h4
                injection h4 with h4
                injection h4 with _ h4
                exact absurd h4 (by decide)⟩
            have q11 : ∀ n o, ((W8.drewN n).alloc o).cell? ⟨gb, 0, none⟩ = some (.slice A5 (ms.length + 1) c5) := fun n o => (KS _ (below_alloc (pw_below_drewN (Below.refl _ _) _) _)).1
            have q12 : ∀ n, (W8.drewN n).cell? ⟨gb, 0, none⟩ = some (.slice A5 (ms.length + 1) c5) := fun n => q7
            have q13 : ∀ o, (W8.alloc o).cell? ⟨gb, 0, none⟩ = some (.slice A5 (ms.length + 1) c5) := fun o => (KS _ (below_alloc (Below.refl _ _) _)).1
            go_region_law (first | (refine step_append_lies _ rfl (.tmp 49) (.tmp 52) 55 rfl gb 66 ti .nilIface 1 16 Tryz.underlying55 ti1 ti2 ti3 ti4 rfl (by decide) (.slice A5 (ms.length + 1) c5) (ms.length + 1) _ (by first | rfl | (go_simp; done)) (KR _ (by repeat (with_reducible first | exact Below.refl _ _ | apply below_alloc | apply pw_below_drewN | apply below_drew1))) _ 1 1 [.iface 62 (.agg #[.string nm, .slice A6 fs.length c6])] (by first | rfl | (go_simp; done)) rfl (World.news_of_block (blk_new _ _)) (by intro u hu; rw [List.mem_singleton.1 hu]; rfl) (by decide) (by have := HC.out; show _ ≤ 9223372036854775807; omega) (by have := HC.out; omega) (by rw [← HGB.out]; exact below_size (below_step HB8.out (by repeat (with_reducible first | exact Below.refl _ _ | apply below_alloc | apply pw_below_drewN | apply below_drew1)))) _ rfl ?_; intro g9 c9 w9 hown9 hg9 hat9 hlt9; have HK9 := Aside0.mk (blk_grown (blk_below HK8.out (by repeat (with_reducible first | exact Below.refl _ _ | apply below_alloc | apply pw_below_drewN | apply below_drew1))) hg9 HA7.out); have HX9 := Aside0.mk (blk_grown (blk_below HX8.out (by repeat (with_reducible first | exact Below.refl _ _ | apply below_alloc | apply pw_below_drewN | apply below_drew1))) hg9 HN7.out); have S9 := Aside0.mk (And.intro (blk_cell HK9.out 0) (And.intro (blk_cell HX9.out 0) (blk_cell HX9.out 1))); have q9 : w9.cell? ⟨gb, 0, none⟩ = some (.slice A5 (ms.length + 1) c5) := blk_cell HK9.out 0; have q10 := blk_frozen HK9.out 0; have HO9 := Aside0.mk hown9; have HP9 := Aside0.mk (fun u => PcsOk.grown (u := u) (HP8.out.below (by repeat (with_reducible first | exact Below.refl _ _ | apply below_alloc | apply pw_below_drewN | apply below_drew1))) (Kd.R_below HR8.out (by repeat (with_reducible first | exact Below.refl _ _ | apply below_alloc | apply pw_below_drewN | apply below_drew1))) hg9); have HS9 := Aside0.mk (rows_apart (Kd.R_below HS8.out (by repeat (with_reducible first | exact Below.refl _ _ | apply below_alloc | apply pw_below_drewN | apply below_drew1))) (Kd.R_below HR8.out (by repeat (with_reducible first | exact Below.refl _ _ | apply below_alloc | apply pw_below_drewN | apply below_drew1))) hg9); have HB9 := Aside0.mk (pw_below_grown (below_step HB8.out (by repeat (with_reducible first | exact Below.refl _ _ | apply below_alloc | apply pw_below_drewN | apply below_drew1))) _ (below_size (below_step HB8.out (by repeat (with_reducible first | exact Below.refl _ _ | apply below_alloc | apply pw_below_drewN | apply below_drew1)))) hg9 (fun k hk => by rw [HGB.out]; exact HV8.out k hk)); clear hown9 hg9 hat9 hlt9))
            all_goals
              go_wp2
              go_roundg kq
              case measure => omega
              case rel =>
                have hne : g9 ≠ gb := fun e => by
                  rcases HO9.out.2 with ⟨h1, _⟩ | ⟨g, cap, cur, h1, h2, h3, _⟩
                  · cases h1
                  · injection h1 with h1
                    injection h1 with h1
                    injection h1 with h1
                    have h4 := HK9.out
                    rw [← e, h1, h3] at h4
                    injection h4 with h4
                    injection h4 with _ h4
                    exact absurd h4 (by decide)
                have hl9 : (ms ++ [(.inl a : Pc)] ++ [(.inr (nm, .slice A6 fs.length c6) : Pc)]).length = ms.length + 1 + 1 := by simp
                refine ⟨t, rfl, ⟨ms ++ [.inl a] ++ [.inr (nm, .slice A6 fs.length c6)], ps ++ [.inl a] ++ [.inr (nm, fs)], _, blk_put HK9.out 0 _ rfl, ?_, ?_, HL.out⟩, ⟨below_set HB9.out (Nat.le_of_eq HGB.out)⟩⟩
                · refine Kd.R_far (p := ⟨gb, 0, none⟩) (Kd.R_of_own ?_ (fun k hk => ?_)) (fun _ h => h) _
                  · have := HO9.out
                    rw [hl9, encs_append]
                    exact this
                  · simp only [Value.ownBlock, Option.some.injEq] at hk
                    rw [← hk]; exact hne
                · exact (HP9.out _).app ⟨rfl, Kd.R_far (p := ⟨gb, 0, none⟩) HS9.out (fun _ h => h) _⟩
end Go.Proofs.YtfojidcbcpkpmaaGreatDoor
end
section
namespace Go.Proofs.YtfojidcbcpkpmaaGreatDoor
open Go Go.RowKit
variable {F : Fence} {n : Nat} {P : Program}
/-- The iterator's contract: over whatever the caller keeps (J) that abides St. -/
def SeqSteps {α : Type} (F : Fence) (n : Nat) (P : Program) (g : Nat) (lb : Array Value) (encs : α → Array Value) (Kp St : World → World → Prop) (S Sp : List α → Prop) (Al : List α → α → Prop) (w : World) : Prop :=
  ∀ (l : Nat) (J Jx : List α → World → Prop) (W : World), Below w.heap.size w W → (∀ s A B, J s A → St A B → J s B) → (∀ s A B, Jx s A → St A B → Jx s B) →
    (∀ pre x W1, J pre W1 → Al pre x → YieldAt F (n - 1) P l (encs x) W1 fun e W' =>
      (e = .returned (.bool true) ∧ J (pre ++ [x]) W' ∧ Kp W1 W') ∨ (e = .returned (.bool false) ∧ Jx (pre ++ [x]) W')) →
    J [] W →
    CallsIn F n P g (#[.func (.yield l) #[] #[]] ++ lb) W fun e W' => (∃ v, e = .returned v) ∧ ((∃ xs, S xs ∧ J xs W') ∨ (∃ pre, Sp pre ∧ Jx pre W'))
theorem wpIn_rangeSteps {α : Type} {g : Operand} {ps : Array Tmp} {assign body : Code} {Q : Exit → Act → World → Prop} {a : Act} {w : World}
    (hro : F.round = none) (h1 : 1 ≤ n) {gf : Nat} {lb : Array Value} (hg : a.eval g = .func (.func gf) #[] lb) (hFg : F.fn gf) (eg : ∀ args w, (callFunc gf args).run P w = .ok (.enter gf args) w)
    {encs : α → Array Value} {Kp St : World → World → Prop} {S Sp : List α → Prop} {Al : List α → α → Prop} {w0 : World} (hseq : SeqSteps F (n - 1) P gf lb encs Kp St S Sp Al w0)
    (hKt : ∀ {A B C : World}, Kp A B → Kp B C → Kp A C) (hKb : ∀ (W : World) (l : Nat) (o o' : Obj), w.heap.size ≤ l → W.heap[l]? = some o → o.isCells = false → o.isWalk = false → Kp W (W.putObj l o'))
    (hSt : ∀ A B, St A B → ∀ (k : Nat) (o : Obj), w.heap.size ≤ k → A.heap[k]? = some o → o.isCells = false → B.heap[k]? = some o)
    (hb0 : Below w0.heap.size w0 w) (hps : ∀ x, (encs x).size = ps.size)
    (I : List α → World → Prop) (Ix : Code → List α → World → Prop) (hI : OwnFrom w.heap.size I) (hIx : ∀ c, OwnFrom w.heap.size (Ix c))
    (hIS : ∀ s A B, I s A → St A B → I s B) (hIxS : ∀ c s A B, Ix c s A → St A B → Ix c s B) (h0 : I [] w) (a₁ : α → Act)
    (hassign : ∀ (l : Nat) (x : α) (W : World) (K : Act → World → Prop), K (a₁ x) W →
      assign.wpIn (F.inRound l) (n - 1 - 1) P (Exit.then K (fun _ _ _ => False)) { tmps := (ps.zip (encs x)).foldl (fun t (p, v) => t.setIfInBounds p v) a.tmps, defers := [] } W)
    (hbody : ∀ (l : Nat) (pre : List α) (x : α) (W : World), I pre W → Al pre x → body.wpIn (F.inRound l) (n - 1 - 1) P (ownPostG w.heap.size Kp I Ix (pre ++ [x]) W) (a₁ x) W)
    (hdone : ∀ (D : Nat) (xs : List α) (W : World), w.heap.size ≤ D → S xs → I xs W → W.heap[D]? = some (.deferred (some [])) → Q .normal { a with defers := { target := .collected D, args := #[] } :: a.defers } W)
    (hstop : ∀ (D : Nat) (c : Code) (pre : List α) (W : World), w.heap.size ≤ D → Sp pre → Ix c pre W → W.heap[D]? = some (.deferred (some [])) → c.wpIn F n P Q { a with defers := { target := .collected D, args := #[] } :: a.defers } W) :
    (Code.rangeFunc g ps assign body).wpIn F n P Q a w := by
  refine wpIn_rangeFunc ?_
  intro fn hfn
  rw [hro]
  obtain ⟨rec, hrec⟩ : ∃ rec : LoopState → Option Code → Loop, rec = fun st pe => { state := st, pending := pe, fn, tmps := a.tmps, params := ps, assign, body, defers := w.heap.size } := ⟨_, rfl⟩
  obtain ⟨W1, hW1⟩ : ∃ W1, (w.alloc (.deferred (some []))).alloc (.loop (rec .ready none)) = W1 := ⟨_, rfl⟩
  have hL1 : W1.heap[w.heap.size + 1]? = some (.loop (rec .ready none)) := by
    rw [← hW1]; have := World.alloc_heap_new (w.alloc (.deferred (some []))) (.loop (rec .ready none)); rwa [World.size_alloc] at this
  have hK1 : W1.heap[w.heap.size]? = some (.deferred (some [])) := by
    rw [← hW1]; exact (Below.heap_alloc _ _ _ (by simp)).trans (World.alloc_heap_new w _)
  have hI1 : I [] W1 := by rw [← hW1]; exact hI.alloc _ (hI.alloc _ h0)
  have hb1 : Below w0.heap.size w0 W1 := by
    rw [← hW1]; exact hb0.trans ((((Below.refl _ w).alloc (Nat.le_refl _) _).alloc (by simp) _).mono hb0.size)
  refine ⟨w.heap.size + 1, [{ target := .collected w.heap.size, args := #[] }], W1, { target := .fn (.func gf) lb, args := #[.func (.yield (w.heap.size + 1)) #[] #[]] }, W1, gf,
    #[.func (.yield (w.heap.size + 1)) #[] #[]] ++ lb, W1, ?_, ?_, ?_, ?_, fun _ => h1, ?_⟩
  · rw [← hW1, hrec]; exact run_enterLoop_outer _ _ _ _ _
  · simp only [resolve, hg]
    simp [go_sem]
  · intro f' hf'; simp [Target.leads] at hf'; subst hf'; exact hFg
  · simp [invoke, go_sem, eg]
  · refine (hseq (w.heap.size + 1)
      (fun pre W => I pre W ∧ W.heap[w.heap.size + 1]? = some (.loop (rec .ready none)) ∧ W.heap[w.heap.size]? = some (.deferred (some [])))
      (fun pre W => ∃ c, Ix c pre W ∧ W.heap[w.heap.size + 1]? = some (.loop (rec .done (some c))) ∧ W.heap[w.heap.size]? = some (.deferred (some [])))
      W1 hb1
      (fun s A B hs hst => ⟨hIS s A B hs.1 hst, hSt A B hst _ _ (by omega) hs.2.1 rfl, hSt A B hst _ _ (Nat.le_refl _) hs.2.2 rfl⟩)
      (fun s A B hs hst => by
        obtain ⟨c, hc, hl, hk⟩ := hs
        exact ⟨c, hIxS c s A B hc hst, hSt A B hst _ _ (by omega) hl rfl, hSt A B hst _ _ (Nat.le_refl _) hk rfl⟩)
      ?_ ⟨hI1, hL1, hK1⟩).mono ?_
    · rintro pre x W ⟨hi, hl, hk⟩ hlen
      have hlt : w.heap.size + 1 < W.heap.size := (Array.getElem?_eq_some_iff.1 hl).1
      have hy := run_yield (P := P) (args := encs x) hl (by rw [hrec]; exact hps x)
      rw [hrec] at hy
      refine ⟨fn, _, assign, body, hy, roundIn_of_wpIn hfn (hassign _ x W _ ⟨_, run_beginRound hl (by rw [hrec]), ?_⟩)⟩
      have hl2 : (W.putObj (w.heap.size + 1) (.loop { rec .ready none with state := .busy })).heap[w.heap.size + 1]? = some (.loop { rec .ready none with state := .busy }) := World.putObj_heap_same hlt
      have hk2 : (W.putObj (w.heap.size + 1) (.loop { rec .ready none with state := .busy })).heap[w.heap.size]? = some (.deferred (some [])) := (World.putObj_heap_other (by omega)).trans hk
      have hw2 : Kp W (W.putObj (w.heap.size + 1) (.loop { rec .ready none with state := .busy })) := hKb _ _ _ _ (by omega) hl rfl rfl
      refine wpIn_mono (hbody _ pre x _ (hI.putObj _ hi (by omega) hl rfl) hlen) ?_
      have fin : ∀ (jump : Option Code) (W3 : World), KeepsFrom w.heap.size (W.putObj (w.heap.size + 1) (.loop { rec .ready none with state := .busy })) W3 →
          (Instr.endRound (w.heap.size + 1) jump).run P W3 = .ok (.bool jump.isNone) (W3.putObj (w.heap.size + 1) (.loop (rec (if jump.isNone then .ready else .done) jump))) ∧
          W3.heap[w.heap.size + 1]? = some (.loop { rec .ready none with state := .busy }) ∧
          (W3.putObj (w.heap.size + 1) (.loop (rec (if jump.isNone then .ready else .done) jump))).heap[w.heap.size + 1]? = some (.loop (rec (if jump.isNone then .ready else .done) jump)) ∧
          (W3.putObj (w.heap.size + 1) (.loop (rec (if jump.isNone then .ready else .done) jump))).heap[w.heap.size]? = some (.deferred (some [])) := fun jump W3 hk3 => by
        have hl3 := hk3.same _ _ (by omega) hl2 rfl
        have := run_endRound (P := P) jump hl3
        rw [hrec] at this ⊢
        exact ⟨this, by rw [hrec] at hl3; exact hl3, World.putObj_heap_same (Array.getElem?_eq_some_iff.1 hl3).1, (World.putObj_heap_other (by omega)).trans (hk3.same _ _ (Nat.le_refl _) hk2 rfl)⟩
      rintro e a3 W3 hp
      cases e with
      | normal =>
        obtain ⟨hk3, hkp3, hi3⟩ := hp
        obtain ⟨hr, hl3, hl4, hk4⟩ := fin none W3 hk3
        exact ⟨_, _, hr, .inl ⟨rfl, ⟨hI.putObj _ hi3 (by omega) hl3 rfl, hl4, hk4⟩, hKt (hKt hw2 hkp3) (hKb _ _ _ _ (by omega) hl3 rfl rfl)⟩⟩
      | ret =>
        obtain ⟨hk3, hi3⟩ := hp
        obtain ⟨hr, hl3, hl4, hk4⟩ := fin (some .ret) W3 hk3
        exact ⟨_, _, hr, .inr ⟨rfl, .ret, (hIx _).putObj _ hi3 (by omega) hl3 rfl, hl4, hk4⟩⟩
      | exit id =>
        obtain ⟨hk3, hi3⟩ := hp
        obtain ⟨hr, hl3, hl4, hk4⟩ := fin (some (.exit id)) W3 hk3
        exact ⟨_, _, hr, .inr ⟨rfl, .exit id, (hIx _).putObj _ hi3 (by omega) hl3 rfl, hl4, hk4⟩⟩
      | goto t =>
        obtain ⟨hk3, hi3⟩ := hp
        obtain ⟨hr, hl3, hl4, hk4⟩ := fin (some (.goto t)) W3 hk3
        exact ⟨_, _, hr, .inr ⟨rfl, .goto t, (hIx _).putObj _ hi3 (by omega) hl3 rfl, hl4, hk4⟩⟩
      | panic ch => exact hp.elim
      | outgrown => exact hp.elim
    · rintro e W2 ⟨⟨v, rfl⟩, (⟨xs, hS, hi, hl, hk⟩ | ⟨pre, hSp, c, hi, hl, hk⟩)⟩
      · exact ⟨none, _, by have := run_endLoop (P := P) hl (by rw [hrec]; simp); rw [hrec] at this; exact this, hdone _ xs _ (Nat.le_refl _) hS (hI.putObj _ hi (by omega) hl rfl) ((World.putObj_heap_other (by omega)).trans hk)⟩
      · exact ⟨some c, _, by have := run_endLoop (P := P) hl (by rw [hrec]; simp); rw [hrec] at this; exact this, hstop _ c pre _ (Nat.le_refl _) hSp ((hIx c).putObj _ hi (by omega) hl rfl) ((World.putObj_heap_other (by omega)).trans hk)⟩
end Go.Proofs.YtfojidcbcpkpmaaGreatDoor
end
section
namespace Go.Proofs.YtfojidcbcpkpmaaGreatDoor
open Go
/-- The first rune and its width. -/
def pieces : Nat → ByteArray → List (Int × ByteArray)
  | 0, _ => []
  | k + 1, s => if s.size = 0 then [] else (((Lib.decodeGo s).1 : Int), s.extract 0 (Lib.decodeGo s).2) :: pieces k (s.extract (Lib.decodeGo s).2 s.size)
theorem decodeN_bounds (n b0 b1 b2 b3 : Nat) (hn : 1 ≤ n) (h0 : b0 < 256) : 1 ≤ (Lib.decodeN n b0 b1 b2 b3).2 ∧ (Lib.decodeN n b0 b1 b2 b3).2 ≤ n ∧ (Lib.decodeN n b0 b1 b2 b3).2 ≤ 4 ∧ (Lib.decodeN n b0 b1 b2 b3).1 ≤ 1114111 := by
  unfold Lib.decodeN
  repeat' split
  all_goals (simp only; omega)
theorem decodeGo_eq (s : ByteArray) (h : s.size ≠ 0) : Lib.decodeGo s = Lib.decodeN s.size (s.get! 0).toNat (s.get! 1).toNat (s.get! 2).toNat (s.get! 3).toNat := by
  unfold Lib.decodeGo
  rw [if_neg h, Lib.decode_at]
  rfl
theorem decodeGo_bounds (s : ByteArray) (h : s.size ≠ 0) : 1 ≤ (Lib.decodeGo s).2 ∧ (Lib.decodeGo s).2 ≤ s.size ∧ (Lib.decodeGo s).2 ≤ 4 ∧ (Lib.decodeGo s).1 ≤ 1114111 := by
  rw [decodeGo_eq s h]
  exact decodeN_bounds _ _ _ _ _ (by omega) (by simpa using (s.get! 0).toNat_lt)
theorem extract_size (s : ByteArray) (a b : Nat) : (s.extract a b).size = min b s.size - a := by simp
/-- A piece has one to four bytes, and a rune's number. -/
def PieceOk (x : Int × ByteArray) : Prop := 0 < x.2.size ∧ x.2.size ≤ 4 ∧ 0 ≤ x.1 ∧ x.1 ≤ 1114111
theorem pieces_ok : ∀ (k : Nat) (s : ByteArray), ∀ x ∈ pieces k s, PieceOk x
  | 0, _, x, h => by simp [pieces] at h
  | k + 1, s, x, h => by
    unfold pieces at h
    split at h
    · simp at h
    · rename_i hs
      have hb := decodeGo_bounds s hs
      rcases List.mem_cons.1 h with rfl | h
      · unfold PieceOk
        simp only [extract_size]
        omega
      · exact pieces_ok k _ x h
theorem pieces_nil (k : Nat) (s : ByteArray) (h : s.size = 0) : pieces k s = [] := by
  cases k with
  | zero => rfl
  | succ k => simp [pieces, h]
theorem pieces_cons (k : Nat) (s : ByteArray) (h : s.size ≠ 0) : pieces (k + 1) s = (((Lib.decodeGo s).1 : Int), s.extract 0 (Lib.decodeGo s).2) :: pieces k (s.extract (Lib.decodeGo s).2 s.size) := by
  simp [pieces, h]
/-- More rounds than bytes change nothing. -/
theorem pieces_mono : ∀ (k m : Nat) (s : ByteArray), s.size ≤ k → s.size ≤ m → pieces k s = pieces m s
  | 0, m, s, h, _ => by rw [pieces_nil 0 s (by omega), pieces_nil m s (by omega)]
  | k + 1, m, s, h, h2 => by
    by_cases hs : s.size = 0
    · rw [pieces_nil _ s hs, pieces_nil _ s hs]
    · cases m with
      | zero => omega
      | succ m =>
        have hb := decodeGo_bounds s hs
        rw [pieces_cons k s hs, pieces_cons m s hs, pieces_mono k m _ (by rw [extract_size]; omega) (by rw [extract_size]; omega)]
theorem pieces_length : ∀ (k : Nat) (s : ByteArray), (pieces k s).length ≤ s.size
  | 0, _ => by simp [pieces]
  | k + 1, s => by
    by_cases hs : s.size = 0
    · rw [pieces_nil _ s hs]; simp
    · have hb := decodeGo_bounds s hs
      rw [pieces_cons k s hs]
      have := pieces_length k (s.extract (Lib.decodeGo s).2 s.size)
      rw [extract_size] at this
      simp
      omega
/-- All of a text's. -/
def piecesOf (s : ByteArray) : List (Int × ByteArray) := pieces s.size s
theorem piecesOf_nil (s : ByteArray) (h : s.size = 0) : piecesOf s = [] := pieces_nil _ s h
theorem piecesOf_cons (s : ByteArray) (h : s.size ≠ 0) : piecesOf s = (((Lib.decodeGo s).1 : Int), s.extract 0 (Lib.decodeGo s).2) :: piecesOf (s.extract (Lib.decodeGo s).2 s.size) := by
  have hb := decodeGo_bounds s h
  unfold piecesOf
  obtain ⟨m, hm⟩ : ∃ m, s.size = m + 1 := ⟨s.size - 1, by omega⟩
  rw [hm, pieces_cons m s h, ← hm]
  rw [pieces_mono m _ _ (by rw [extract_size]; omega) (Nat.le_refl _)]
theorem piecesOf_ok (s : ByteArray) : ∀ x ∈ piecesOf s, PieceOk x := pieces_ok _ s
theorem piecesOf_length (s : ByteArray) : (piecesOf s).length ≤ s.size := pieces_length _ s
end Go.Proofs.YtfojidcbcpkpmaaGreatDoor
end
section
namespace Go.Proofs.YtfojidcbcpkpmaaGreatDoor.P
open Go Go.RowKit Go.Proofs.YtfojidcbcpkpmaaGreatDoorW.PrintWords
def utf8_DecodeRuneInString.f (a0 : ByteArray) : Option (Int × Int) := some (((Lib.decodeGo a0).1 : Int), ((Lib.decodeGo a0).2 : Int))
theorem utf8_DecodeRuneInString.calls (a0 : ByteArray) (r1 : Int) (r2 : Int) (w : World) (hG : Aside0 (G w)) (h : utf8_DecodeRuneInString.f a0 = some (r1, r2)) :
    Calls Tryz.prog 60 #[.string a0] w fun e w' => e = .returned (.tuple #[.int .i32 r1, .int .i64 r2]) ∧ Below w.heap.size w w' := by
  simp only [utf8_DecodeRuneInString.f, Option.some.injEq, Prod.mk.injEq] at h
  obtain ⟨rfl, rfl⟩ := h
  exact Tryz.utf8_DecodeRuneInString a0 w hG.out.utf8
end Go.Proofs.YtfojidcbcpkpmaaGreatDoor.P
end
section
namespace Go.Proofs.YtfojidcbcpkpmaaGreatDoor.P
open Go.RowKit Go.Proofs.YtfojidcbcpkpmaaGreatDoorW.PrintWords Go.Proofs.YtfojidcbcpkpmaaGreatDoorW.PrintLast Go.Proofs.YtfojidcbcpkpmaaGreatDoorW.PrintMore
attribute [local go_sem] max2_int min2_int max_two min_two max_three min_three max_four min_four leq_str
set_option linter.unusedVariables false
set_option linter.unusedSimpArgs false
/-! ### quote_Decode: function 32 -/
def quote_Decode.f (a0 : ByteArray) : Option (Int × Int) := if a0.toList = ([] : List UInt8) then (some (0, 0)) else ((utf8_DecodeRuneInString.f a0).bind fun bt1 => (some (bt1.1, bt1.2)))
set_option maxHeartbeats 8000000 in
set_option maxRecDepth 100000 in
theorem quote_Decode.calls (a0 : ByteArray) (r1 : Int) (r2 : Int) (w : World) (hG : Aside0 (G w)) (h : quote_Decode.f a0 = some (r1, r2)) :
    Calls Tryz.prog 32 #[.string a0] w fun e w' => e = .returned (.tuple #[.int .i32 r1, .int .i64 r2]) ∧ Below w.heap.size w w' := by
  have HB := Aside0.mk (Below.refl w.heap.size w)
  have H : (if a0.toList = ([] : List UInt8) then (some (0, 0)) else ((utf8_DecodeRuneInString.f a0).bind fun bt1 => (some (bt1.1, bt1.2)))) = some (r1, r2) := h
  clear h
  by_cases c2 : a0.toList = ([] : List UInt8)
  · rw [if_pos c2] at H
    have c2b0 : (a0.toList == ([] : List UInt8)) = true := beq_iff_eq.mpr c2
    have c2b1 : (a0.toList != ([] : List UInt8)) = false := bne_eq_false_iff_eq.mpr c2
    clear c2
    simp only [Option.some.injEq, Prod.mk.injEq] at H
    obtain ⟨rfl, rfl⟩ := H
    go_enter Tryz.func32, Tryz.ntmps32
    go_wp2
    go_ret2
    exact ⟨by first | rfl | (simp [errW_none, errW_some] <;> rfl) | (simp [*, errW_none, errW_some] <;> rfl), by repeat (first | (with_reducible first | exact HB.out | apply below_alloc | apply pw_below_drewN | apply below_drew1) | exact HB.out)⟩
  · rw [if_neg c2] at H
    have c2b0 : (a0.toList == ([] : List UInt8)) = false := beq_eq_false_iff_ne.mpr c2
    have c2b1 : (a0.toList != ([] : List UInt8)) = true := bne_iff_ne.mpr c2
    replace H := Option.bind_eq_some_iff.mp H
    obtain ⟨⟨t1, t2⟩, A30, H⟩ := H
    replace H : (some (t1, t2)) = some (r1, r2) := H
    have A3 := Aside0.mk A30
    clear A30
    simp only [Option.some.injEq, Prod.mk.injEq] at H
    obtain ⟨rfl, rfl⟩ := H
    go_enter Tryz.func32, Tryz.ntmps32
    go_wp2_with (first | ((with_reducible refine gate_callee (f := 60) rfl ?_); refine goesL_ (some 7) rfl rfl Tryz.func60 (by kernel_rfl) rfl #[.string a0] rfl (by (try simp only [List.map_toArray, List.map_cons, List.map_nil]); first | done | rfl | (simp only [List.length_drop, List.length_take]; rfl)) ?_; (with_reducible refine (utf8_DecodeRuneInString.calls a0 t1 t2 _ ?side1 A3.out).mono ?_); (case side1 => exact G.at hG.out (by repeat (first | (with_reducible first | exact HB.out | apply below_alloc | apply pw_below_drewN | apply below_drew1) | exact HB.out))); rintro e w4 ⟨rfl, hb⟩; refine ⟨_, rfl, ?_⟩; have n0_ := Aside0.mk (below_step (by repeat (first | (with_reducible first | exact HB.out | apply below_alloc | apply pw_below_drewN | apply below_drew1) | exact HB.out)) hb); clear HB; have HB := n0_; clear n0_; (try clear hb); (try clear hb2); (try clear hk); (try clear hi)))
    go_ret2
    exact ⟨by first | rfl | (simp [errW_none, errW_some] <;> rfl) | (simp [*, errW_none, errW_some] <;> rfl), by repeat (first | (with_reducible first | exact HB.out | apply below_alloc | apply pw_below_drewN | apply below_drew1) | exact HB.out)⟩
end Go.Proofs.YtfojidcbcpkpmaaGreatDoor.P
end
section
namespace Go.Proofs.YtfojidcbcpkpmaaGreatDoor
open Go Go.RowKit Go.Shelf Go.Proofs.YtfojidcbcpkpmaaGreatDoorW.PrintWords Go.Proofs.YtfojidcbcpkpmaaGreatDoor.P
attribute [local go_sem] Oper.semAt_some
abbrev pieceVals (x : Int × ByteArray) : Array Value := #[.int .i32 x.1, .string x.2]
/-- What a round must keep for the iterator. -/
def EachKp (n₀ Bs : Nat) (W W' : World) : Prop :=
  Below n₀ W W' ∧ (∀ v, W.cell? ⟨Bs, 0, none⟩ = some v → W'.cell? ⟨Bs, 0, none⟩ = some v ∧ (W.frozen? ⟨Bs, 0, none⟩ = false → W'.frozen? ⟨Bs, 0, none⟩ = false))
/-- What the iterator may do between two rounds. -/
def EachSt (Bs : Nat) (A B : World) : Prop := Below A.heap.size A B ∨ ∃ v : ByteArray, B = A.setCell ⟨Bs, 0, none⟩ (.string v)
def leftAt (Bs : Nat) (W : World) : Nat := match W.cell? ⟨Bs, 0, none⟩ with
  | some (.string v) => v.size
  | _ => 0
theorem leftAt_eq {Bs : Nat} {W : World} {v : ByteArray} (h : W.cell? ⟨Bs, 0, none⟩ = some (.string v)) : leftAt Bs W = v.size := by simp [leftAt, h]
theorem frozen_below {w w' : World} (hb : Below w.heap.size w w') {g o : Nat} (hg : g < w.heap.size) (hf : w.frozen? ⟨g, o, none⟩ = false) : w'.frozen? ⟨g, o, none⟩ = false :=
  (hb.frozen (p := ⟨g, o, none⟩) hg).trans hf
theorem size_zero {s : ByteArray} (h : s.toList = []) : s.size = 0 := by
  rw [ByteArray.toList_eq] at h
  have := congrArg List.length h
  rw [Array.length_toList] at this
  exact this
theorem toList_nil {s : ByteArray} (h : s.size = 0) : s.toList = [] := by
  rw [ByteArray.toList_eq]
  exact List.eq_nil_of_length_eq_zero (by rw [Array.length_toList]; exact h)
theorem decode_some {s : ByteArray} (h : s.size ≠ 0) : quote_Decode.f s = some (((Lib.decodeGo s).1 : Int), ((Lib.decodeGo s).2 : Int)) := by
  unfold quote_Decode.f
  rw [if_neg (fun e => h (size_zero e))]
  rfl
set_option maxRecDepth 100000 in
theorem each_calls (s : ByteArray) (w : World) : Calls Tryz.prog 20 #[.string s] w fun e w' =>
    e = .returned (.func (.func 31) #[] #[.pointer (some ⟨w.heap.size, 0, none⟩)]) ∧ w' = w.alloc (.cells #[.string s] 9) := by
  go_enter Tryz.func20, Tryz.ntmps20
  go_wp2
  go_ret
  exact ⟨rfl, rfl⟩
set_option maxRecDepth 100000 in
set_option maxHeartbeats 2000000 in
theorem each1_steps (n : Nat) (hn : 1 ≤ n) (s : ByteArray) (hs : s.size ≤ 140737488351232) (Bs : Nat) (w0 w : World) (hG : Aside0 (G w0)) (hb : Below w0.heap.size w0 w) (hle : w0.heap.size ≤ Bs)
    (hc : w.cell? ⟨Bs, 0, none⟩ = some (.string s)) (hf : w.frozen? ⟨Bs, 0, none⟩ = false) :
    SeqSteps Fence.wide n Tryz.prog 31 #[.pointer (some ⟨Bs, 0, none⟩)] pieceVals (EachKp w0.heap.size Bs) (EachSt Bs) (fun xs => xs = piecesOf s) (fun _ => True) (fun pre x => pre ++ [x] <+: piecesOf s) w :=
  fun l J Jx W hW hJ hJx hY h0 => by
  have hcW : W.cell? ⟨Bs, 0, none⟩ = some (.string s) := cell_below hW hc
  have hfW : W.frozen? ⟨Bs, 0, none⟩ = false := frozen_below hW (cell_lt hc) hf
  have hbW : Below w0.heap.size w0 W := hb.trans (hW.mono hb.size)
  refine callsIn_of_wp Tryz.func31 rfl trivial ?_ rfl
  simp only [Tryz.ntmps31, List.size_toArray, List.length_cons, List.length_nil, Nat.reduceAdd, Nat.reduceSub, Array.replicate_succ, Array.replicate_zero, List.push_toArray, List.append_toArray, List.nil_append, List.cons_append]
  clear hc hf hb hW
  gi_wp2
  gi_loopw [3, 4] (fun _ _ wr => ∃ (pre : List (Int × ByteArray)) (rest : ByteArray), Aside0 (piecesOf s = pre ++ piecesOf rest) ∧ rest.size ≤ 140737488351232 ∧ wr.cell? ⟨Bs, 0, none⟩ = some (.string rest) ∧ wr.frozen? ⟨Bs, 0, none⟩ = false ∧ Aside0 (Below w0.heap.size w0 wr) ∧ J pre wr)
    (fun _ _ wr => leftAt Bs wr)
  case atStart => exact ⟨[], s, ⟨rfl⟩, hs, hcW, hfW, ⟨hbW⟩, h0⟩
  case round =>
    obtain ⟨pre, rest, hp, hrs, hcr, hfr, hbr, hJr⟩ := hrel
    clear hcW hfW hbW h0
    by_cases hz : rest.size = 0
    · have t0 : rest.toList = [] := toList_nil hz
      have t1 : (rest.toList == ([] : List UInt8)) = true := by rw [t0]; rfl
      have t2 : rest.toList.isEmpty = true := by rw [t0]; rfl
      have hp' : Aside0 (piecesOf s = pre) := ⟨by rw [hp.out, piecesOf_nil rest hz, List.append_nil]⟩
      clear hz hp
      gi_wp2
      go_end0
      exact ⟨⟨_, rfl⟩, .inl ⟨pre, hp'.out.symm, hJr⟩⟩
    · have hn0 : rest.toList ≠ [] := fun e => hz (size_zero e)
      have t1 : (rest.toList == ([] : List UInt8)) = false := beq_eq_false_iff_ne.mpr hn0
      have t2 : rest.toList.isEmpty = false := by cases h : rest.toList with | nil => exact absurd h hn0 | cons _ _ => rfl
      have hd := Aside0.mk (decode_some hz)
      have hcr0 := Aside0.mk hcr
      have hbd := decodeGo_bounds rest hz
      have hpc := Aside0.mk (piecesOf_cons rest hz)
      generalize Lib.decodeGo rest = dd at hd hbd hpc
      obtain ⟨dr, dn⟩ := dd
      obtain ⟨hb1, hb2, hb3, hb4⟩ := hbd
      have hb1' : 1 ≤ dn := hb1
      have hb2' : dn ≤ rest.size := hb2
      have hb4' : dr ≤ 1114111 := hb4
      clear hz hb1 hb2 hb3 hb4
      gi_wp2_with (refine ⟨trivial, ?_⟩; gi_at_call 32; refine (callsIn_wide.2 (quote_Decode.calls rest dr dn _ (G.at hG.out (by exact hbr.out)) hd.out)).mono ?_; rintro e w2 ⟨rfl, hb2⟩; have hc2 := cell_below hb2 hcr; have hf2 := frozen_below hb2 (cell_lt hcr) hfr; have hJ2 := hJ _ _ _ hJr (.inl hb2); have hb3 := Aside0.mk (hbr.out.trans (hb2.mono hbr.out.size)); clear hb2 hbr hcr hfr hJr; obtain ⟨fn, tmps, assign, body, hy, hR⟩ := hY pre ((dr : Int), rest.extract 0 dn) w2 hJ2 (by rw [hp.out, hpc.out]; exact ⟨piecesOf (rest.extract dn rest.size), by simp⟩); dsimp only [pieceVals] at hy; clear hY)
      refine hR.mono ?_
      rintro e W3 (⟨rfl, hJ3, hk3⟩ | ⟨rfl, hJx3⟩)
      · obtain ⟨hc3, hf3'⟩ := hk3.2 _ hc2
        have hf3 := hf3' hf2
        have hb4 := Aside0.mk (hb3.out.trans hk3.1)
        clear hc2 hf2 hf3' hk3 hb3 hJ2 hR hy
        gi_wp2
        go_roundw
        case rel => exact ⟨pre ++ [((dr : Int), rest.extract 0 dn)], rest.extract dn rest.size, ⟨by rw [hp.out, hpc.out]; simp⟩, by rw [extract_size]; omega, World.cell?_setCell_same' _ _ _ (by rw [hc3]; rfl), by rw [World.frozen?_setCell]; exact hf3, ⟨hb4.out.setCell (p := ⟨Bs, 0, none⟩) hle _⟩, hJ _ _ _ hJ3 (.inr ⟨_, rfl⟩)⟩
        case measure =>
          rw [leftAt_eq (World.cell?_setCell_same' _ _ _ (by rw [hc3]; rfl)), leftAt_eq hcr0.out, extract_size]
          omega
      · gi_wp2
        refine bodyPost_ret (results_none rfl _ _ _) rfl ?_
        exact ⟨⟨_, rfl⟩, .inr ⟨_, trivial, hJx3⟩⟩
end Go.Proofs.YtfojidcbcpkpmaaGreatDoor
end
section
namespace Go.Proofs.YtfojidcbcpkpmaaGreatDoor
open Go Go.RowKit Go.Shelf Go.Proofs.YtfojidcbcpkpmaaGreatDoorW.PrintWords Go.Proofs.YtfojidcbcpkpmaaGreatDoor.P
attribute [local go_sem] Oper.semAt_some
theorem EachKp.trans' {n₀ Bs : Nat} {A B C : World} (h : EachKp n₀ Bs A B) (k : EachKp n₀ Bs B C) : EachKp n₀ Bs A C :=
  ⟨h.1.trans k.1, fun v hv => ⟨(k.2 v (h.2 v hv).1).1, fun hf => (k.2 v (h.2 v hv).1).2 ((h.2 v hv).2 hf)⟩⟩
theorem EachKp.putObj' {n₀ Bs B : Nat} (hn : n₀ ≤ B) (W : World) (l : Nat) (o o' : Obj) (hl : B ≤ l) (ho : W.heap[l]? = some o) (hc : o.isCells = false) : EachKp n₀ Bs W (W.putObj l o') := by
  refine ⟨(Below.refl n₀ W).grown (grownBy_putObj' W l o') ?_ (fun k e => by cases e; omega), fun v hv => ?_⟩
  · have := (Array.getElem?_eq_some_iff.1 ho).1; omega
  · have hne : Bs ≠ l := by
      rintro rfl
      unfold World.cell? at hv
      rw [ho] at hv
      cases o <;> simp [Obj.isCells] at hc <;> simp at hv
    have hh : (W.putObj l o').heap[Bs]? = W.heap[Bs]? := World.putObj_heap_other hne
    constructor
    · unfold World.cell? at hv ⊢
      rw [hh]; exact hv
    · intro hf
      unfold World.frozen? at hf ⊢
      rw [hh]; exact hf
theorem EachSt.keeps {Bs B : Nat} (hB : Bs < B) : ∀ X Y, EachSt Bs X Y → ∀ (k : Nat) (o : Obj), B ≤ k → X.heap[k]? = some o → o.isCells = false → Y.heap[k]? = some o := by
  rintro X Y (h | ⟨v, rfl⟩) k o hk ho _
  · exact (h.block k (Array.getElem?_eq_some_iff.1 ho).1).trans ho
  · rw [Below.heap_setCell _ _ _ k (by show k ≠ Bs; omega)]; exact ho
theorem Boxed.below {W W' : World} {B : Nat} {t : TypeId} {v : Value} (h : Boxed W B t v) (hb : Below W.heap.size W W') : Boxed W' B t v := (hb.block B h.lt).trans h
theorem Boxed.other' {W : World} {B C : Nat} {t : TypeId} {v : Value} (h : Boxed W B t v) (hne : B ≠ C) (u : Value) : Boxed (W.setCell ⟨C, 0, none⟩ u) B t v := (Below.heap_setCell _ _ _ B hne).trans h
/-- What the body of a collecting loop over 'each' keeps. -/
def CollectI (w : World) (B0 Bs tB e tS : Nat) (f : List (Int × ByteArray) → List Value) (pre : List (Int × ByteArray)) (W : World) : Prop :=
  (∃ v, Boxed W B0 tB v ∧ W.ownsRow w.heap.size e 1 v (f pre).length (f pre)) ∧ (∃ sv : ByteArray, Boxed W Bs tS (.string sv)) ∧ Below w.heap.size w W
theorem CollectI.own {w : World} {B0 Bs tB e tS B : Nat} {f : List (Int × ByteArray) → List Value} (hB : w.heap.size ≤ B) : OwnFrom B (CollectI w B0 Bs tB e tS f) := by
  rintro s W W' row ⟨⟨v, hv, hr⟩, ⟨sv, hs⟩, hb⟩ hg hrow
  have hne : ∀ {C t : Nat} {u : Value}, Boxed W C t u → some C ≠ row := by
    intro C t u hC e'
    obtain ⟨_, o, ho, hc⟩ := hrow C e'.symm
    rw [show W.heap[C]? = _ from hC] at ho; cases ho; cases hc
  refine ⟨⟨v, hv.kept hg (hne hv), hr.kept hg ?_⟩, ⟨sv, hs.kept hg (hne hs)⟩, hb.grown hg hb.size (fun k e' => Nat.le_trans hB (hrow k e').1)⟩
  rcases hr.2 with ⟨rfl, _⟩ | ⟨g, cap, cur, rfl, _, hgb, _⟩
  · exact .inl rfl
  · refine .inr fun e' => ?_
    obtain ⟨_, o, ho, hc⟩ := hrow g (by simpa [Value.ownBlock] using e'.symm)
    rw [hgb] at ho; cases ho; cases hc
theorem CollectI.step {w : World} {B0 Bs tB e tS : Nat} {f : List (Int × ByteArray) → List Value} (hne : B0 ≠ Bs) (hts : tS ≠ e) (hle : w.heap.size ≤ Bs) : ∀ s X Y, CollectI w B0 Bs tB e tS f s X → EachSt Bs X Y → CollectI w B0 Bs tB e tS f s Y := by
  rintro s X Y ⟨⟨v, hv, hr⟩, ⟨sv, hs⟩, hb⟩ (h | ⟨u, rfl⟩)
  · exact ⟨⟨v, Boxed.below hv h, pw_own_below hr h⟩, ⟨sv, Boxed.below hs h⟩, hb.trans (h.mono hb.size)⟩
  · refine ⟨⟨v, Boxed.other' hv hne _, hr.kept (grownBy_setCell' X Bs _) (.inr (hs.not_row hts hr).symm)⟩, ⟨u, hs.set _⟩, hb.setCell (p := ⟨Bs, 0, none⟩) hle _⟩
end Go.Proofs.YtfojidcbcpkpmaaGreatDoor
end
section
namespace Go.Proofs.YtfojidcbcpkpmaaGreatDoor
open Go
section
variable {F : Fence} {n : Nat} {P : Program} {ops : Array Oper} {Q : Exit → Act → World → Prop} {md : Region.Mode}
/-- No operation of the region is a 'defer'. -/
def NoDefer (ops : Array Oper) : Prop := ∀ (j : Nat) (o : Oper), ops[j]? = some o → ∀ c, o.op ≠ .defer c
def noDeferB (ops : Array Oper) : Bool := ops.all fun o => match o.op with
  | .defer _ => false
  | _ => true
theorem noDefer_of {ops : Array Oper} (h : noDeferB ops = true) : NoDefer ops := by
  intro j o hj c hc
  obtain ⟨hlt, he⟩ := Array.getElem?_eq_some_iff.1 hj
  have h2 := Array.all_eq_true.1 h j hlt
  rw [he] at h2
  simp [hc] at h2
theorem take_op {i : Nat} {o : Oper} {v : Value} {a : Act} (hnd : NoDefer ops) (hi : ops[i]? = some o) (hy : YieldsFenced P ops o v a)
    {K : Act → World → Prop} {w : World} (h : K (a.put o.dst v) w) : wpOpIn F n P ops Q i K a w := by
  unfold Go.wpOpIn
  simp only [hi]
  have hab : ∀ f, o.about P w a.eval = some f → F.fn f := fun f hf => by rw [hy.2 w] at hf; cases hf
  rcases hy.1 with ⟨hw, hv⟩ | ⟨hw, rfl⟩
  · simp only [hw, if_true, Oper.wpIn, Oper.semAt_eq F.round a.eval o (hnd i o hi), hv w, Oper.uponIn]; exact ⟨hab, h⟩
  · simp only [hw, Bool.false_eq_true, if_false]; exact ⟨hab, h⟩
theorem take_put {j : Nat} {oi oj : Oper} {v : Value} (hnd : NoDefer ops) (hj : ops[j]? = some oj) (hap : oi.apart ops oj = true)
    (hsi : ∀ cs b, oi.op ≠ .select cs b) (hsj : ∀ cs b, oj.op ≠ .select cs b)
    (hQ : ∀ c a w, Q (.panic c) (a.put oi.dst v) w → Q (.panic c) a w) {K : Act → World → Prop} {a : Act} {w : World}
    (hy : YieldsFenced P ops oi v a) (h : wpOpIn F n P ops Q j K (a.put oi.dst v) w) :
    wpOpIn F n P ops Q j (fun a' w' => YieldsFenced P ops oi v a' ∧ K (a'.put oi.dst v) w') a w := by
  obtain ⟨h1, h2, h3⟩ := Oper.apart_spec hap
  have keep : ∀ (a : Act), YieldsFenced P ops oi v a → ∀ u, YieldsFenced P ops oi v (a.put oj.dst u) := fun a hy u =>
    hy.of_same (execOp_put oi hsi a oj.dst u h3) (wanted_put oi a oj.dst u h3) (fun w => about_put oi w a oj.dst u h3)
  have keepD : ∀ d, YieldsFenced P ops oi v { a with defers := d :: a.defers } := fun d => hy.of_same rfl rfl (fun _ => rfl)
  have hndj := hnd j oj hj
  unfold wpOpIn at *
  simp only [hj] at *
  rw [wanted_put oj a oi.dst v h1, about_put oj w a oi.dst v h1] at h
  split
  · rename_i hw
    simp only [hw, if_true] at h
    unfold Oper.wpIn at *
    rw [about_put oj w a oi.dst v h1] at h
    refine ⟨h.1, ?_⟩
    have h := h.2
    rw [Oper.semAt_eq F.round _ oj hndj, execOp_put oj hsj a oi.dst v h1] at h
    rw [Oper.semAt_eq F.round _ oj hndj]
    generalize (execOp a.eval oj).run P w = r at *
    cases r with
    | ok x w' =>
      cases x <;> simp only [Oper.uponIn] at h ⊢
      case value u => exact ⟨keep a hy u, by rw [← Act.put_comm a v u h2]; exact h⟩
      case skip => exact ⟨keep a hy _, by rw [← Act.put_comm a v undef h2]; exact h⟩
      case defer d =>
        refine ⟨keep _ (keepD d) _, ?_⟩
        rw [← Act.put_comm _ v undef h2, ← Act.put_defers]
        exact h
      case enter f args =>
        refine ⟨h.1, CallsIn.mono h.2 fun e w'' he => ?_⟩
        cases e with
        | returned u => exact ⟨keep a hy u, by rw [← Act.put_comm a v u h2]; exact he⟩
        | panicked c => exact hQ _ _ _ he
        | outgrown => exact he
      case row row args => exact ⟨h.1, RowsIn.mono h.2 fun u w'' he => ⟨keep a hy u, by rw [← Act.put_comm a v u h2]; exact he⟩⟩
      case round l f tmps assign body =>
        refine ⟨h.1, RoundIn.mono h.2 fun e w'' he => ?_⟩
        cases e with
        | returned u => exact ⟨keep a hy u, by rw [← Act.put_comm a v u h2]; exact he⟩
        | panicked c => exact hQ _ _ _ he
        | outgrown => exact he
    | halt x w' =>
      cases x <;> simp only [Oper.uponIn] at h ⊢
      case panic u => exact hQ _ _ _ h
  · rename_i hw
    simp only [hw] at h
    exact ⟨h.1, keep a hy _, by rw [← Act.put_comm a v undef h2]; exact h.2⟩
theorem take_first {i : Nat} {oi : Oper} {v : Value} (hnd : NoDefer ops) (hi : ops[i]? = some oi) (hsel : ∀ (j : Nat) (o : Oper) cs b, ops[j]? = some o → o.op ≠ .select cs b)
    (hQ : ∀ c a w, Q (.panic c) (a.put oi.dst v) w → Q (.panic c) a w) :
    ∀ (fuel : Nat) (listed : Array Bool) (a : Act) (w : World),
      (∀ j oj, ops[j]? = some oj → j ≠ i → listed.getD j true = false → (∀ e ∈ oj.after, Region.binds md e = true → e.on ≠ i) → oi.apart ops oj = true) →
      i ∈ Region.ready md ops listed → YieldsFenced P ops oi v a →
      wpAnyIn F n P md ops Q fuel (listed.setIfInBounds i true) (a.put oi.dst v) w → wpAnyIn F n P md ops Q (fuel + 1) listed a w := by
  intro fuel
  induction fuel with
  | zero =>
    intro listed a w _ hr hy H
    refine ⟨fun h => (by rw [h] at hr; cases hr), fun j hj => ?_⟩
    by_cases hji : j = i
    · subst hji; exact take_op hnd hi hy H
    · have := ready_mono hj hji
      rw [H.1] at this
      cases this
  | succ fuel ih =>
    intro listed a w hfree hr hy H
    refine ⟨fun h => (by rw [h] at hr; cases hr), fun j hj => ?_⟩
    by_cases hji : j = i
    · subst hji; exact take_op hnd hi hy H
    · have h1 := H.2 j (ready_mono hj hji)
      obtain ⟨hjun, oj, hoj, hall⟩ := mem_ready.1 hj
      have hnot : ∀ e ∈ oj.after, Region.binds md e = true → e.on ≠ i := fun e he hb heq => by
        have h1 := hall e he hb
        have h0 := (mem_ready.1 hr).1
        rw [heq] at h1
        rcases Nat.lt_or_ge i listed.size with h' | h'
        · simp [h'] at h0 h1; rw [h0] at h1; cases h1
        · simp [Array.getElem?_eq_none h'] at h1
      have h2 := take_put hnd hoj (hfree j oj hoj hji hjun hnot) (fun cs b => hsel i oi cs b hi) (fun cs b => hsel j oj cs b hoj) hQ hy h1
      have hfree' : ∀ k ok, ops[k]? = some ok → k ≠ i → (listed.setIfInBounds j true).getD k true = false →
          (∀ e ∈ ok.after, Region.binds md e = true → e.on ≠ i) → oi.apart ops ok = true := fun k ok hk hki hun hno => by
        refine hfree k ok hk hki ?_ hno
        by_cases hjk : j = k
        · subst hjk; exact hjun
        · rw [getD_set_ne true hjk] at hun; exact hun
      refine wpOpIn_mono (fun a' w' h3 => ih (listed.setIfInBounds j true) a' w' hfree' (ready_mono hr (Ne.symm hji)) h3.1 ?_) h2
      rw [Array.setIfInBounds_comm _ _ hji]
      exact h3.2
theorem take_it {i : Nat} {oi : Oper} {v : Value} {fuel : Nat} {listed : Array Bool} {a : Act} {w : World} (hnd : noDeferB ops = true) (hi : ops[i]? = some oi)
    (hs : Region.noSelect ops = true) (hf : Region.free md ops listed i = true) (hr : (Region.ready md ops listed).contains i = true)
    (hQ : ∀ c a w, Q (.panic c) (a.put oi.dst v) w → Q (.panic c) a w) (hy : YieldsFenced P ops oi v a)
    (h : wpAnyIn F n P md ops Q fuel (listed.setIfInBounds i true) (a.put oi.dst v) w) : wpAnyIn F n P md ops Q (fuel + 1) listed a w :=
  take_first (noDefer_of hnd) hi (Region.noSelect_spec hs) hQ fuel listed a w (Region.free_spec hi hf) (by simpa using hr) hy h
end
end Go.Proofs.YtfojidcbcpkpmaaGreatDoor
end
section
set_option linter.unusedVariables false
namespace Go.Proofs.YtfojidcbcpkpmaaGreatDoor
open Go Go.RowKit Go.Shelf Go.Proofs.YtfojidcbcpkpmaaGreatDoorW.PrintWords Go.Proofs.YtfojidcbcpkpmaaGreatDoor.P
attribute [local go_sem] Oper.semAt_some
def hexByte (k : Nat) : UInt8 := if k < 10 then (48 + k).toUInt8 else (87 + k).toUInt8
/-- What stands in quotes for a rune. -/
def quotePiece (x : Int × ByteArray) : List UInt8 :=
  if x.1 = 34 then 92 :: x.2.data.toList
  else if x.1 = 92 then 92 :: x.2.data.toList
  else if x.1 = 10 then [92, 110]
  else if x.1 = 13 then [92, 114]
  else if x.1 = 9 then [92, 116]
  else if x.1 < 32 ∨ x.1 = 127 ∨ (x.1 = 65533 ∧ x.2.size = 1) then [92, 120, hexByte ((x.2.get! 0).toNat / 16), hexByte ((x.2.get! 0).toNat % 16)]
  else x.2.data.toList
def quoteBytes (s : ByteArray) : List UInt8 := 34 :: (piecesOf s).flatMap quotePiece ++ [34]
theorem quotePiece_length (x : Int × ByteArray) (h : PieceOk x) : (quotePiece x).length ≤ 5 := by
  obtain ⟨_, h4, _, _⟩ := h
  have e : x.2.data.toList.length = x.2.size := by rw [Array.length_toList]; rfl
  unfold quotePiece
  repeat' split
  all_goals (first | (simp only [List.length_cons, List.length_nil]; omega) | omega)
theorem flatMap_length (l : List (Int × ByteArray)) (h : ∀ x ∈ l, PieceOk x) : (l.flatMap quotePiece).length ≤ 5 * l.length := by
  induction l with
  | nil => simp
  | cons x l ih =>
    have h1 := quotePiece_length x (h x (by simp))
    have h2 := ih (fun y hy => h y (by simp [hy]))
    simp only [List.flatMap_cons, List.length_append, List.length_cons]
    omega
def hexDigits : ByteArray := { data := #[48, 49, 50, 51, 52, 53, 54, 55, 56, 57, 97, 98, 99, 100, 101, 102] }
theorem hex_get (k : Nat) (hk : k < 16) (h : (k : Int).toNat < hexDigits.size) : hexDigits[(k : Int).toNat]'h = hexByte k := by
  obtain rfl | rfl | rfl | rfl | rfl | rfl | rfl | rfl | rfl | rfl | rfl | rfl | rfl | rfl | rfl | rfl : k = 0 ∨ k = 1 ∨ k = 2 ∨ k = 3 ∨ k = 4 ∨ k = 5 ∨ k = 6 ∨ k = 7 ∨ k = 8 ∨ k = 9 ∨ k = 10 ∨ k = 11 ∨ k = 12 ∨ k = 13 ∨ k = 14 ∨ k = 15 := by omega
  all_goals rfl
theorem hex_encode (k : Nat) (hk : k < 16) : Utf8.encode ((hexByte k).toNat : Int) = { data := #[hexByte k] } := by
  obtain rfl | rfl | rfl | rfl | rfl | rfl | rfl | rfl | rfl | rfl | rfl | rfl | rfl | rfl | rfl | rfl : k = 0 ∨ k = 1 ∨ k = 2 ∨ k = 3 ∨ k = 4 ∨ k = 5 ∨ k = 6 ∨ k = 7 ∨ k = 8 ∨ k = 9 ∨ k = 10 ∨ k = 11 ∨ k = 12 ∨ k = 13 ∨ k = 14 ∨ k = 15 := by omega
  all_goals kernel_rfl
theorem hex_ok (k : Nat) (hk : k < 16) (P : Program) (w : World) (r : Sem Value) : ((if h : (k : Int) < 16 then Result.ok (Value.int .u8 ((hexDigits[(k : Int).toNat]'(by have : hexDigits.size = 16 := rfl; omega)).toNat : Int)) w else Sem.run P r w).andThen fun a w' => Result.ok (Next.value a) w') = Result.ok (Next.value (.int .u8 ((hexByte k).toNat : Int))) w := by
  rw [dif_pos (by omega), hex_get k hk]
  rfl
section
variable {x : Int × ByteArray}
theorem qp34 (h : (x.1 == 34) = true) : ({ data := #[92] } ++ x.2 : ByteArray).data.toList = quotePiece x := by
  have h := beq_iff_eq.1 h
  unfold quotePiece
  rw [if_pos h]; simp
theorem qp92 (h : (x.1 == 34) = false) (h2 : (x.1 == 92) = true) : ({ data := #[92] } ++ x.2 : ByteArray).data.toList = quotePiece x := by
  have h := beq_eq_false_iff_ne.1 h
  have h2 := beq_iff_eq.1 h2
  unfold quotePiece
  rw [if_neg h, if_pos h2]; simp
theorem qp10 (h : (x.1 == 10) = true) : ({ data := #[92, 110] } : ByteArray).data.toList = quotePiece x := by
  have h := beq_iff_eq.1 h
  unfold quotePiece
  rw [if_neg (by omega), if_neg (by omega), if_pos h]
theorem qp13 (h : (x.1 == 13) = true) : ({ data := #[92, 114] } : ByteArray).data.toList = quotePiece x := by
  have h := beq_iff_eq.1 h
  unfold quotePiece
  rw [if_neg (by omega), if_neg (by omega), if_neg (by omega), if_pos h]
theorem qp9 (h : (x.1 == 9) = true) : ({ data := #[92, 116] } : ByteArray).data.toList = quotePiece x := by
  have h := beq_iff_eq.1 h
  unfold quotePiece
  rw [if_neg (by omega), if_neg (by omega), if_neg (by omega), if_neg (by omega), if_pos h]
theorem qp_none (a : (x.1 == 34) = false) (b : (x.1 == 92) = false) (c : (x.1 == 10) = false) (d : (x.1 == 13) = false) (e : (x.1 == 9) = false) :
    quotePiece x = if x.1 < 32 ∨ x.1 = 127 ∨ (x.1 = 65533 ∧ x.2.size = 1) then [92, 120, hexByte ((x.2.get! 0).toNat / 16), hexByte ((x.2.get! 0).toNat % 16)] else x.2.data.toList := by
  have a := beq_eq_false_iff_ne.1 a
  have b := beq_eq_false_iff_ne.1 b
  have c := beq_eq_false_iff_ne.1 c
  have d := beq_eq_false_iff_ne.1 d
  have e := beq_eq_false_iff_ne.1 e
  unfold quotePiece
  rw [if_neg a, if_neg b, if_neg c, if_neg d, if_neg e]
theorem qp_self1 (a : (x.1 == 34) = false) (b : (x.1 == 92) = false) (c : (x.1 == 10) = false) (d : (x.1 == 13) = false) (e : (x.1 == 9) = false)
    (f : 32 ≤ x.1) (g : (x.1 == 127) = false) (h : ((x.2.size : Int) == 1) = false) : x.2.data.toList = quotePiece x := by
  have g := beq_eq_false_iff_ne.1 g
  have h := beq_eq_false_iff_ne.1 h
  rw [qp_none a b c d e, if_neg (by omega)]
theorem qp_self2 (a : (x.1 == 34) = false) (b : (x.1 == 92) = false) (c : (x.1 == 10) = false) (d : (x.1 == 13) = false) (e : (x.1 == 9) = false)
    (f : 32 ≤ x.1) (g : (x.1 == 127) = false) (h : ¬ x.1 = 65533) : x.2.data.toList = quotePiece x := by
  have g := beq_eq_false_iff_ne.1 g
  rw [qp_none a b c d e, if_neg (by omega)]
theorem qp_hex {k1 k2 cc : Nat} (hx : 0 < x.2.size) (hcc : (x.2[0]'hx).toNat = cc) (h1 : k1 = cc / 16) (h2 : k2 = cc % 16) (a : (x.1 == 34) = false) (b : (x.1 == 92) = false) (c : (x.1 == 10) = false) (d : (x.1 == 13) = false) (e : (x.1 == 9) = false)
    (f : x.1 < 32 ∨ x.1 = 127 ∨ (x.1 = 65533 ∧ x.2.size = 1)) : [92, 120, hexByte k1, hexByte k2] = quotePiece x := by
  have h0 : x.2.get! 0 = x.2[0]'hx := by
    show x.2.data[0]! = _
    exact getElem!_pos x.2.data 0 hx
  rw [qp_none a b c d e, if_pos f, h0, hcc, h1, h2]
end
/-- What the body keeps. -/
def QuoteI (w : World) (b Bs : Nat) (pre : List (Int × ByteArray)) (W : World) : Prop :=
  Bld w.heap.size b (34 :: pre.flatMap quotePiece) W ∧ (∃ sv : ByteArray, Boxed W Bs 9 (.string sv)) ∧ Below w.heap.size w W
theorem QuoteI.own {w : World} {b Bs B : Nat} (hB : w.heap.size ≤ B) : OwnFrom B (QuoteI w b Bs) := by
  rintro s W W' row ⟨hv, ⟨sv, hs⟩, hb⟩ hg hrow
  refine ⟨bldF_grown hv hg (fun r e => (hrow r e).2), ⟨sv, hs.kept hg fun e' => ?_⟩, hb.grown hg hb.size (fun k e' => Nat.le_trans hB (hrow k e').1)⟩
  obtain ⟨_, o, ho, hc⟩ := hrow Bs e'.symm
  rw [show W.heap[Bs]? = _ from hs] at ho; cases ho; cases hc
theorem QuoteI.step {w : World} {b Bs : Nat} (hle : w.heap.size ≤ Bs) : ∀ s X Y, QuoteI w b Bs s X → EachSt Bs X Y → QuoteI w b Bs s Y := by
  rintro s X Y ⟨hv, ⟨sv, hs⟩, hb⟩ (h | ⟨u, rfl⟩)
  · exact ⟨bldF_below hv h, ⟨sv, Boxed.below hs h⟩, hb.trans (h.mono hb.size)⟩
  · exact ⟨bldF_box hv hs (by decide) (by decide) _, ⟨u, hs.set _⟩, hb.setCell (p := ⟨Bs, 0, none⟩) hle _⟩
theorem quote_round {w W w3 : World} {b Bs B : Nat} {pre : List (Int × ByteArray)} {x : Int × ByteArray} {sv : ByteArray} {L : List UInt8} {Ix : Code → List (Int × ByteArray) → World → Prop} {a : Act}
    (h3 : Bld w.heap.size b (34 :: pre.flatMap quotePiece ++ L) w3) (hb3 : Below w.heap.size W w3) (hk3 : Lib.OthersKept 5 (some b) W w3) (hsv : Boxed W Bs 9 (.string sv)) (hB : Below w.heap.size w W)
    (hne : Bs ≠ b) (hbB : b < B) (e : L = quotePiece x) : ownPostG B (EachKp w.heap.size Bs) (QuoteI w b Bs) Ix (pre ++ [x]) W .normal a w3 := by
  have hs3 : Boxed w3 Bs 9 (.string sv) := Boxed.others hsv hk3 hne (by decide)
  refine ⟨⟨hb3.size, fun k o hk ho hc => hk3 k o ho (fun e' => by have := Option.some.inj e'; omega) (fun c fz e' => by rw [e'] at hc; cases hc)⟩, ⟨hb3, fun u hu => ?_⟩, ?_, ⟨sv, hs3⟩, hB.trans hb3⟩
  · rw [hsv.cell] at hu
    cases hu
    exact ⟨hs3.cell, fun _ => hs3.frozen⟩
  · rw [e] at h3
    simpa using h3
set_option maxRecDepth 100000 in
set_option maxHeartbeats 4000000 in
theorem quote_calls (s : ByteArray) (hs : s.size ≤ 17592186044416) (w : World) (hG : Aside0 (G w)) : Calls Tryz.prog 9 #[.string s] w fun e w' =>
    e = .returned (.string ⟨(quoteBytes s).toArray⟩) ∧ Below w.heap.size w w' := by
  refine (callsIn_wide (n := 5)).1 ?_
  refine callsIn_of_wp_marks Tryz.func9 rfl trivial ?_ rfl
  simp only [Tryz.ntmps9, List.size_toArray, List.length_cons, List.length_nil, Nat.reduceAdd, Nat.reduceSub, Array.replicate_succ, Array.replicate_zero, List.push_toArray, List.append_toArray, List.nil_append, List.cons_append]
  have hnew := bld_new w
  gi_wp2_with (refine ⟨trivial, ?_⟩; gi_at_call 16; refine (callsIn_wide.2 (bld_WriteByte w.heap.size w.heap.size [] 34 _ hnew (by simp) (by simp))).mono ?_; rintro e w1 ⟨rfl, h1, hb1, hk1⟩)
  have hb0 : Below w.heap.size w w1 := ((Below.refl _ w).alloc (Nat.le_refl _) _).trans hb1
  have hsz1 : w.heap.size + 1 ≤ w1.heap.size := by have := hb1.size; simp at this; exact this
  clear hb1 hk1 hnew
  gi_wp2_with (refine ⟨trivial, ?_⟩; gi_at_call 20; refine (callsIn_wide.2 (each_calls s _)).mono ?_; rintro e w2 ⟨rfl, rfl⟩)
  have hsz : (w1.alloc (.cells #[.string s] 9)).heap.size = w1.heap.size + 1 := by simp
  have hb2 : Below w.heap.size w (w1.alloc (.cells #[.string s] 9)) := hb0.alloc hb0.size _
  have bx1 : Boxed (w1.alloc (.cells #[.string s] 9)) w1.heap.size 9 (.string s) := Boxed.new w1 _ _
  have hbl : Bld w.heap.size w.heap.size [34] (w1.alloc (.cells #[.string s] 9)) := Lib.IsBuilderF.alloc h1 _
  refine wpIn_rangeSteps rfl (by omega) (gf := 31) (lb := #[.pointer (some ⟨w1.heap.size, 0, none⟩)]) rfl trivial (enters_of Tryz.func31 (by kernel_rfl) rfl)
    (each1_steps (5 - 1) (by omega) s (by omega) w1.heap.size w _ hG hb2 (by omega) bx1.cell bx1.frozen)
    (fun h k => h.trans' k) (fun W l o o' hl ho hc _ => EachKp.putObj' (Nat.le_refl _) W l o o' (by rw [hsz] at hl; omega) ho hc)
    (EachSt.keeps (by rw [hsz]; omega)) (Below.refl _ _) (fun _ => rfl)
    (QuoteI w w.heap.size w1.heap.size) (fun _ _ _ => False)
    (QuoteI.own (by rw [hsz]; omega)) (fun _ _ _ _ _ h => h.elim)
    (QuoteI.step (by omega)) (fun _ _ _ _ h => h.elim)
    ⟨hbl, ⟨s, bx1⟩, hb2⟩
    (fun x => { tmps := (#[.string s, undef, .string { data := #[] }, .pointer (some ⟨w.heap.size, 0, none⟩), .int .i32 x.1, .string x.2, undef, .nilIface, .string s, .func (.func 31) #[] #[.pointer (some ⟨w1.heap.size, 0, none⟩)], .int .i32 x.1, .string x.2] ++ Array.replicate 50 undef : Array Value), defers := [] }) ?assign ?body ?done ?stop
  case assign =>
    intro l x W K hK
    simp only [Array.replicate_succ, Array.replicate_zero, List.push_toArray, List.append_toArray, List.nil_append, List.cons_append] at hK
    gi_wp2
    exact hK
  case body =>
    rintro l pre x W ⟨hv, ⟨sv, hsv⟩, hB⟩ hal
    simp only [Array.replicate_succ, Array.replicate_zero, List.push_toArray, List.append_toArray, List.nil_append, List.cons_append]
    obtain ⟨hx1, hx2, hx3, hx4⟩ : PieceOk x := piecesOf_ok s x (hal.subset (by simp))
    have hlen : (34 :: pre.flatMap quotePiece).length ≤ 87960930222081 := by
      have h1 := hal.length_le
      have h2 := piecesOf_length s
      have h3 := flatMap_length pre (fun y hy => piecesOf_ok s y (hal.subset (by simp [hy])))
      simp at h1
      rw [List.length_cons]
      omega
    have HWS : Aside0 (∀ S : ByteArray, S.size ≤ 5 → Calls Tryz.prog 15 #[.pointer (some ⟨w.heap.size, 0, none⟩), .string S] W fun e w' => e = .returned (.tuple #[.int .i64 S.size, .nilIface]) ∧ Bld w.heap.size w.heap.size (34 :: pre.flatMap quotePiece ++ S.data.toList) w' ∧ Below w.heap.size W w' ∧ Lib.OthersKept 5 (some w.heap.size) W w') :=
      ⟨fun S hS => bld_WriteString w.heap.size w.heap.size (34 :: pre.flatMap quotePiece) S W hv (by omega) hB.size⟩
    have HWD : Aside0 (∀ k1 k2 : Nat, Calls Tryz.prog 15 #[.pointer (some ⟨w.heap.size, 0, none⟩), .string { data := #[92, 120, hexByte k1, hexByte k2] }] W.drew fun e w' => e = .returned (.tuple #[.int .i64 (({ data := #[92, 120, hexByte k1, hexByte k2] } : ByteArray).size), .nilIface]) ∧ Bld w.heap.size w.heap.size (34 :: pre.flatMap quotePiece ++ [92, 120, hexByte k1, hexByte k2]) w' ∧ Below w.heap.size W w' ∧ Lib.OthersKept 5 (some w.heap.size) W w') :=
      ⟨fun k1 k2 => (bld_WriteString w.heap.size w.heap.size (34 :: pre.flatMap quotePiece) { data := #[92, 120, hexByte k1, hexByte k2] } W.drew hv (by show _ + 4 ≤ _; omega) hB.size).mono (fun e w' h => ⟨h.1, h.2.1, ⟨h.2.2.1.os, h.2.2.1.tape, h.2.2.1.output, h.2.2.1.size, h.2.2.1.block⟩, h.2.2.2⟩)⟩
    gi_wp2_with fail
    rotate_left 5
    · generalize hcc : x.2[0].toNat = cc
      have hc256 : cc < 256 := by rw [← hcc]; exact UInt8.toNat_lt _
      have HCC := Aside0.mk hcc
      clear hcc
      obtain ⟨k1, hk1, ew1⟩ : ∃ k1 : Nat, k1 = cc / 16 ∧ IntKind.u8.wrap ((cc : Int) / 16) = (k1 : Int) := ⟨cc / 16, rfl, by rw [IntKind.wrap_u8]; omega⟩
      obtain ⟨k2, hk2, ew2⟩ : ∃ k2 : Nat, k2 = cc % 16 ∧ (cc : Int).tmod 16 = (k2 : Int) := ⟨cc % 16, rfl, by rw [Int.tmod_eq_emod_of_nonneg (by omega)]; omega⟩
      have l1 : k1 < 16 := by omega
      have l2 : k2 < 16 := by omega
      have EW1 := Aside0.mk ew1
      have EW2 := Aside0.mk ew2
      have EK1 := Aside0.mk hk1
      have EK2 := Aside0.mk hk2
      clear ew1 ew2 hk1 hk2
      refine wpIn_region_any (by kernel_rfl) ?_
      try (change wpAnyIn _ _ _ _ _ _ _ _ _ (World.drew _))
      refine take_it (i := 0) (v := ?_) (by kernel_rfl) rfl (by kernel_rfl) (by kernel_rfl) (by kernel_rfl) (fun _ _ _ h => h) ⟨Or.inl ⟨by rfl, ?hy0⟩, fun _ => rfl⟩ ?_
      case hy0 => intro w; go_simp; with_reducible rfl
      refine take_it (i := 1) (v := .int .u8 (k1 : Int)) (by kernel_rfl) rfl (by kernel_rfl) (by kernel_rfl) (by kernel_rfl) (fun _ _ _ h => h) ⟨Or.inl ⟨by rfl, ?hy1⟩, fun _ => rfl⟩ ?_
      case hy1 => intro w; go_simp; rw [EW1.out]
      refine take_it (i := 2) (v := .int .u8 ((hexByte k1).toNat : Int)) (by kernel_rfl) rfl (by kernel_rfl) (by kernel_rfl) (by kernel_rfl) (fun _ _ _ h => h) ⟨Or.inl ⟨by rfl, ?hy2⟩, fun _ => rfl⟩ ?_
      case hy2 => intro w; go_simp; exact hex_ok k1 l1 _ _ _
      refine take_it (i := 3) (v := .string { data := #[hexByte k1] }) (by kernel_rfl) rfl (by kernel_rfl) (by kernel_rfl) (by kernel_rfl) (fun _ _ _ h => h) ⟨Or.inl ⟨by rfl, ?hy3⟩, fun _ => rfl⟩ ?_
      case hy3 => intro w; go_simp; exact hex_encode k1 l1
      refine take_it (i := 4) (v := .string { data := #[92, 120, hexByte k1] }) (by kernel_rfl) rfl (by kernel_rfl) (by kernel_rfl) (by kernel_rfl) (fun _ _ _ h => h) ⟨Or.inl ⟨by rfl, ?hy4⟩, fun _ => rfl⟩ ?_
      case hy4 => intro w; go_simp; rfl
      refine take_it (i := 5) (v := ?_) (by kernel_rfl) rfl (by kernel_rfl) (by kernel_rfl) (by kernel_rfl) (fun _ _ _ h => h) ⟨Or.inl ⟨by rfl, ?hy5⟩, fun _ => rfl⟩ ?_
      case hy5 => intro w; go_simp; with_reducible rfl
      refine take_it (i := 6) (v := .int .u8 (k2 : Int)) (by kernel_rfl) rfl (by kernel_rfl) (by kernel_rfl) (by kernel_rfl) (fun _ _ _ h => h) ⟨Or.inl ⟨by rfl, ?hy6⟩, fun _ => rfl⟩ ?_
      case hy6 => intro w; go_simp; rw [EW2.out]
      refine take_it (i := 7) (v := .int .u8 ((hexByte k2).toNat : Int)) (by kernel_rfl) rfl (by kernel_rfl) (by kernel_rfl) (by kernel_rfl) (fun _ _ _ h => h) ⟨Or.inl ⟨by rfl, ?hy7⟩, fun _ => rfl⟩ ?_
      case hy7 => intro w; go_simp; exact hex_ok k2 l2 _ _ _
      refine take_it (i := 8) (v := .string { data := #[hexByte k2] }) (by kernel_rfl) rfl (by kernel_rfl) (by kernel_rfl) (by kernel_rfl) (fun _ _ _ h => h) ⟨Or.inl ⟨by rfl, ?hy8⟩, fun _ => rfl⟩ ?_
      case hy8 => intro w; go_simp; exact hex_encode k2 l2
      refine take_it (i := 9) (v := .string { data := #[92, 120, hexByte k1, hexByte k2] }) (by kernel_rfl) rfl (by kernel_rfl) (by kernel_rfl) (by kernel_rfl) (fun _ _ _ h => h) ⟨Or.inl ⟨by rfl, ?hy9⟩, fun _ => rfl⟩ ?_
      case hy9 => intro w; go_simp; rfl
      refine wpAnyIn_ready (rs := [10]) (by kernel_rfl) (by simp) ?_
      refine AllReadyIn.cons rfl (fun K hK => ?_) AllReadyIn.nil
      go_simp
      refine ⟨trivial, (CallsIn.inRound l (callsIn_wide.2 (HWD.out k1 k2))).mono ?_⟩
      rintro e w3 ⟨rfl, h3, hb3, hk3⟩
      refine hK _ _ ?_
      clear hK K
      refine wpAnyIn_done (by kernel_rfl) ?_ _
      gi_wp2
      exact quote_round h3 hb3 hk3 hsv hB (by omega) (by rw [hsz]; omega) (qp_hex hx1 HCC.out EK1.out EK2.out ‹_› ‹_› ‹_› ‹_› ‹_› (by first | exact .inl ‹_› | exact .inr (.inl (beq_iff_eq.1 ‹(x.1 == 127) = true›)) | exact .inr (.inr ⟨‹_›, by have := beq_iff_eq.1 ‹((x.2.size : Int) == 1) = true›; omega⟩)))
    · generalize hcc : x.2[0].toNat = cc
      have hc256 : cc < 256 := by rw [← hcc]; exact UInt8.toNat_lt _
      have HCC := Aside0.mk hcc
      clear hcc
      obtain ⟨k1, hk1, ew1⟩ : ∃ k1 : Nat, k1 = cc / 16 ∧ IntKind.u8.wrap ((cc : Int) / 16) = (k1 : Int) := ⟨cc / 16, rfl, by rw [IntKind.wrap_u8]; omega⟩
      obtain ⟨k2, hk2, ew2⟩ : ∃ k2 : Nat, k2 = cc % 16 ∧ (cc : Int).tmod 16 = (k2 : Int) := ⟨cc % 16, rfl, by rw [Int.tmod_eq_emod_of_nonneg (by omega)]; omega⟩
      have l1 : k1 < 16 := by omega
      have l2 : k2 < 16 := by omega
      have EW1 := Aside0.mk ew1
      have EW2 := Aside0.mk ew2
      have EK1 := Aside0.mk hk1
      have EK2 := Aside0.mk hk2
      clear ew1 ew2 hk1 hk2
      refine wpIn_region_any (by kernel_rfl) ?_
      try (change wpAnyIn _ _ _ _ _ _ _ _ _ (World.drew _))
      refine take_it (i := 0) (v := ?_) (by kernel_rfl) rfl (by kernel_rfl) (by kernel_rfl) (by kernel_rfl) (fun _ _ _ h => h) ⟨Or.inl ⟨by rfl, ?hy0⟩, fun _ => rfl⟩ ?_
      case hy0 => intro w; go_simp; with_reducible rfl
      refine take_it (i := 1) (v := .int .u8 (k1 : Int)) (by kernel_rfl) rfl (by kernel_rfl) (by kernel_rfl) (by kernel_rfl) (fun _ _ _ h => h) ⟨Or.inl ⟨by rfl, ?hy1⟩, fun _ => rfl⟩ ?_
      case hy1 => intro w; go_simp; rw [EW1.out]
      refine take_it (i := 2) (v := .int .u8 ((hexByte k1).toNat : Int)) (by kernel_rfl) rfl (by kernel_rfl) (by kernel_rfl) (by kernel_rfl) (fun _ _ _ h => h) ⟨Or.inl ⟨by rfl, ?hy2⟩, fun _ => rfl⟩ ?_
      case hy2 => intro w; go_simp; exact hex_ok k1 l1 _ _ _
      refine take_it (i := 3) (v := .string { data := #[hexByte k1] }) (by kernel_rfl) rfl (by kernel_rfl) (by kernel_rfl) (by kernel_rfl) (fun _ _ _ h => h) ⟨Or.inl ⟨by rfl, ?hy3⟩, fun _ => rfl⟩ ?_
      case hy3 => intro w; go_simp; exact hex_encode k1 l1
      refine take_it (i := 4) (v := .string { data := #[92, 120, hexByte k1] }) (by kernel_rfl) rfl (by kernel_rfl) (by kernel_rfl) (by kernel_rfl) (fun _ _ _ h => h) ⟨Or.inl ⟨by rfl, ?hy4⟩, fun _ => rfl⟩ ?_
      case hy4 => intro w; go_simp; rfl
      refine take_it (i := 5) (v := ?_) (by kernel_rfl) rfl (by kernel_rfl) (by kernel_rfl) (by kernel_rfl) (fun _ _ _ h => h) ⟨Or.inl ⟨by rfl, ?hy5⟩, fun _ => rfl⟩ ?_
      case hy5 => intro w; go_simp; with_reducible rfl
      refine take_it (i := 6) (v := .int .u8 (k2 : Int)) (by kernel_rfl) rfl (by kernel_rfl) (by kernel_rfl) (by kernel_rfl) (fun _ _ _ h => h) ⟨Or.inl ⟨by rfl, ?hy6⟩, fun _ => rfl⟩ ?_
      case hy6 => intro w; go_simp; rw [EW2.out]
      refine take_it (i := 7) (v := .int .u8 ((hexByte k2).toNat : Int)) (by kernel_rfl) rfl (by kernel_rfl) (by kernel_rfl) (by kernel_rfl) (fun _ _ _ h => h) ⟨Or.inl ⟨by rfl, ?hy7⟩, fun _ => rfl⟩ ?_
      case hy7 => intro w; go_simp; exact hex_ok k2 l2 _ _ _
      refine take_it (i := 8) (v := .string { data := #[hexByte k2] }) (by kernel_rfl) rfl (by kernel_rfl) (by kernel_rfl) (by kernel_rfl) (fun _ _ _ h => h) ⟨Or.inl ⟨by rfl, ?hy8⟩, fun _ => rfl⟩ ?_
      case hy8 => intro w; go_simp; exact hex_encode k2 l2
      refine take_it (i := 9) (v := .string { data := #[92, 120, hexByte k1, hexByte k2] }) (by kernel_rfl) rfl (by kernel_rfl) (by kernel_rfl) (by kernel_rfl) (fun _ _ _ h => h) ⟨Or.inl ⟨by rfl, ?hy9⟩, fun _ => rfl⟩ ?_
      case hy9 => intro w; go_simp; rfl
      refine wpAnyIn_ready (rs := [10]) (by kernel_rfl) (by simp) ?_
      refine AllReadyIn.cons rfl (fun K hK => ?_) AllReadyIn.nil
      go_simp
      refine ⟨trivial, (CallsIn.inRound l (callsIn_wide.2 (HWD.out k1 k2))).mono ?_⟩
      rintro e w3 ⟨rfl, h3, hb3, hk3⟩
      refine hK _ _ ?_
      clear hK K
      refine wpAnyIn_done (by kernel_rfl) ?_ _
      gi_wp2
      exact quote_round h3 hb3 hk3 hsv hB (by omega) (by rw [hsz]; omega) (qp_hex hx1 HCC.out EK1.out EK2.out ‹_› ‹_› ‹_› ‹_› ‹_› (by first | exact .inl ‹_› | exact .inr (.inl (beq_iff_eq.1 ‹(x.1 == 127) = true›)) | exact .inr (.inr ⟨‹_›, by have := beq_iff_eq.1 ‹((x.2.size : Int) == 1) = true›; omega⟩)))
    · generalize hcc : x.2[0].toNat = cc
      have hc256 : cc < 256 := by rw [← hcc]; exact UInt8.toNat_lt _
      have HCC := Aside0.mk hcc
      clear hcc
      obtain ⟨k1, hk1, ew1⟩ : ∃ k1 : Nat, k1 = cc / 16 ∧ IntKind.u8.wrap ((cc : Int) / 16) = (k1 : Int) := ⟨cc / 16, rfl, by rw [IntKind.wrap_u8]; omega⟩
      obtain ⟨k2, hk2, ew2⟩ : ∃ k2 : Nat, k2 = cc % 16 ∧ (cc : Int).tmod 16 = (k2 : Int) := ⟨cc % 16, rfl, by rw [Int.tmod_eq_emod_of_nonneg (by omega)]; omega⟩
      have l1 : k1 < 16 := by omega
      have l2 : k2 < 16 := by omega
      have EW1 := Aside0.mk ew1
      have EW2 := Aside0.mk ew2
      have EK1 := Aside0.mk hk1
      have EK2 := Aside0.mk hk2
      clear ew1 ew2 hk1 hk2
      refine wpIn_region_any (by kernel_rfl) ?_
      try (change wpAnyIn _ _ _ _ _ _ _ _ _ (World.drew _))
      refine take_it (i := 0) (v := ?_) (by kernel_rfl) rfl (by kernel_rfl) (by kernel_rfl) (by kernel_rfl) (fun _ _ _ h => h) ⟨Or.inl ⟨by rfl, ?hy0⟩, fun _ => rfl⟩ ?_
      case hy0 => intro w; go_simp; with_reducible rfl
      refine take_it (i := 1) (v := .int .u8 (k1 : Int)) (by kernel_rfl) rfl (by kernel_rfl) (by kernel_rfl) (by kernel_rfl) (fun _ _ _ h => h) ⟨Or.inl ⟨by rfl, ?hy1⟩, fun _ => rfl⟩ ?_
      case hy1 => intro w; go_simp; rw [EW1.out]
      refine take_it (i := 2) (v := .int .u8 ((hexByte k1).toNat : Int)) (by kernel_rfl) rfl (by kernel_rfl) (by kernel_rfl) (by kernel_rfl) (fun _ _ _ h => h) ⟨Or.inl ⟨by rfl, ?hy2⟩, fun _ => rfl⟩ ?_
      case hy2 => intro w; go_simp; exact hex_ok k1 l1 _ _ _
      refine take_it (i := 3) (v := .string { data := #[hexByte k1] }) (by kernel_rfl) rfl (by kernel_rfl) (by kernel_rfl) (by kernel_rfl) (fun _ _ _ h => h) ⟨Or.inl ⟨by rfl, ?hy3⟩, fun _ => rfl⟩ ?_
      case hy3 => intro w; go_simp; exact hex_encode k1 l1
      refine take_it (i := 4) (v := .string { data := #[92, 120, hexByte k1] }) (by kernel_rfl) rfl (by kernel_rfl) (by kernel_rfl) (by kernel_rfl) (fun _ _ _ h => h) ⟨Or.inl ⟨by rfl, ?hy4⟩, fun _ => rfl⟩ ?_
      case hy4 => intro w; go_simp; rfl
      refine take_it (i := 5) (v := ?_) (by kernel_rfl) rfl (by kernel_rfl) (by kernel_rfl) (by kernel_rfl) (fun _ _ _ h => h) ⟨Or.inl ⟨by rfl, ?hy5⟩, fun _ => rfl⟩ ?_
      case hy5 => intro w; go_simp; with_reducible rfl
      refine take_it (i := 6) (v := .int .u8 (k2 : Int)) (by kernel_rfl) rfl (by kernel_rfl) (by kernel_rfl) (by kernel_rfl) (fun _ _ _ h => h) ⟨Or.inl ⟨by rfl, ?hy6⟩, fun _ => rfl⟩ ?_
      case hy6 => intro w; go_simp; rw [EW2.out]
      refine take_it (i := 7) (v := .int .u8 ((hexByte k2).toNat : Int)) (by kernel_rfl) rfl (by kernel_rfl) (by kernel_rfl) (by kernel_rfl) (fun _ _ _ h => h) ⟨Or.inl ⟨by rfl, ?hy7⟩, fun _ => rfl⟩ ?_
      case hy7 => intro w; go_simp; exact hex_ok k2 l2 _ _ _
      refine take_it (i := 8) (v := .string { data := #[hexByte k2] }) (by kernel_rfl) rfl (by kernel_rfl) (by kernel_rfl) (by kernel_rfl) (fun _ _ _ h => h) ⟨Or.inl ⟨by rfl, ?hy8⟩, fun _ => rfl⟩ ?_
      case hy8 => intro w; go_simp; exact hex_encode k2 l2
      refine take_it (i := 9) (v := .string { data := #[92, 120, hexByte k1, hexByte k2] }) (by kernel_rfl) rfl (by kernel_rfl) (by kernel_rfl) (by kernel_rfl) (fun _ _ _ h => h) ⟨Or.inl ⟨by rfl, ?hy9⟩, fun _ => rfl⟩ ?_
      case hy9 => intro w; go_simp; rfl
      refine wpAnyIn_ready (rs := [10]) (by kernel_rfl) (by simp) ?_
      refine AllReadyIn.cons rfl (fun K hK => ?_) AllReadyIn.nil
      go_simp
      refine ⟨trivial, (CallsIn.inRound l (callsIn_wide.2 (HWD.out k1 k2))).mono ?_⟩
      rintro e w3 ⟨rfl, h3, hb3, hk3⟩
      refine hK _ _ ?_
      clear hK K
      refine wpAnyIn_done (by kernel_rfl) ?_ _
      gi_wp2
      exact quote_round h3 hb3 hk3 hsv hB (by omega) (by rw [hsz]; omega) (qp_hex hx1 HCC.out EK1.out EK2.out ‹_› ‹_› ‹_› ‹_› ‹_› (by first | exact .inl ‹_› | exact .inr (.inl (beq_iff_eq.1 ‹(x.1 == 127) = true›)) | exact .inr (.inr ⟨‹_›, by have := beq_iff_eq.1 ‹((x.2.size : Int) == 1) = true›; omega⟩)))
    all_goals
      refine ⟨trivial, (CallsIn.inRound l (callsIn_wide.2 (HWS.out _ ?_))).mono ?_⟩
      · first | (simp only [ByteArray.size_append]; show 1 + _ ≤ 5; omega) | decide | omega
      · rintro e w3 ⟨rfl, h3, hb3, hk3⟩
        gi_wp2
        exact quote_round h3 hb3 hk3 hsv hB (by omega) (by rw [hsz]; omega) (by first | exact qp34 ‹_› | exact qp92 ‹_› ‹_› | exact qp10 ‹_› | exact qp13 ‹_› | exact qp9 ‹_› | exact qp_self1 ‹_› ‹_› ‹_› ‹_› ‹_› ‹_› ‹_› ‹_› | exact qp_self2 ‹_› ‹_› ‹_› ‹_› ‹_› ‹_› ‹_› ‹_›)
  case done =>
    rintro D ys W hD rfl ⟨hv, ⟨sv, hsv⟩, hB⟩ hK
    have hD' : w.heap.size + 2 ≤ D := by rw [hsz] at hD; omega
    have hlen : (34 :: (piecesOf s).flatMap quotePiece).length ≤ 87960930222081 := by
      have h2 := piecesOf_length s
      have h3 := flatMap_length (piecesOf s) (piecesOf_ok s)
      rw [List.length_cons]
      omega
    gi_wp2_with fail
    refine ⟨trivial, (callsIn_wide.2 (bld_WriteByte w.heap.size w.heap.size (34 :: (piecesOf s).flatMap quotePiece) 34 W hv (by omega) hB.size)).mono ?_⟩
    rintro e w3 ⟨rfl, h3, hb3, hk3⟩
    have hK3 := hk3 D _ hK (fun e' => by have := Option.some.inj e'; omega) (fun c fz e' => by cases e')
    have hB3 := hB.trans hb3
    clear hb3 hk3 hK hB hv hsv
    gi_wp2_with fail
    refine ⟨trivial, (callsIn_wide.2 (bld_String w.heap.size w.heap.size _ w3 h3 hB3.size)).mono ?_⟩
    rintro e w4 ⟨rfl, h4, hb4, hk4⟩
    have hK4 := hk4 D _ hK3 (fun e' => by have := Option.some.inj e'; omega) (fun c fz e' => by cases e')
    gi_wp2
    refine ⟨by simp, .inl ⟨_, _, rfl, run_takeDeferred hK4, ?_⟩⟩
    exact ⟨_, results_tmp rfl _ _ _, rfl, (hB3.trans hb4).trans (belowK_b (w := w) (Nat.le_refl _) _ D _ _ (by omega) hK4 rfl rfl)⟩
  case stop =>
    rintro D c pre W _ _ h _
    exact h.elim
end Go.Proofs.YtfojidcbcpkpmaaGreatDoor
namespace Go.Proofs.YtfojidcbcpkpmaaGreatDoor.P
open Go Go.RowKit Go.Proofs.YtfojidcbcpkpmaaGreatDoorW.PrintWords
def quote_Quote.f (a0 : ByteArray) : Option ByteArray := if a0.size ≤ 17592186044416 then some ⟨(quoteBytes a0).toArray⟩ else none
theorem quote_Quote.calls (a0 : ByteArray) (r : ByteArray) (w : World) (hG : Aside0 (G w)) (h : quote_Quote.f a0 = some r) :
    Calls Tryz.prog 9 #[.string a0] w fun e w' => e = .returned (.string r) ∧ Below w.heap.size w w' := by
  unfold quote_Quote.f at h
  split at h
  · cases h
    exact quote_calls a0 ‹_› w hG
  · cases h
end Go.Proofs.YtfojidcbcpkpmaaGreatDoor.P
end
section
set_option linter.unusedVariables false
namespace Go.Proofs.YtfojidcbcpkpmaaGreatDoor
open Go Go.RowKit Go.Lib Go.Proofs.YtfojidcbcpkpmaaGreatDoorW.PrintWords Go.Proofs.YtfojidcbcpkpmaaGreatDoorW.PrintLast Go.Proofs.YtfojidcbcpkpmaaGreatDoorW.PrintMore Go.Proofs.YtfojidcbcpkpmaaGreatDoor.P
def smallR (x : Nat) : Bool := decide (x ≤ 32)
def upperP (s : ByteArray) : ByteArray := ⟨(s.data.toList.map (turnB 97 (-32))).toArray⟩
def lowerP (s : ByteArray) : ByteArray := ⟨(s.data.toList.map (turnB 65 32)).toArray⟩
def trimP (s : ByteArray) : ByteArray := Lib.trimF smallR s
def quoteP (s : ByteArray) : ByteArray := (⟨(quoteBytes s).toArray⟩ : ByteArray).extract 0 (min ((⟨(quoteBytes s).toArray⟩ : ByteArray).size : Int) 4096).toNat
def lenP (s : ByteArray) : ByteArray := ⟨(Lib.itoa (s.size : Int)).toArray⟩
theorem fupper_calls (s : ByteArray) (hs : s.size ≤ 1099511627776) (w : World) :
    Calls Tryz.prog 128 #[.string s] w fun e w' => e = .returned (.string (upperP s)) ∧ Below w.heap.size w w' := by
  have HC := Aside0.mk (fun W => turned_calls s hs 97 (-32) (.inl ⟨rfl, rfl⟩) W)
  go_enter Tryz.func128, Tryz.ntmps128
  go_wp2_with (go_at_call 129; (with_reducible refine (HC.out _).mono ?_); rintro e w1 ⟨rfl, hd0⟩)
  go_ret
  exact ⟨rfl, hd0⟩
theorem flower_calls (s : ByteArray) (hs : s.size ≤ 1099511627776) (w : World) :
    Calls Tryz.prog 130 #[.string s] w fun e w' => e = .returned (.string (lowerP s)) ∧ Below w.heap.size w w' := by
  have HC := Aside0.mk (fun W => turned_calls s hs 65 32 (.inr ⟨rfl, rfl⟩) W)
  go_enter Tryz.func130, Tryz.ntmps130
  go_wp2_with (go_at_call 129; (with_reducible refine (HC.out _).mono ?_); rintro e w1 ⟨rfl, hd0⟩)
  go_ret
  exact ⟨rfl, hd0⟩
theorem fsmall_calls (x : Nat) (W : World) : FnGives Tryz.prog 133 #[] #[encR x] (.bool (smallR x)) W := by
  show Calls Tryz.prog 133 #[.int .i32 (x : Int)] W _
  have hd : decide ((x : Int) ≤ 32) = smallR x := by unfold smallR; rw [Bool.eq_iff_iff]; simp; omega
  go_enter Tryz.func133, Tryz.ntmps133
  go_wp2
  go_ret
  exact ⟨by rw [← hd]; rfl, 0, rfl⟩
theorem ftrim_calls (s : ByteArray) (hs : s.size ≤ 1099511627776) (w : World) (hG : Aside0 (G w)) :
    Calls Tryz.prog 131 #[.string s] w fun e w' => e = .returned (.string (trimP s)) ∧ Below w.heap.size w w' := by
  have HC := Aside0.mk (Tryz.strings_TrimFunc 133 #[] (enters_of Tryz.func133 (by kernel_rfl) rfl) smallR s w (by omega) hG.out.utf8 (fun W x _ => fsmall_calls x W))
  go_enter Tryz.func131, Tryz.ntmps131
  go_wp2_with (go_at_call 132; (with_reducible refine HC.out.mono ?_); rintro e w1 ⟨rfl, hd0⟩)
  go_ret
  exact ⟨rfl, hd0⟩
theorem fquote_calls (s : ByteArray) (hs : s.size ≤ 1099511627776) (w : World) (hG : Aside0 (G w)) :
    Calls Tryz.prog 134 #[.string s] w fun e w' => e = .returned (.string (quoteP s)) ∧ Below w.heap.size w w' := by
  obtain ⟨q, hq⟩ : ∃ q : ByteArray, ⟨(quoteBytes s).toArray⟩ = q := ⟨_, rfl⟩
  have HC := Aside0.mk (P.quote_Quote.calls s q w hG (by unfold P.quote_Quote.f; rw [if_pos (by omega), hq]))
  unfold quoteP
  rw [hq]
  have HQ := Aside0.mk hq
  have h0 : (0 ≤ min (q.size : Int) 4096) = True := eq_true (by omega)
  have h1 : (min (q.size : Int) 4096 ≤ (q.size : Int)) = True := eq_true (by omega)
  clear hq
  go_enter Tryz.func134, Tryz.ntmps134
  go_wp2_with (go_at_call 9; (with_reducible refine HC.out.mono ?_); rintro e w1 ⟨rfl, hd0⟩)
  go_ret
  exact ⟨rfl, hd0⟩
theorem flen_calls (s : ByteArray) (hs : s.size ≤ 1099511627776) (w : World) (hG : Aside0 (G w)) :
    Calls Tryz.prog 135 #[.string s] w fun e w' => e = .returned (.string (lenP s)) ∧ Below w.heap.size w w' := by
  have HC := Aside0.mk (P.strconv_Itoa.calls (s.size : Int) (lenP s) w hG (by unfold P.strconv_Itoa.f; rw [if_pos (by omega)]; rfl))
  go_enter Tryz.func135, Tryz.ntmps135
  go_wp2_with (go_at_call 8; (with_reducible refine HC.out.mono ?_); rintro e w1 ⟨rfl, hd0⟩)
  go_ret
  exact ⟨rfl, hd0⟩
end Go.Proofs.YtfojidcbcpkpmaaGreatDoor
end
section
set_option linter.unusedVariables false
namespace Go.Proofs.YtfojidcbcpkpmaaGreatDoor
open Go Go.RowKit Go.Lib Go.Proofs.YtfojidcbcpkpmaaGreatDoorW.PrintWords Go.Proofs.YtfojidcbcpkpmaaGreatDoorW.PrintLast Go.Proofs.YtfojidcbcpkpmaaGreatDoorW.PrintMore Go.Proofs.YtfojidcbcpkpmaaGreatDoor.P
abbrev Lab := S24
abbrev labV (x : Lab) : Value := .agg #[.string x.f0, .string x.f1]
set_option maxRecDepth 100000 in
set_option maxHeartbeats 1000000 in
theorem get1_calls (a : Lab) (n : ByteArray) (B : Nat) (w : World) (hB : w.cell? ⟨B, 0, none⟩ = some (.string n)) (hl : B < w.heap.size) :
    Calls Tryz.prog 123 #[labV a, .pointer (some ⟨B, 0, none⟩)] w fun e w' => e = .returned (.bool (a.f0.toList == n.toList)) ∧ Below w.heap.size w w' := by
  have hu := Tryz.underlying24
  go_enter Tryz.func123, Tryz.ntmps123
  go_wp2
  go_ret
  exact ⟨rfl, by repeat (first | exact Below.refl _ _ | apply below_alloc | apply pw_below_drewN | apply below_drew1)⟩
def idxL (n : ByteArray) : List Lab → Nat → Int
  | [], _ => -1
  | x :: l, i => if (x.f0.toList == n.toList) = true then (i : Int) else idxL n l (i + 1)
def getP (n : ByteArray) : List Lab → ByteArray
  | [] => ⟨#[]⟩
  | x :: l => if (x.f0.toList == n.toList) = true then x.f1 else getP n l
theorem idxL_none (n : ByteArray) : ∀ (l : List Lab) (i : Nat), idxL n l i < 0 → getP n l = ⟨#[]⟩ ∧ idxL n l i = -1
  | [], _, _ => ⟨rfl, rfl⟩
  | x :: l, i, h => by
    rw [idxL] at h ⊢
    rw [getP]
    by_cases hx : (x.f0.toList == n.toList) = true
    · rw [if_pos hx] at h; omega
    · rw [if_neg hx] at h ⊢; rw [if_neg hx]; exact idxL_none n l (i + 1) h
theorem idxL_some (n : ByteArray) : ∀ (l : List Lab) (i : Nat), 0 ≤ idxL n l i → ∃ j x, idxL n l i = ((i + j : Nat) : Int) ∧ l[j]? = some x ∧ x.f1 = getP n l
  | [], _, h => by rw [idxL] at h; omega
  | x :: l, i, h => by
    rw [idxL] at h ⊢
    rw [getP]
    by_cases hx : (x.f0.toList == n.toList) = true
    · rw [if_pos hx, if_pos hx]; exact ⟨0, x, rfl, rfl, rfl⟩
    · rw [if_neg hx] at h ⊢
      rw [if_neg hx]
      obtain ⟨j, y, e, hj, hy⟩ := idxL_some n l (i + 1) h
      exact ⟨j + 1, y, by rw [e]; omega, by simpa using hj, hy⟩
set_option maxRecDepth 100000 in
set_option maxHeartbeats 4000000 in
theorem indexFunc_calls (n : ByteArray) (B : Nat) (A0 : Option Addr) (c0 : Nat) (l0 : List Lab) (w : World) (hr0 : Kd.C k24 w A0 l0.length l0) (hc0 : l0.length ≤ c0) (hn : w.cell? ⟨B, 0, none⟩ = some (.string n)) (hlen : l0.length ≤ 1000000) :
    Calls Tryz.prog 122 #[.slice A0 l0.length c0, .func (.func 123) #[] #[.pointer (some ⟨B, 0, none⟩)]] w fun e w' =>
      e = .returned (.int .i64 (idxL n l0 0)) ∧ Below w.heap.size w w' := by
  have hu := Tryz.underlying24
  have hBl := World.block_lt_of_cell? w _ hn
  generalize hres : idxL n l0 0 = res
  have HRES : Aside0 (idxL n (l0.drop 0) 0 = res) := ⟨hres⟩
  have HR0 := Aside0.mk hr0
  have HN := Aside0.mk hn
  have HL := Aside0.mk hlen
  clear hr0 hc0 hn hlen hres
  go_enter Tryz.func122, Tryz.ntmps122
  go_wp2
  go_loopg [5, 8] l0.length (fun kq _ v8 wr => ∃ (j : Int), v8 = .int .i64 j ∧ Aside0 (∃ i : Nat, j = (i : Int) ∧ kq + i = l0.length ∧ idxL n (l0.drop i) i = res) ∧ Aside0 (Below w.heap.size w wr))
  case atStart => exact ⟨0, rfl, ⟨0, rfl, rfl, HRES.out⟩, ⟨Below.refl _ _⟩⟩
  case round =>
    obtain ⟨j, rfl, ⟨i, hij, hk, hO⟩, HB⟩ := hrel
    cases gk with
    | zero =>
      have hg : decide (j < (l0.length : Int)) = false := decide_eq_false (by omega)
      rw [List.drop_of_length_le (by omega)] at hO
      rw [idxL] at hO
      subst hO
      clear hij hk
      go_wp2
      go_ret
      exact ⟨rfl, HB.out⟩
    | succ kq =>
      have hi : i < l0.length := by omega
      obtain ⟨ad, e1, hx0, hx1⟩ := at_T24 HR0.out j (by omega) (by omega)
      cases e1
      have hrd : rd_T24 l0 j = l0[i] := by
        unfold rd_T24
        rw [show j.toNat = i by omega, List.getD_eq_getElem?_getD, List.getElem?_eq_getElem hi]; rfl
      rw [List.drop_eq_getElem_cons hi, idxL] at hO
      rw [hrd] at hx0 hx1
      generalize l0[i] = x at hx0 hx1 hO
      clear hrd
      replace hx0 := (HB.out.cell (World.block_lt_of_cell? w _ hx0)).trans hx0
      replace hx1 := (HB.out.cell (World.block_lt_of_cell? w _ hx1)).trans hx1
      have hg : decide (j < (l0.length : Int)) = true := decide_eq_true (by omega)
      have p1 : (0 ≤ j) = True := eq_true (by omega)
      have q1 : (j < (l0.length : Int)) = True := eq_true (by omega)
      have HJ : Aside0 (j = (i : Int) ∧ kq + 1 + i = l0.length) := ⟨hij, hk⟩
      cases hkp : (x.f0.toList == n.toList) with
      | true =>
        rw [hkp, if_pos rfl] at hO
        have HO := Aside0.mk hO
        clear hO hij hk hi
        go_wp2_with (go_at_call 123; (with_reducible refine (get1_calls x n B _ ?cB ?cL).mono ?_); (case cB => exact (HB.out.cell (p := ⟨B, 0, none⟩) hBl).trans HN.out); (case cL => exact Nat.lt_of_lt_of_le hBl (below_size HB.out)); rintro e w7 ⟨rfl, hb⟩; rw [hkp]; have NB := Aside0.mk (below_step HB.out hb); clear hb)
        go_ret
        exact ⟨by rw [← HO.out, HJ.out.1]; rfl, NB.out⟩
      | false =>
        rw [hkp, if_neg Bool.false_ne_true] at hO
        have HO := Aside0.mk hO
        clear hO hij hk hi
        go_wp2_with (go_at_call 123; (with_reducible refine (get1_calls x n B _ ?cB ?cL).mono ?_); (case cB => exact (HB.out.cell (p := ⟨B, 0, none⟩) hBl).trans HN.out); (case cL => exact Nat.lt_of_lt_of_le hBl (below_size HB.out)); rintro e w7 ⟨rfl, hb⟩; rw [hkp]; have NB := Aside0.mk (below_step HB.out hb); clear hb)
        go_roundg kq
        case measure => have := HJ.out; omega
        case rel =>
          refine ⟨wrap64 (j + 1), rfl, ⟨i + 1, ?_, ?_, HO.out⟩, NB⟩
          · have := HJ.out; have := HL.out; unfold wrap64; omega
          · have := HJ.out; omega
def P.labels_Get.f (l0 : List S24) (a1 : ByteArray) : Option ByteArray := if l0.length ≤ 1000000 then some (getP a1 l0) else none
set_option maxRecDepth 100000 in
set_option maxHeartbeats 4000000 in
theorem P.labels_Get.calls (A0 : Option Addr) (c0 : Nat) (l0 : List S24) (a1 : ByteArray) (r : ByteArray) (w : World) (hr0 : Kd.C k24 w A0 l0.length l0) (hc0 : l0.length ≤ c0) (h : P.labels_Get.f l0 a1 = some r) :
    Calls Tryz.prog 121 #[.slice A0 l0.length c0, .string a1] w fun e w' => e = .returned (.string r) ∧ Below w.heap.size w w' := by
  unfold P.labels_Get.f at h
  by_cases hlen : l0.length ≤ 1000000
  case neg => rw [if_neg hlen] at h; exact absurd h (by simp)
  rw [if_pos hlen] at h
  injection h with h
  subst h
  have hmf : ∀ (fn : Fn) (first cap : Array Value) (w : World), (Instr.makeFunc fn first cap).run Tryz.prog w = .ok (.func fn first cap) w := fun _ _ _ _ => by simp [Instr.makeFunc, go_sem]
  have hu := Tryz.underlying24
  have HR0 := Aside0.mk hr0
  have HC0 := Aside0.mk hc0
  have HL := Aside0.mk hlen
  by_cases hi : idxL a1 l0 0 < 0
  · obtain ⟨e1, e2⟩ := idxL_none a1 l0 0 hi
    rw [e1]
    clear hi e1 hr0 hc0 hlen
    go_enter Tryz.func121, Tryz.ntmps121
    go_wp2_with (go_at_call 122; (with_reducible refine (indexFunc_calls a1 w.heap.size A0 c0 l0 _ (Kd.C_below HR0.out (below_alloc (Below.refl _ _) _)) HC0.out (by first | exact (blk_cell (blk_new w _) 0).trans rfl | exact World.cell?_alloc_new _ _) HL.out).mono ?_); rintro e w1 ⟨rfl, hb⟩; rw [e2]; have HB := Aside0.mk hb; clear hb)
    go_ret
    exact ⟨rfl, below_step (below_alloc (Below.refl _ _) _) HB.out⟩
  · obtain ⟨j, x, e2, hj, e1⟩ := idxL_some a1 l0 0 (by omega)
    rw [← e1]
    have hjl : j < l0.length := by
      rcases Nat.lt_or_ge j l0.length with h | h
      · exact h
      · rw [List.getElem?_eq_none h] at hj; exact absurd hj (by simp)
    rw [Nat.zero_add] at e2
    obtain ⟨ad, ea, hx0, hx1⟩ := at_T24 HR0.out (j : Int) (by omega) (by omega)
    cases ea
    have hrd : rd_T24 l0 (j : Int) = x := by
      unfold rd_T24
      rw [Int.toNat_natCast, List.getD_eq_getElem?_getD, hj]; rfl
    rw [hrd] at hx0 hx1
    have p1 : (0 ≤ (j : Int)) = True := eq_true (by omega)
    have q1 : ((j : Int) < (l0.length : Int)) = True := eq_true (by omega)
    have hg : decide ((j : Int) < 0) = false := decide_eq_false (by omega)
    have HX1 := Aside0.mk hx1
    clear hi e1 hr0 hc0 hlen hj hrd hjl hx0 hx1
    go_enter Tryz.func121, Tryz.ntmps121
    go_wp2_with (go_at_call 122; (with_reducible refine (indexFunc_calls a1 w.heap.size (some ad) c0 l0 _ (Kd.C_below HR0.out (below_alloc (Below.refl _ _) _)) HC0.out (by first | exact (blk_cell (blk_new w _) 0).trans rfl | exact World.cell?_alloc_new _ _) HL.out).mono ?_); rintro e w1 ⟨rfl, hb⟩; rw [e2]; have HB := Aside0.mk (below_step (below_alloc (Below.refl _ _) _) hb); clear hb; have hy1 : w1.cell? ⟨(ad.add (j * 2)).block, (ad.add (j * 2)).off + 1, none⟩ = some (.string x.f1) := (HB.out.cell (World.block_lt_of_cell? w _ HX1.out)).trans HX1.out)
    go_ret
    exact ⟨rfl, HB.out⟩
end Go.Proofs.YtfojidcbcpkpmaaGreatDoor
end
section
set_option linter.unusedVariables false
namespace Go.Proofs.YtfojidcbcpkpmaaGreatDoor
open Go Go.RowKit Go.Lib Go.Proofs.YtfojidcbcpkpmaaGreatDoorW.PrintWords Go.Proofs.YtfojidcbcpkpmaaGreatDoorW.PrintLast Go.Proofs.YtfojidcbcpkpmaaGreatDoorW.PrintMore Go.Proofs.YtfojidcbcpkpmaaGreatDoor.P
def five : List Nat := [128, 130, 131, 134, 135]
def fnP (f : Nat) (s : ByteArray) : ByteArray :=
  if f = 128 then upperP s else if f = 130 then lowerP s else if f = 131 then trimP s else if f = 134 then quoteP s else lenP s
theorem five_enters {f : Nat} (h : f ∈ five) : ∀ args w, (callFunc f args).run Tryz.prog w = .ok (.enter f args) w := by
  simp only [five, List.mem_cons, List.not_mem_nil, or_false] at h
  rcases h with rfl | rfl | rfl | rfl | rfl
  · exact enters_of Tryz.func128 (by kernel_rfl) rfl
  · exact enters_of Tryz.func130 (by kernel_rfl) rfl
  · exact enters_of Tryz.func131 (by kernel_rfl) rfl
  · exact enters_of Tryz.func134 (by kernel_rfl) rfl
  · exact enters_of Tryz.func135 (by kernel_rfl) rfl
theorem five_calls {f : Nat} (h : f ∈ five) (s : ByteArray) (hs : s.size ≤ 1099511627776) (w : World) (hG : Aside0 (G w)) :
    Calls Tryz.prog f #[.string s] w fun e w' => e = .returned (.string (fnP f s)) ∧ Below w.heap.size w w' := by
  simp only [five, List.mem_cons, List.not_mem_nil, or_false] at h
  rcases h with rfl | rfl | rfl | rfl | rfl
  · exact fupper_calls s hs w
  · exact flower_calls s hs w
  · exact ftrim_calls s hs w hG
  · exact fquote_calls s hs w hG
  · exact flen_calls s hs w hG
/-- The functions, from left to right. -/
def doF : List Nat → ByteArray → Option ByteArray
  | [], s => if s.size ≤ 1099511627776 then some s else none
  | f :: fs, s => if s.size ≤ 1099511627776 ∧ f ∈ five then doF fs (fnP f s) else none
def fieldF (n : ByteArray) (fs : List Nat) (ls : List Lab) (line : ByteArray) : Option ByteArray := if fs.length ≤ 1000000 ∧ ls.length ≤ 1000000 then doF fs (if n.data.toList = [] then line else getP n ls) else none
set_option maxRecDepth 100000 in
theorem plain_calls (s line : ByteArray) (v : Value) (w : World) : Calls Tryz.prog 119 #[.string s, v, .string line] w fun e w' => e = .returned (.string s) ∧ Below w.heap.size w w' := by
  go_enter Tryz.func119, Tryz.ntmps119
  go_wp2
  go_ret
  exact ⟨rfl, Below.refl _ _⟩
set_option maxRecDepth 100000 in
set_option maxHeartbeats 8000000 in
theorem field_calls (n : ByteArray) (A : Option Addr) (c : Nat) (fs : List Nat) (LA : Option Addr) (lc : Nat) (ls : List Lab) (line r : ByteArray) (w : World) (hG : Aside0 (G w)) (hF : KF.C w A fs.length fs) (hL : Kd.C k24 w LA ls.length ls) (hlc : ls.length ≤ lc) (hr : fieldF n fs ls line = some r) :
    Calls Tryz.prog 120 #[.agg #[.string n, .slice A fs.length c], .slice LA ls.length lc, .string line] w fun e w' => e = .returned (.string r) ∧ Below w.heap.size w w' := by
  unfold fieldF at hr
  by_cases hln : fs.length ≤ 1000000 ∧ ls.length ≤ 1000000
  case neg => rw [if_neg hln] at hr; cases hr
  rw [if_pos hln] at hr
  obtain ⟨gb, hgb⟩ : ∃ gb, w.heap.size = gb := ⟨_, rfl⟩
  obtain ⟨W1, hW1⟩ : ∃ W1, w.alloc (.cells #[.string n, .slice A fs.length c] 62) = W1 := ⟨_, rfl⟩
  have BK1 : Aside0 (W1.heap[gb]? = some (.cells #[.string n, .slice A fs.length c] 62 (0, 0))) := ⟨by rw [← hW1, ← hgb]; exact blk_new _ _⟩
  have hB1 : Below w.heap.size w W1 := by rw [← hW1]; exact below_alloc (Below.refl _ _) _
  have HB1 := Aside0.mk hB1
  have HF1 := Aside0.mk (Kd.C_below hF hB1)
  have HL1 := Aside0.mk (Kd.C_below hL hB1)
  have HLN := Aside0.mk hln
  have HLC := Aside0.mk hlc
  obtain ⟨q1, q2, q3, q4, q5, q6⟩ := box2 BK1.out
  clear q5 q6 q2 q4 hF hL hlc hB1 hln
  by_cases hn : n.data.toList = []
  case' pos =>
    rw [if_pos hn] at hr
    have t1 : n.toList.isEmpty = true := by rw [ByteArray.toList_eq, hn]; rfl
    have HR := Aside0.mk hr
    have HG1 := Aside0.mk (Nat.le_refl 0)
    clear hr hn
    go_enter Tryz.func120, Tryz.ntmps120
    go_wp2
    have HB2 := HB1
    have HF2 := HF1
  case' neg =>
    rw [if_neg hn] at hr
    have t1 : n.toList.isEmpty = false := by
      rw [ByteArray.toList_eq]
      cases h : n.data.toList with
      | nil => exact absurd h hn
      | cons a l => rfl
    have HR := Aside0.mk hr
    have HG1 := Aside0.mk (P.labels_Get.calls LA lc ls n (getP n ls) W1 HL1.out HLC.out (by unfold P.labels_Get.f; exact if_pos HLN.out.2))
    clear hr hn
    go_enter Tryz.func120, Tryz.ntmps120
    go_wp2_with (go_at_call 121; (with_reducible refine HG1.out.mono ?_); rintro e w2 ⟨rfl, hb2⟩; have HB2 := Aside0.mk (below_step HB1.out hb2); have HF2 := Aside0.mk (Kd.C_below HF1.out hb2); have q4 : w2.cell? ⟨gb, 1, none⟩ = some (.slice A fs.length c) := blk_cell (blk_below BK1.out hb2) 1; clear hb2)
  all_goals
    clear HG1 HL1 HB1 HF1 BK1 q1 q3 t1
    go_loopg [7, 21] (fs.length + 1) (fun kq v7 v21 wr => ∃ (x : ByteArray) (j : Int), v7 = .string x ∧ v21 = .int .i64 j ∧ Aside0 (∃ i : Nat, j = (i : Int) ∧ i ≤ fs.length ∧ fs.length < kq + i ∧ doF (fs.drop i) x = some r) ∧ Aside0 (KF.C wr A fs.length fs) ∧ Aside0 (Below w.heap.size w wr))
    case atStart => exact ⟨_, 0, rfl, rfl, ⟨0, rfl, Nat.zero_le _, by omega, HR.out⟩, HF2, HB2⟩
    case round =>
      clear HR HF2 HB2
      obtain ⟨x, j, rfl, rfl, ⟨i, hij, hi, hk, hO⟩, HF, HB⟩ := hrel
      cases gk with
      | zero => exact absurd hk (by omega)
      | succ kq =>
        by_cases hlt : i < fs.length
        · rw [List.drop_eq_getElem_cons hlt] at hO
          obtain ⟨f, hf⟩ : ∃ f, fs[i] = f := ⟨_, rfl⟩
          rw [hf, doF] at hO
          by_cases hc : x.size ≤ 1099511627776 ∧ f ∈ five
          case neg => rw [if_neg hc] at hO; cases hO
          rw [if_pos hc] at hO
          have eg := five_enters hc.2
          obtain ⟨ad, ea, hcell⟩ := (Kd.reads_of_C (d := 0) HF.out).at_ j (by omega) (by omega)
          cases ea
          have hrd : rdOf 0 fs j = f := by
            unfold rdOf
            rw [show j.toNat = i by omega, List.getD_eq_getElem?_getD, List.getElem?_eq_getElem hlt, hf]; rfl
          rw [hrd] at hcell
          unfold fnV at hcell
          have HC := Aside0.mk (five_calls hc.2 x hc.1 wr (G.at hG.out HB.out))
          have hg : decide (j < (fs.length : Int)) = true := decide_eq_true (by omega)
          have p1 : (0 ≤ j) = True := eq_true (by omega)
          have p2 : (j < (fs.length : Int)) = True := eq_true (by omega)
          have HJ : Aside0 (j = (i : Int) ∧ i < fs.length ∧ fs.length < kq + 1 + i) := ⟨hij, hlt, hk⟩
          have HO := Aside0.mk hO
          clear hO hrd hf hc hij hi hk hlt
          go_wp2_with (go_at_fn f; (refine HC.out.mono ?_); rintro e w7 ⟨rfl, hbl⟩; have NB := Aside0.mk (below_step HB.out hbl); have NF := Aside0.mk (Kd.C_below HF.out hbl); clear hbl)
          go_roundg kq
          case measure => have := HJ.out; omega
          case rel =>
            have e0 := HJ.out
            exact ⟨_, wrap64 (j + 1), rfl, rfl, ⟨i + 1, by have := HLN.out; unfold wrap64; omega, by omega, by omega, HO.out⟩, NF, NB⟩
        · have hg : decide (j < (fs.length : Int)) = false := decide_eq_false (by omega)
          have hz : fs.drop i = [] := List.drop_eq_nil_of_le (by omega)
          rw [hz, doF] at hO
          by_cases hc : x.size ≤ 1099511627776
          case neg => rw [if_neg hc] at hO; cases hO
          rw [if_pos hc] at hO
          have hx : x = r := Option.some.inj hO
          clear hij hi hk hO hlt hz hc
          go_wp2
          go_ret
          exact ⟨by rw [← hx]; rfl, HB.out⟩
end Go.Proofs.YtfojidcbcpkpmaaGreatDoor
end
section
set_option linter.unusedVariables false
namespace Go.Proofs.YtfojidcbcpkpmaaGreatDoor
open Go Go.RowKit Go.Lib Go.Proofs.YtfojidcbcpkpmaaGreatDoorW.PrintWords Go.Proofs.YtfojidcbcpkpmaaGreatDoorW.PrintLast Go.Proofs.YtfojidcbcpkpmaaGreatDoorW.PrintMore Go.Proofs.YtfojidcbcpkpmaaGreatDoor.P
def textP (ls : List Lab) (line : ByteArray) : PcP → Option ByteArray
  | .inl s => some s
  | .inr (n, fs) => fieldF n fs ls line
def outF (ls : List Lab) (line : ByteArray) : List PcP → Option (List UInt8)
  | [] => some []
  | p :: ps => (textP ls line p).bind fun t => (outF ls line ps).bind fun r => some (t.data.toList ++ r)
def runF (ls : List Lab) (line : ByteArray) (ps : List PcP) : Option ByteArray :=
  (outF ls line ps).bind fun l => if l.length ≤ 70368744177664 ∧ ps.length ≤ 1000000 then some ((⟨l.toArray⟩ : ByteArray).extract 0 (min ((⟨l.toArray⟩ : ByteArray).size : Int) 4096).toNat) else none
theorem PcsOk.get {w : World} {gb : Nat} : ∀ {ms : List Pc} {ps : List PcP} (i : Nat) (h : i < ms.length), PcsOk w gb ms ps → ∃ p, ps.drop i = p :: ps.drop (i + 1) ∧ PcOk w gb ms[i] p
  | m :: ms, p :: ps, 0, _, h => ⟨p, rfl, h.1⟩
  | m :: ms, p :: ps, i + 1, hi, h => PcsOk.get i (by simpa using hi) h.2
  | [], _, i, hi, _ => absurd hi (by simp)
  | _ :: _, [], _, _, h => h.elim
set_option maxRecDepth 100000 in
set_option maxHeartbeats 8000000 in
theorem formRun_calls (gf : Nat) (A : Option Addr) (c : Nat) (ms : List Pc) (ps : List PcP) (LA : Option Addr) (lc : Nat) (ls : List Lab) (line r : ByteArray) (w : World) (hG : Aside0 (G w))
    (hk : w.heap[gf]? = some (.cells #[.slice A ms.length c] 57 (0, 0))) (hR : KP.R 66 w gf (fun k => k ≠ gf) (.slice A ms.length c) ms) (hP : PcsOk w gf ms ps)
    (hL : Kd.C k24 w LA ls.length ls) (hlc : ls.length ≤ lc) (hr : runF ls line ps = some r) :
    Calls Tryz.prog 13 #[.pointer (some ⟨gf, 0, none⟩), .slice LA ls.length lc, .string line] w fun e w' => e = .returned (.string r) ∧ Below w.heap.size w w' := by
  unfold runF at hr
  obtain ⟨l, hl, hr⟩ := Option.bind_eq_some_iff.1 hr
  by_cases hlen : l.length ≤ 70368744177664 ∧ ps.length ≤ 1000000
  case neg => rw [if_neg hlen] at hr; cases hr
  rw [if_pos hlen] at hr
  have hr := Option.some.inj hr
  obtain ⟨q, hq⟩ : ∃ q : ByteArray, ⟨l.toArray⟩ = q := ⟨_, rfl⟩
  rw [hq] at hr
  have hpl := hP.len
  obtain ⟨gb, hgb⟩ : ∃ gb, w.heap.size = gb := ⟨_, rfl⟩
  obtain ⟨W1, hW1⟩ : ∃ W1, w.alloc (.cells #[.pointer none, .slice none 0 0] 42) = W1 := ⟨_, rfl⟩
  have hB1 : Below w.heap.size w W1 := by rw [← hW1]; exact below_alloc (Below.refl _ _) _
  have HB1 := Aside0.mk hB1
  have HD1 : Aside0 (Bld gb gb [] W1) := ⟨by rw [← hW1, ← hgb]; exact bld_new w⟩
  have HGB := Aside0.mk hgb
  have HK := Aside0.mk hk
  have HR := Aside0.mk hR
  have HP := Aside0.mk hP
  have HL := Aside0.mk hL
  have HLC := Aside0.mk hlc
  have HLL := Aside0.mk (And.intro hl (And.intro hlen hpl))
  have HQ := Aside0.mk (And.intro hq hr)
  have q1 : W1.cell? ⟨gf, 0, none⟩ = some (.slice A ms.length c) := blk_cell (blk_below hk hB1) 0
  clear hl hr hlen hq hpl hB1 hk hR hP hL hlc
  go_enter Tryz.func13, Tryz.ntmps13
  go_wp2
  go_loopg [18] (ms.length + 1) (fun kq v18 wr => ∃ (j : Int), v18 = .int .i64 j ∧ Aside0 (∃ (i : Nat) (a t : List UInt8), j = (i : Int) ∧ i ≤ ms.length ∧ ms.length < kq + i ∧ outF ls line (ps.drop i) = some t ∧ a ++ t = l ∧ Bld gb gb a wr) ∧ Aside0 (Below w.heap.size w wr))
  case atStart => exact ⟨0, rfl, ⟨0, [], l, rfl, Nat.zero_le _, by omega, HLL.out.1, rfl, HD1.out⟩, HB1⟩
  case round =>
    clear HB1 HD1 q1
    obtain ⟨j, rfl, ⟨i, a, t, hij, hi, hk, hO, hat, hbld⟩, HB⟩ := hrel
    cases gk with
    | zero => exact absurd hk (by omega)
    | succ kq =>
      by_cases hlt : i < ms.length
      · obtain ⟨p, hp1, hp2⟩ := HP.out.get i hlt
        rw [hp1, outF] at hO
        obtain ⟨t1, ht1, hO⟩ := Option.bind_eq_some_iff.1 hO
        obtain ⟨r1, hr1, hO⟩ := Option.bind_eq_some_iff.1 hO
        have hO := Option.some.inj hO
        obtain ⟨ad, ea, hcell⟩ := (Kd.reads_of_C (d := .inl ⟨#[]⟩) (Kd.R_reads' HR.out).2.2).at_ j (by omega) (by omega)
        cases ea
        have hrd : rdOf (.inl ⟨#[]⟩) ms j = ms[i] := by
          unfold rdOf
          rw [show j.toNat = i by omega, List.getD_eq_getElem?_getD, List.getElem?_eq_getElem hlt]; rfl
        rw [hrd] at hcell
        replace hcell := (HB.out.cell (World.block_lt_of_cell? w _ hcell)).trans hcell
        have hg : decide (j < (ms.length : Int)) = true := decide_eq_true (by omega)
        have p1 : (0 ≤ j) = True := eq_true (by omega)
        have p2 : (j < (ms.length : Int)) = True := eq_true (by omega)
        have HJ : Aside0 (j = (i : Int) ∧ i < ms.length ∧ ms.length < kq + 1 + i ∧ ms.length ≤ 1000000) := ⟨hij, hlt, hk, by have := HLL.out.2; omega⟩
        have HLN : Aside0 (a.length + t1.size ≤ 140737488355328) := ⟨by
          have h1 := HLL.out.2.1.1
          rw [← hat, ← hO, List.length_append, List.length_append, ← Lib.size_eq] at h1
          omega⟩
        have HA := Aside0.mk (And.intro hr1 (show (a ++ t1.data.toList) ++ r1 = l by rw [List.append_assoc, hO, hat]))
        have HD := Aside0.mk hbld
        have hgb0 := HGB.out
        obtain ⟨m, hm⟩ : ∃ m, ms[i] = m := ⟨_, rfl⟩
        rw [hm] at hcell hp2
        clear hO hat hbld hrd hr1 hp1 hij hi hk hm hlt
        cases m with
        | inl s =>
          cases p with
          | inr p => exact hp2.elim
          | inl s' =>
            have hs : s = s' := hp2
            subst hs
            have ht : s = t1 := Option.some.inj ht1
            subst ht
            simp only [pcV] at hcell
            clear hp2 ht1
            go_wp2_with (first | (go_at_call 119; (refine (plain_calls s line _ _).mono ?_); rintro e w2 ⟨rfl, hb2⟩; have HB2 := Aside0.mk (below_step HB.out hb2); have HD2 := Aside0.mk (bldF_below HD.out hb2); clear hb2) | (go_at_call 15; (refine (bld_WriteString gb gb a s _ HD2.out HLN.out (by rw [← hgb0]; exact below_size HB2.out)).mono ?_); rintro e w3 ⟨rfl, hd3, hb3, _⟩; have HD3 := Aside0.mk hd3; have HB3 : Aside0 (Below w.heap.size w w3) := ⟨HB2.out.trans (by rw [hgb0]; exact hb3)⟩; clear hd3 hb3))
            go_roundg kq
            case measure => have := HJ.out; omega
            case rel =>
              have e0 := HJ.out
              exact ⟨wrap64 (j + 1), rfl, ⟨i + 1, _, r1, by unfold wrap64; omega, by omega, by omega, HA.out.1, HA.out.2, HD3.out⟩, HB3⟩
        | inr y =>
          cases p with
          | inl p => exact hp2.elim
          | inr y' =>
            obtain ⟨n1, fv⟩ := y
            obtain ⟨n2, fs⟩ := y'
            obtain ⟨hn, hfr⟩ := hp2
            subst hn
            obtain ⟨A6, c6, rfl⟩ := Kd.R_slice hfr
            have hC := Kd.C_below (Kd.R_reads' hfr).2.2 HB.out
            simp only [pcV] at hcell
            have HT := Aside0.mk (field_calls n1 A6 c6 fs LA lc ls line t1 wr (G.at hG.out HB.out) hC (Kd.C_below HL.out HB.out) HLC.out ht1)
            clear ht1 hfr hC
            go_wp2_with (first | (go_at_call 120; (refine HT.out.mono ?_); rintro e w2 ⟨rfl, hb2⟩; have HB2 := Aside0.mk (below_step HB.out hb2); have HD2 := Aside0.mk (bldF_below HD.out hb2); clear hb2) | (go_at_call 15; (refine (bld_WriteString gb gb a t1 _ HD2.out HLN.out (by rw [← hgb0]; exact below_size HB2.out)).mono ?_); rintro e w3 ⟨rfl, hd3, hb3, _⟩; have HD3 := Aside0.mk hd3; have HB3 : Aside0 (Below w.heap.size w w3) := ⟨HB2.out.trans (by rw [hgb0]; exact hb3)⟩; clear hd3 hb3))
            go_roundg kq
            case measure => have := HJ.out; omega
            case rel =>
              have e0 := HJ.out
              exact ⟨wrap64 (j + 1), rfl, ⟨i + 1, _, r1, by unfold wrap64; omega, by omega, by omega, HA.out.1, HA.out.2, HD3.out⟩, HB3⟩
      · have hg : decide (j < (ms.length : Int)) = false := decide_eq_false (by omega)
        have hz : ps.drop i = [] := List.drop_eq_nil_of_le (by have := HLL.out.2.2; omega)
        rw [hz, outF] at hO
        have hO := Option.some.inj hO
        subst hO
        rw [List.append_nil] at hat
        subst hat
        have hgb0 := HGB.out
        have HS := Aside0.mk (bld_String gb gb a wr hbld (by rw [← hgb0]; exact below_size HB.out))
        rw [HQ.out.1] at HS
        have h0 : (0 ≤ min (q.size : Int) 4096) = True := eq_true (by omega)
        have h1 : (min (q.size : Int) 4096 ≤ (q.size : Int)) = True := eq_true (by omega)
        clear hij hi hk hz hbld hlt
        go_wp2_with (go_at_call 17; (refine HS.out.mono ?_); rintro e w3 ⟨rfl, _, hb3, _⟩; have HB3 : Aside0 (Below w.heap.size w w3) := ⟨HB.out.trans (by rw [hgb0]; exact hb3)⟩; clear hb3)
        go_ret
        exact ⟨by rw [← HQ.out.2]; rfl, HB3.out⟩
end Go.Proofs.YtfojidcbcpkpmaaGreatDoor
end
section
set_option linter.unusedVariables false
namespace Go.Proofs.YtfojidcbcpkpmaaGreatDoor.P
open Go Go.RowKit Go.Lib Go.Proofs.YtfojidcbcpkpmaaGreatDoorW.PrintWords Go.Proofs.YtfojidcbcpkpmaaGreatDoorW.PrintLast Go.Proofs.YtfojidcbcpkpmaaGreatDoorW.PrintMore Go.Proofs.YtfojidcbcpkpmaaGreatDoor
def driftnetlaw19_run.f (a0 : ByteArray) (l1 : List S24) (a2 : ByteArray) : Option (ByteArray × Bool) :=
  match newF a0 with
  | none => none
  | some none => some (⟨#[]⟩, false)
  | some (some ps) => (runF l1 a2 ps).map fun r => (r, true)
def driftnetlaw19_fails.f (a0 : ByteArray) : Option Bool :=
  match newF a0 with
  | none => none
  | some none => some true
  | some (some _) => some false
set_option maxRecDepth 100000 in
set_option maxHeartbeats 4000000 in
theorem driftnetlaw19_run.calls (a0 : ByteArray) (A1 : Option Addr) (c1 : Nat) (l1 : List S24) (a2 : ByteArray) (r1 : ByteArray) (r2 : Bool) (w : World) (hr1 : Kd.C k24 w A1 l1.length l1) (hc1 : l1.length ≤ c1) (hG : Aside0 (G w)) (h : driftnetlaw19_run.f a0 l1 a2 = some (r1, r2)) :
    Calls Tryz.prog 5 #[.string a0, .slice A1 l1.length c1, .string a2] w fun e w' => e = .returned (.tuple #[.string r1, .bool r2]) ∧ Below w.heap.size w w' := by
  unfold driftnetlaw19_run.f at h
  cases hn : newF a0 with
  | none => rw [hn] at h; cases h
  | some R =>
    rw [hn] at h
    have HN := Aside0.mk (new_calls a0 R hn w hG)
    have HL := Aside0.mk hr1
    have HC := Aside0.mk hc1
    clear hr1 hc1 hn
    cases R with
    | none =>
      have h := Option.some.inj h
      injection h with h1 h2
      subst h1
      subst h2
      go_enter Tryz.func5, Tryz.ntmps5
      go_wp2_with (go_at_call 12; (refine HN.out.mono ?_); rintro e w2 ⟨hp, hb2⟩; have hp' : e = .returned (.tuple #[.pointer none, .int .i64 190]) := hp; subst hp'; clear hp)
      go_ret2
      exact ⟨rfl, hb2⟩
    | some ps =>
      obtain ⟨r, hr, h⟩ := Option.map_eq_some_iff.1 h
      injection h with h1 h2
      subst h1
      subst h2
      have HR := Aside0.mk hr
      clear hr
      go_enter Tryz.func5, Tryz.ntmps5
      go_wp2_with (first | (go_at_call 12; (refine HN.out.mono ?_); rintro e w2 ⟨hp, hb2⟩; obtain ⟨gf, ms, A, c, rfl, hle, hk, hrr, hpp⟩ := hp; have HB2 := Aside0.mk hb2; have HT := Aside0.mk (formRun_calls gf A c ms ps A1 c1 l1 a2 r w2 (G.at hG.out hb2) hk hrr hpp (Kd.C_below HL.out hb2) HC.out HR.out); clear hb2 hle hk hrr hpp) | (go_at_call 13; (refine HT.out.mono ?_); rintro e w3 ⟨rfl, hb3⟩; have HB3 := Aside0.mk (below_step HB2.out hb3); clear hb3))
      go_ret2
      exact ⟨rfl, HB3.out⟩
set_option maxRecDepth 100000 in
set_option maxHeartbeats 4000000 in
theorem driftnetlaw19_fails.calls (a0 : ByteArray) (r : Bool) (w : World) (hG : Aside0 (G w)) (h : driftnetlaw19_fails.f a0 = some r) :
    Calls Tryz.prog 11 #[.string a0] w fun e w' => e = .returned (.bool r) ∧ Below w.heap.size w w' := by
  unfold driftnetlaw19_fails.f at h
  cases hn : newF a0 with
  | none => rw [hn] at h; cases h
  | some R =>
    rw [hn] at h
    have HN := Aside0.mk (new_calls a0 R hn w hG)
    clear hn
    cases R with
    | none =>
      have h := Option.some.inj h
      subst h
      go_enter Tryz.func11, Tryz.ntmps11
      go_wp2_with (go_at_call 12; (refine HN.out.mono ?_); rintro e w2 ⟨hp, hb2⟩; have hp' : e = .returned (.tuple #[.pointer none, .int .i64 190]) := hp; subst hp'; clear hp)
      go_ret
      exact ⟨rfl, hb2⟩
    | some ps =>
      have h := Option.some.inj h
      subst h
      go_enter Tryz.func11, Tryz.ntmps11
      go_wp2_with (go_at_call 12; (refine HN.out.mono ?_); rintro e w2 ⟨hp, hb2⟩; obtain ⟨gf, ms, A, c, rfl, hle, hk, hrr, hpp⟩ := hp; clear hle hk hrr hpp)
      go_ret
      exact ⟨rfl, hb2⟩
end Go.Proofs.YtfojidcbcpkpmaaGreatDoor.P
end
section
namespace Go.Proofs.YtfojidcbcpkpmaaGreatDoor.P
open Go.RowKit Go.Proofs.YtfojidcbcpkpmaaGreatDoorW.PrintWords Go.Proofs.YtfojidcbcpkpmaaGreatDoorW.PrintLast Go.Proofs.YtfojidcbcpkpmaaGreatDoorW.PrintMore
attribute [local go_sem] max2_int min2_int max_two min_two max_three min_three max_four min_four leq_str
set_option linter.unusedVariables false
set_option linter.unusedSimpArgs false
/-! ### driftnetlaw19_is: function 10 -/
def driftnetlaw19_is.f (a0 : ByteArray) (a1 : ByteArray) : Option (Bool) := (driftnetlaw19_run.f a0 (([(⟨(⟨#[120]⟩ : ByteArray), (⟨#[97, 98]⟩ : ByteArray)⟩ : S24), (⟨(⟨#[121]⟩ : ByteArray), (⟨#[32, 81, 32]⟩ : ByteArray)⟩ : S24)] : List (S24))) (⟨#[104, 105]⟩ : ByteArray)).bind fun bt4 => (if bt4.2 = true then (some (bt4.1.toList == a1.toList)) else (some false))
set_option maxHeartbeats 8000000 in
set_option maxRecDepth 100000 in
theorem driftnetlaw19_is.calls (a0 : ByteArray) (a1 : ByteArray) (r : Bool) (w : World) (hG : Aside0 (G w)) (h : driftnetlaw19_is.f a0 a1 = some r) :
    Calls Tryz.prog 10 #[.string a0, .string a1] w fun e w' => e = .returned (.bool r) ∧ Below w.heap.size w w' := by
  have hu24 := Tryz.underlying24
  have HB := Aside0.mk (Below.refl w.heap.size w)
  have H : ((driftnetlaw19_run.f a0 (([(⟨(⟨#[120]⟩ : ByteArray), (⟨#[97, 98]⟩ : ByteArray)⟩ : S24), (⟨(⟨#[121]⟩ : ByteArray), (⟨#[32, 81, 32]⟩ : ByteArray)⟩ : S24)] : List (S24))) (⟨#[104, 105]⟩ : ByteArray)).bind fun bt4 => (if bt4.2 = true then (some (bt4.1.toList == a1.toList)) else (some false))) = some r := h
  clear h
  obtain ⟨y1, hy1⟩ : ∃ y_ : List (S24), y_ = (([(⟨(⟨#[120]⟩ : ByteArray), (⟨#[97, 98]⟩ : ByteArray)⟩ : S24), (⟨(⟨#[121]⟩ : ByteArray), (⟨#[32, 81, 32]⟩ : ByteArray)⟩ : S24)] : List (S24))) := ⟨_, rfl⟩
  replace H : ((driftnetlaw19_run.f a0 y1 (⟨#[104, 105]⟩ : ByteArray)).bind fun bt4 => (if bt4.2 = true then (some (bt4.1.toList == a1.toList)) else (some false))) = some r := by first | (rw [hy1]; with_reducible exact H) | (have H2_ := (Option.bind_some _ _).symm.trans H; rw [hy1]; with_reducible exact H2_) | (have H2_ := (Option.bind_some _ _).symm.trans H; with_reducible exact H2_) | with_reducible exact H | (rw [hy1]; exact H) | exact H
  have Ny1 := Aside0.mk hy1
  clear hy1
  replace H := Option.bind_eq_some_iff.mp H
  obtain ⟨⟨t4, t5⟩, A30, H⟩ := H
  replace H : (if t5 = true then (some (t4.toList == a1.toList)) else (some false)) = some r := H
  have A3 := Aside0.mk A30
  clear A30
  by_cases c4 : t5 = true
  · subst c4
    have H1 : (some (t4.toList == a1.toList)) = some r := by rw [if_pos rfl] at H; exact H
    clear H
    have H := H1
    clear H1
    obtain rfl := Option.some.inj H
    go_enter Tryz.func10, Tryz.ntmps10
    go_wp2_with (first | ((with_reducible refine gate_dst (N := 11) rfl ?_); refine Kd.R_lit k24 _ 24 ?hg (N := 11) ?hd (xs := ([(⟨(⟨#[120]⟩ : ByteArray), (⟨#[97, 98]⟩ : ByteArray)⟩ : S24), (⟨(⟨#[121]⟩ : ByteArray), (⟨#[32, 81, 32]⟩ : ByteArray)⟩ : S24)] : List (S24))) (inner := [.string (⟨#[120]⟩ : ByteArray), .string (⟨#[97, 98]⟩ : ByteArray), .string (⟨#[121]⟩ : ByteArray), .string (⟨#[32, 81, 32]⟩ : ByteArray)]) (ok := fun _ => True) (okp := fun _ => True) ?hr ?hp (fun _ hk => hk) trivial (Below.refl _ _) (Nat.le_refl _) (by simp) ?_; (case hd => rfl); (case hg => rfl); (case hr => first | (go_simp; done) | (go_simp; rfl)); (case hp => exact (Reps.c2 (show Kd.M k24 _ _ _ (⟨(⟨#[120]⟩ : ByteArray), (⟨#[97, 98]⟩ : ByteArray)⟩ : S24) [.string (⟨#[120]⟩ : ByteArray), .string (⟨#[97, 98]⟩ : ByteArray)] from (k24_mkM _ _ _ (⟨(⟨#[120]⟩ : ByteArray), (⟨#[97, 98]⟩ : ByteArray)⟩ : S24) )) (Reps.c2 (show Kd.M k24 _ _ _ (⟨(⟨#[121]⟩ : ByteArray), (⟨#[32, 81, 32]⟩ : ByteArray)⟩ : S24) [.string (⟨#[121]⟩ : ByteArray), .string (⟨#[32, 81, 32]⟩ : ByteArray)] from (k24_mkM _ _ _ (⟨(⟨#[121]⟩ : ByteArray), (⟨#[32, 81, 32]⟩ : ByteArray)⟩ : S24) )) (Reps.none _ _)))); intro v2 w5 ho6 hb hg_ hnew_; clear hg_ hnew_; (first | rw [← Ny1.out] at ho6 | (simp only [Int.reduceToNat] at ho6; rw [← Ny1.out] at ho6)); have n0_ := Aside0.mk (Kd.R_lower ho6 (below_size (by repeat (first | (with_reducible first | exact HB.out | apply below_alloc | apply pw_below_drewN | apply below_drew1) | exact HB.out)))); have n1_ := Aside0.mk (below_step (by repeat (first | (with_reducible first | exact HB.out | apply below_alloc | apply pw_below_drewN | apply below_drew1) | exact HB.out)) hb); clear HB; have HO3 := n0_; have HB := n1_; clear n0_ n1_; clear hb ho6; obtain ⟨Ao7, co7, eo7⟩ := Kd.R_slice HO3.out; subst eo7) | ((with_reducible refine gate_callee (f := 5) rfl ?_); refine goesL_ (some 12) rfl rfl Tryz.func5 (by kernel_rfl) rfl #[.string a0, .slice Ao7 y1.length co7, .string (⟨#[104, 105]⟩ : ByteArray)] rfl (by (try simp only [List.map_toArray, List.map_cons, List.map_nil]); first | done | rfl | (simp only [List.length_drop, List.length_take]; rfl)) ?_; (with_reducible refine (driftnetlaw19_run.calls a0 _ _ y1 (⟨#[104, 105]⟩ : ByteArray) t4 true _ ?side1 ?side2 ?side3 A3.out).mono ?_); (case side1 => repeat (first | exact (Kd.R_reads' HO3.out).2.2 | (with_reducible refine Kd.C_alloc ?_ _) | (with_reducible refine Kd.C_drewN ?_ _) | (with_reducible refine Kd.C_drew ?_))); (case side2 => exact (Kd.R_reads' HO3.out).2.1); (case side3 => exact G.at hG.out (by repeat (first | (with_reducible first | exact HB.out | apply below_alloc | apply pw_below_drewN | apply below_drew1) | exact HB.out))); rintro e w8 ⟨rfl, hb⟩; refine ⟨_, rfl, ?_⟩; have n0_ := Aside0.mk (Kd.R_below (by (with_reducible repeat (first | apply Kd.R_alloc | apply Kd.R_drewN | apply Kd.R_drew)); exact HO3.out) hb); have n1_ := Aside0.mk (below_step (by repeat (first | (with_reducible first | exact HB.out | apply below_alloc | apply pw_below_drewN | apply below_drew1) | exact HB.out)) hb); clear HO3; clear HB; have HO3 := n0_; have HB := n1_; clear n0_ n1_; (try clear hb); (try clear hb2); (try clear hk); (try clear hi)))
    go_ret
    exact ⟨by first | rfl | (simp [errW_none, errW_some] <;> rfl) | (simp [*, errW_none, errW_some] <;> rfl), by repeat (first | (with_reducible first | exact HB.out | apply below_alloc | apply pw_below_drewN | apply below_drew1) | exact HB.out)⟩
  · replace c4 := Bool.eq_false_iff.mpr c4
    subst c4
    have H1 : (some false) = some r := by rw [if_neg (show ¬ (false = true) by decide)] at H; exact H
    clear H
    have H := H1
    clear H1
    obtain rfl := Option.some.inj H
    go_enter Tryz.func10, Tryz.ntmps10
    go_wp2_with (first | ((with_reducible refine gate_dst (N := 11) rfl ?_); refine Kd.R_lit k24 _ 24 ?hg (N := 11) ?hd (xs := ([(⟨(⟨#[120]⟩ : ByteArray), (⟨#[97, 98]⟩ : ByteArray)⟩ : S24), (⟨(⟨#[121]⟩ : ByteArray), (⟨#[32, 81, 32]⟩ : ByteArray)⟩ : S24)] : List (S24))) (inner := [.string (⟨#[120]⟩ : ByteArray), .string (⟨#[97, 98]⟩ : ByteArray), .string (⟨#[121]⟩ : ByteArray), .string (⟨#[32, 81, 32]⟩ : ByteArray)]) (ok := fun _ => True) (okp := fun _ => True) ?hr ?hp (fun _ hk => hk) trivial (Below.refl _ _) (Nat.le_refl _) (by simp) ?_; (case hd => rfl); (case hg => rfl); (case hr => first | (go_simp; done) | (go_simp; rfl)); (case hp => exact (Reps.c2 (show Kd.M k24 _ _ _ (⟨(⟨#[120]⟩ : ByteArray), (⟨#[97, 98]⟩ : ByteArray)⟩ : S24) [.string (⟨#[120]⟩ : ByteArray), .string (⟨#[97, 98]⟩ : ByteArray)] from (k24_mkM _ _ _ (⟨(⟨#[120]⟩ : ByteArray), (⟨#[97, 98]⟩ : ByteArray)⟩ : S24) )) (Reps.c2 (show Kd.M k24 _ _ _ (⟨(⟨#[121]⟩ : ByteArray), (⟨#[32, 81, 32]⟩ : ByteArray)⟩ : S24) [.string (⟨#[121]⟩ : ByteArray), .string (⟨#[32, 81, 32]⟩ : ByteArray)] from (k24_mkM _ _ _ (⟨(⟨#[121]⟩ : ByteArray), (⟨#[32, 81, 32]⟩ : ByteArray)⟩ : S24) )) (Reps.none _ _)))); intro v2 w9 ho10 hb hg_ hnew_; clear hg_ hnew_; (first | rw [← Ny1.out] at ho10 | (simp only [Int.reduceToNat] at ho10; rw [← Ny1.out] at ho10)); have n0_ := Aside0.mk (Kd.R_lower ho10 (below_size (by repeat (first | (with_reducible first | exact HB.out | apply below_alloc | apply pw_below_drewN | apply below_drew1) | exact HB.out)))); have n1_ := Aside0.mk (below_step (by repeat (first | (with_reducible first | exact HB.out | apply below_alloc | apply pw_below_drewN | apply below_drew1) | exact HB.out)) hb); clear HB; have HO3 := n0_; have HB := n1_; clear n0_ n1_; clear hb ho10; obtain ⟨Ao11, co11, eo11⟩ := Kd.R_slice HO3.out; subst eo11) | ((with_reducible refine gate_callee (f := 5) rfl ?_); refine goesL_ (some 12) rfl rfl Tryz.func5 (by kernel_rfl) rfl #[.string a0, .slice Ao11 y1.length co11, .string (⟨#[104, 105]⟩ : ByteArray)] rfl (by (try simp only [List.map_toArray, List.map_cons, List.map_nil]); first | done | rfl | (simp only [List.length_drop, List.length_take]; rfl)) ?_; (with_reducible refine (driftnetlaw19_run.calls a0 _ _ y1 (⟨#[104, 105]⟩ : ByteArray) t4 false _ ?side1 ?side2 ?side3 A3.out).mono ?_); (case side1 => repeat (first | exact (Kd.R_reads' HO3.out).2.2 | (with_reducible refine Kd.C_alloc ?_ _) | (with_reducible refine Kd.C_drewN ?_ _) | (with_reducible refine Kd.C_drew ?_))); (case side2 => exact (Kd.R_reads' HO3.out).2.1); (case side3 => exact G.at hG.out (by repeat (first | (with_reducible first | exact HB.out | apply below_alloc | apply pw_below_drewN | apply below_drew1) | exact HB.out))); rintro e w12 ⟨rfl, hb⟩; refine ⟨_, rfl, ?_⟩; have n0_ := Aside0.mk (Kd.R_below (by (with_reducible repeat (first | apply Kd.R_alloc | apply Kd.R_drewN | apply Kd.R_drew)); exact HO3.out) hb); have n1_ := Aside0.mk (below_step (by repeat (first | (with_reducible first | exact HB.out | apply below_alloc | apply pw_below_drewN | apply below_drew1) | exact HB.out)) hb); clear HO3; clear HB; have HO3 := n0_; have HB := n1_; clear n0_ n1_; (try clear hb); (try clear hb2); (try clear hk); (try clear hi)))
    go_ret
    exact ⟨by first | rfl | (simp [errW_none, errW_some] <;> rfl) | (simp [*, errW_none, errW_some] <;> rfl), by repeat (first | (with_reducible first | exact HB.out | apply below_alloc | apply pw_below_drewN | apply below_drew1) | exact HB.out)⟩
end Go.Proofs.YtfojidcbcpkpmaaGreatDoor.P
end
section
namespace Go.Proofs.YtfojidcbcpkpmaaGreatDoor.P
open Go.RowKit Go.Proofs.YtfojidcbcpkpmaaGreatDoorW.PrintWords Go.Proofs.YtfojidcbcpkpmaaGreatDoorW.PrintLast Go.Proofs.YtfojidcbcpkpmaaGreatDoorW.PrintMore
attribute [local go_sem] max2_int min2_int max_two min_two max_three min_three max_four min_four leq_str
set_option linter.unusedVariables false
set_option linter.unusedSimpArgs false
/-! ### driftnetlaw19_works: function 4 -/
def driftnetlaw19_works.f  : Option (Bool) := (driftnetlaw19_run.f (⟨#[123, 123, 46, 97, 112, 112, 125, 125, 58, 32, 123, 123, 32, 95, 95, 108, 105, 110, 101, 95, 95, 32, 125, 125]⟩ : ByteArray) (([(⟨(⟨#[97, 112, 112]⟩ : ByteArray), (⟨#[119, 101, 98]⟩ : ByteArray)⟩ : S24)] : List (S24))) (⟨#[104, 105]⟩ : ByteArray)).bind fun bt4 => (if bt4.2 = true then (if bt4.1.toList = ([119, 101, 98, 58, 32, 104, 105] : List UInt8) then ((driftnetlaw19_is.f (⟨#[123, 123, 46, 120, 32, 124, 32, 117, 112, 112, 101, 114, 32, 124, 32, 108, 101, 110, 125, 125, 45, 123, 123, 46, 122, 125, 125, 125]⟩ : ByteArray) (⟨#[50, 45, 125]⟩ : ByteArray)).bind fun t6 => (if t6 = true then ((driftnetlaw19_fails.f (⟨#[123, 123]⟩ : ByteArray)).bind fun t7 => (if t7 = true then ((driftnetlaw19_fails.f (⟨#[123, 123, 46, 57, 125, 125]⟩ : ByteArray)).bind fun t8 => (if t8 = true then ((driftnetlaw19_fails.f (⟨#[123, 123, 97, 112, 112, 125, 125]⟩ : ByteArray)).bind fun t9 => (if t9 = true then ((driftnetlaw19_fails.f (⟨#[123, 123, 46, 97, 32, 124, 32, 117, 112, 125, 125]⟩ : ByteArray)).bind fun t10 => (if t10 = true then ((driftnetlaw19_fails.f (⟨#[123, 123, 46, 97, 46, 98, 125, 125]⟩ : ByteArray)).bind fun t11 => (some t11)) else (some false))) else (some false))) else (some false))) else (some false))) else (some false))) else (some false)) else (some false))
set_option maxHeartbeats 8000000 in
set_option maxRecDepth 100000 in
theorem driftnetlaw19_works.calls  (r : Bool) (w : World) (hG : Aside0 (G w)) (h : driftnetlaw19_works.f  = some r) :
    Calls Tryz.prog 4 #[] w fun e w' => e = .returned (.bool r) ∧ Below w.heap.size w w' := by
  have hu24 := Tryz.underlying24
  have HB := Aside0.mk (Below.refl w.heap.size w)
  have H : ((driftnetlaw19_run.f (⟨#[123, 123, 46, 97, 112, 112, 125, 125, 58, 32, 123, 123, 32, 95, 95, 108, 105, 110, 101, 95, 95, 32, 125, 125]⟩ : ByteArray) (([(⟨(⟨#[97, 112, 112]⟩ : ByteArray), (⟨#[119, 101, 98]⟩ : ByteArray)⟩ : S24)] : List (S24))) (⟨#[104, 105]⟩ : ByteArray)).bind fun bt4 => (if bt4.2 = true then (if bt4.1.toList = ([119, 101, 98, 58, 32, 104, 105] : List UInt8) then ((driftnetlaw19_is.f (⟨#[123, 123, 46, 120, 32, 124, 32, 117, 112, 112, 101, 114, 32, 124, 32, 108, 101, 110, 125, 125, 45, 123, 123, 46, 122, 125, 125, 125]⟩ : ByteArray) (⟨#[50, 45, 125]⟩ : ByteArray)).bind fun t6 => (if t6 = true then ((driftnetlaw19_fails.f (⟨#[123, 123]⟩ : ByteArray)).bind fun t7 => (if t7 = true then ((driftnetlaw19_fails.f (⟨#[123, 123, 46, 57, 125, 125]⟩ : ByteArray)).bind fun t8 => (if t8 = true then ((driftnetlaw19_fails.f (⟨#[123, 123, 97, 112, 112, 125, 125]⟩ : ByteArray)).bind fun t9 => (if t9 = true then ((driftnetlaw19_fails.f (⟨#[123, 123, 46, 97, 32, 124, 32, 117, 112, 125, 125]⟩ : ByteArray)).bind fun t10 => (if t10 = true then ((driftnetlaw19_fails.f (⟨#[123, 123, 46, 97, 46, 98, 125, 125]⟩ : ByteArray)).bind fun t11 => (some t11)) else (some false))) else (some false))) else (some false))) else (some false))) else (some false))) else (some false)) else (some false))) = some r := h
  clear h
  obtain ⟨y1, hy1⟩ : ∃ y_ : List (S24), y_ = (([(⟨(⟨#[97, 112, 112]⟩ : ByteArray), (⟨#[119, 101, 98]⟩ : ByteArray)⟩ : S24)] : List (S24))) := ⟨_, rfl⟩
  replace H : ((driftnetlaw19_run.f (⟨#[123, 123, 46, 97, 112, 112, 125, 125, 58, 32, 123, 123, 32, 95, 95, 108, 105, 110, 101, 95, 95, 32, 125, 125]⟩ : ByteArray) y1 (⟨#[104, 105]⟩ : ByteArray)).bind fun bt4 => (if bt4.2 = true then (if bt4.1.toList = ([119, 101, 98, 58, 32, 104, 105] : List UInt8) then ((driftnetlaw19_is.f (⟨#[123, 123, 46, 120, 32, 124, 32, 117, 112, 112, 101, 114, 32, 124, 32, 108, 101, 110, 125, 125, 45, 123, 123, 46, 122, 125, 125, 125]⟩ : ByteArray) (⟨#[50, 45, 125]⟩ : ByteArray)).bind fun t6 => (if t6 = true then ((driftnetlaw19_fails.f (⟨#[123, 123]⟩ : ByteArray)).bind fun t7 => (if t7 = true then ((driftnetlaw19_fails.f (⟨#[123, 123, 46, 57, 125, 125]⟩ : ByteArray)).bind fun t8 => (if t8 = true then ((driftnetlaw19_fails.f (⟨#[123, 123, 97, 112, 112, 125, 125]⟩ : ByteArray)).bind fun t9 => (if t9 = true then ((driftnetlaw19_fails.f (⟨#[123, 123, 46, 97, 32, 124, 32, 117, 112, 125, 125]⟩ : ByteArray)).bind fun t10 => (if t10 = true then ((driftnetlaw19_fails.f (⟨#[123, 123, 46, 97, 46, 98, 125, 125]⟩ : ByteArray)).bind fun t11 => (some t11)) else (some false))) else (some false))) else (some false))) else (some false))) else (some false))) else (some false)) else (some false))) = some r := by first | (rw [hy1]; with_reducible exact H) | (have H2_ := (Option.bind_some _ _).symm.trans H; rw [hy1]; with_reducible exact H2_) | (have H2_ := (Option.bind_some _ _).symm.trans H; with_reducible exact H2_) | with_reducible exact H | (rw [hy1]; exact H) | exact H
  have Ny1 := Aside0.mk hy1
  clear hy1
  replace H := Option.bind_eq_some_iff.mp H
  obtain ⟨⟨t4, t5⟩, A10, H⟩ := H
  replace H : (if t5 = true then (if t4.toList = ([119, 101, 98, 58, 32, 104, 105] : List UInt8) then ((driftnetlaw19_is.f (⟨#[123, 123, 46, 120, 32, 124, 32, 117, 112, 112, 101, 114, 32, 124, 32, 108, 101, 110, 125, 125, 45, 123, 123, 46, 122, 125, 125, 125]⟩ : ByteArray) (⟨#[50, 45, 125]⟩ : ByteArray)).bind fun t6 => (if t6 = true then ((driftnetlaw19_fails.f (⟨#[123, 123]⟩ : ByteArray)).bind fun t7 => (if t7 = true then ((driftnetlaw19_fails.f (⟨#[123, 123, 46, 57, 125, 125]⟩ : ByteArray)).bind fun t8 => (if t8 = true then ((driftnetlaw19_fails.f (⟨#[123, 123, 97, 112, 112, 125, 125]⟩ : ByteArray)).bind fun t9 => (if t9 = true then ((driftnetlaw19_fails.f (⟨#[123, 123, 46, 97, 32, 124, 32, 117, 112, 125, 125]⟩ : ByteArray)).bind fun t10 => (if t10 = true then ((driftnetlaw19_fails.f (⟨#[123, 123, 46, 97, 46, 98, 125, 125]⟩ : ByteArray)).bind fun t11 => (some t11)) else (some false))) else (some false))) else (some false))) else (some false))) else (some false))) else (some false)) else (some false)) = some r := H
  have A1 := Aside0.mk A10
  clear A10
  by_cases c2 : t5 = true
  · subst c2
    have H1 : (if t4.toList = ([119, 101, 98, 58, 32, 104, 105] : List UInt8) then ((driftnetlaw19_is.f (⟨#[123, 123, 46, 120, 32, 124, 32, 117, 112, 112, 101, 114, 32, 124, 32, 108, 101, 110, 125, 125, 45, 123, 123, 46, 122, 125, 125, 125]⟩ : ByteArray) (⟨#[50, 45, 125]⟩ : ByteArray)).bind fun t6 => (if t6 = true then ((driftnetlaw19_fails.f (⟨#[123, 123]⟩ : ByteArray)).bind fun t7 => (if t7 = true then ((driftnetlaw19_fails.f (⟨#[123, 123, 46, 57, 125, 125]⟩ : ByteArray)).bind fun t8 => (if t8 = true then ((driftnetlaw19_fails.f (⟨#[123, 123, 97, 112, 112, 125, 125]⟩ : ByteArray)).bind fun t9 => (if t9 = true then ((driftnetlaw19_fails.f (⟨#[123, 123, 46, 97, 32, 124, 32, 117, 112, 125, 125]⟩ : ByteArray)).bind fun t10 => (if t10 = true then ((driftnetlaw19_fails.f (⟨#[123, 123, 46, 97, 46, 98, 125, 125]⟩ : ByteArray)).bind fun t11 => (some t11)) else (some false))) else (some false))) else (some false))) else (some false))) else (some false))) else (some false)) = some r := by rw [if_pos rfl] at H; exact H
    clear H
    have H := H1
    clear H1
    by_cases c3 : t4.toList = ([119, 101, 98, 58, 32, 104, 105] : List UInt8)
    · rw [if_pos c3] at H
      have c3b0 : (t4.toList == ([119, 101, 98, 58, 32, 104, 105] : List UInt8)) = true := beq_iff_eq.mpr c3
      have c3b1 : (t4.toList != ([119, 101, 98, 58, 32, 104, 105] : List UInt8)) = false := bne_eq_false_iff_eq.mpr c3
      clear c3
      replace H := Option.bind_eq_some_iff.mp H
      obtain ⟨t6, A40, H⟩ := H
      replace H : (if t6 = true then ((driftnetlaw19_fails.f (⟨#[123, 123]⟩ : ByteArray)).bind fun t7 => (if t7 = true then ((driftnetlaw19_fails.f (⟨#[123, 123, 46, 57, 125, 125]⟩ : ByteArray)).bind fun t8 => (if t8 = true then ((driftnetlaw19_fails.f (⟨#[123, 123, 97, 112, 112, 125, 125]⟩ : ByteArray)).bind fun t9 => (if t9 = true then ((driftnetlaw19_fails.f (⟨#[123, 123, 46, 97, 32, 124, 32, 117, 112, 125, 125]⟩ : ByteArray)).bind fun t10 => (if t10 = true then ((driftnetlaw19_fails.f (⟨#[123, 123, 46, 97, 46, 98, 125, 125]⟩ : ByteArray)).bind fun t11 => (some t11)) else (some false))) else (some false))) else (some false))) else (some false))) else (some false)) = some r := H
      have A4 := Aside0.mk A40
      clear A40
      by_cases c5 : t6 = true
      · subst c5
        have H1 : ((driftnetlaw19_fails.f (⟨#[123, 123]⟩ : ByteArray)).bind fun t7 => (if t7 = true then ((driftnetlaw19_fails.f (⟨#[123, 123, 46, 57, 125, 125]⟩ : ByteArray)).bind fun t8 => (if t8 = true then ((driftnetlaw19_fails.f (⟨#[123, 123, 97, 112, 112, 125, 125]⟩ : ByteArray)).bind fun t9 => (if t9 = true then ((driftnetlaw19_fails.f (⟨#[123, 123, 46, 97, 32, 124, 32, 117, 112, 125, 125]⟩ : ByteArray)).bind fun t10 => (if t10 = true then ((driftnetlaw19_fails.f (⟨#[123, 123, 46, 97, 46, 98, 125, 125]⟩ : ByteArray)).bind fun t11 => (some t11)) else (some false))) else (some false))) else (some false))) else (some false))) = some r := by rw [if_pos rfl] at H; exact H
        clear H
        have H := H1
        clear H1
        replace H := Option.bind_eq_some_iff.mp H
        obtain ⟨t7, A60, H⟩ := H
        replace H : (if t7 = true then ((driftnetlaw19_fails.f (⟨#[123, 123, 46, 57, 125, 125]⟩ : ByteArray)).bind fun t8 => (if t8 = true then ((driftnetlaw19_fails.f (⟨#[123, 123, 97, 112, 112, 125, 125]⟩ : ByteArray)).bind fun t9 => (if t9 = true then ((driftnetlaw19_fails.f (⟨#[123, 123, 46, 97, 32, 124, 32, 117, 112, 125, 125]⟩ : ByteArray)).bind fun t10 => (if t10 = true then ((driftnetlaw19_fails.f (⟨#[123, 123, 46, 97, 46, 98, 125, 125]⟩ : ByteArray)).bind fun t11 => (some t11)) else (some false))) else (some false))) else (some false))) else (some false)) = some r := H
        have A6 := Aside0.mk A60
        clear A60
        by_cases c7 : t7 = true
        · subst c7
          have H1 : ((driftnetlaw19_fails.f (⟨#[123, 123, 46, 57, 125, 125]⟩ : ByteArray)).bind fun t8 => (if t8 = true then ((driftnetlaw19_fails.f (⟨#[123, 123, 97, 112, 112, 125, 125]⟩ : ByteArray)).bind fun t9 => (if t9 = true then ((driftnetlaw19_fails.f (⟨#[123, 123, 46, 97, 32, 124, 32, 117, 112, 125, 125]⟩ : ByteArray)).bind fun t10 => (if t10 = true then ((driftnetlaw19_fails.f (⟨#[123, 123, 46, 97, 46, 98, 125, 125]⟩ : ByteArray)).bind fun t11 => (some t11)) else (some false))) else (some false))) else (some false))) = some r := by rw [if_pos rfl] at H; exact H
          clear H
          have H := H1
          clear H1
          replace H := Option.bind_eq_some_iff.mp H
          obtain ⟨t8, A80, H⟩ := H
          replace H : (if t8 = true then ((driftnetlaw19_fails.f (⟨#[123, 123, 97, 112, 112, 125, 125]⟩ : ByteArray)).bind fun t9 => (if t9 = true then ((driftnetlaw19_fails.f (⟨#[123, 123, 46, 97, 32, 124, 32, 117, 112, 125, 125]⟩ : ByteArray)).bind fun t10 => (if t10 = true then ((driftnetlaw19_fails.f (⟨#[123, 123, 46, 97, 46, 98, 125, 125]⟩ : ByteArray)).bind fun t11 => (some t11)) else (some false))) else (some false))) else (some false)) = some r := H
          have A8 := Aside0.mk A80
          clear A80
          by_cases c9 : t8 = true
          · subst c9
            have H1 : ((driftnetlaw19_fails.f (⟨#[123, 123, 97, 112, 112, 125, 125]⟩ : ByteArray)).bind fun t9 => (if t9 = true then ((driftnetlaw19_fails.f (⟨#[123, 123, 46, 97, 32, 124, 32, 117, 112, 125, 125]⟩ : ByteArray)).bind fun t10 => (if t10 = true then ((driftnetlaw19_fails.f (⟨#[123, 123, 46, 97, 46, 98, 125, 125]⟩ : ByteArray)).bind fun t11 => (some t11)) else (some false))) else (some false))) = some r := by rw [if_pos rfl] at H; exact H
            clear H
            have H := H1
            clear H1
            replace H := Option.bind_eq_some_iff.mp H
            obtain ⟨t9, A100, H⟩ := H
            replace H : (if t9 = true then ((driftnetlaw19_fails.f (⟨#[123, 123, 46, 97, 32, 124, 32, 117, 112, 125, 125]⟩ : ByteArray)).bind fun t10 => (if t10 = true then ((driftnetlaw19_fails.f (⟨#[123, 123, 46, 97, 46, 98, 125, 125]⟩ : ByteArray)).bind fun t11 => (some t11)) else (some false))) else (some false)) = some r := H
            have A10 := Aside0.mk A100
            clear A100
            by_cases c11 : t9 = true
            · subst c11
              have H1 : ((driftnetlaw19_fails.f (⟨#[123, 123, 46, 97, 32, 124, 32, 117, 112, 125, 125]⟩ : ByteArray)).bind fun t10 => (if t10 = true then ((driftnetlaw19_fails.f (⟨#[123, 123, 46, 97, 46, 98, 125, 125]⟩ : ByteArray)).bind fun t11 => (some t11)) else (some false))) = some r := by rw [if_pos rfl] at H; exact H
              clear H
              have H := H1
              clear H1
              replace H := Option.bind_eq_some_iff.mp H
              obtain ⟨t10, A120, H⟩ := H
              replace H : (if t10 = true then ((driftnetlaw19_fails.f (⟨#[123, 123, 46, 97, 46, 98, 125, 125]⟩ : ByteArray)).bind fun t11 => (some t11)) else (some false)) = some r := H
              have A12 := Aside0.mk A120
              clear A120
              by_cases c13 : t10 = true
              · subst c13
                have H1 : ((driftnetlaw19_fails.f (⟨#[123, 123, 46, 97, 46, 98, 125, 125]⟩ : ByteArray)).bind fun t11 => (some t11)) = some r := by rw [if_pos rfl] at H; exact H
                clear H
                have H := H1
                clear H1
                replace H := Option.bind_eq_some_iff.mp H
                obtain ⟨t11, A140, H⟩ := H
                replace H : (some t11) = some r := H
                have A14 := Aside0.mk A140
                clear A140
                obtain rfl := Option.some.inj H
                go_enter Tryz.func4, Tryz.ntmps4
                go_wp2_with (first | ((with_reducible refine gate_dst (N := 5) rfl ?_); refine Kd.R_lit k24 _ 24 ?hg (N := 5) ?hd (xs := ([(⟨(⟨#[97, 112, 112]⟩ : ByteArray), (⟨#[119, 101, 98]⟩ : ByteArray)⟩ : S24)] : List (S24))) (inner := [.string (⟨#[97, 112, 112]⟩ : ByteArray), .string (⟨#[119, 101, 98]⟩ : ByteArray)]) (ok := fun _ => True) (okp := fun _ => True) ?hr ?hp (fun _ hk => hk) trivial (Below.refl _ _) (Nat.le_refl _) (by simp) ?_; (case hd => rfl); (case hg => rfl); (case hr => first | (go_simp; done) | (go_simp; rfl)); (case hp => exact (Reps.c2 (show Kd.M k24 _ _ _ (⟨(⟨#[97, 112, 112]⟩ : ByteArray), (⟨#[119, 101, 98]⟩ : ByteArray)⟩ : S24) [.string (⟨#[97, 112, 112]⟩ : ByteArray), .string (⟨#[119, 101, 98]⟩ : ByteArray)] from (k24_mkM _ _ _ (⟨(⟨#[97, 112, 112]⟩ : ByteArray), (⟨#[119, 101, 98]⟩ : ByteArray)⟩ : S24) )) (Reps.none _ _))); intro v2 w15 ho16 hb hg_ hnew_; clear hg_ hnew_; (first | rw [← Ny1.out] at ho16 | (simp only [Int.reduceToNat] at ho16; rw [← Ny1.out] at ho16)); have n0_ := Aside0.mk (Kd.R_lower ho16 (below_size (by repeat (first | (with_reducible first | exact HB.out | apply below_alloc | apply pw_below_drewN | apply below_drew1) | exact HB.out)))); have n1_ := Aside0.mk (below_step (by repeat (first | (with_reducible first | exact HB.out | apply below_alloc | apply pw_below_drewN | apply below_drew1) | exact HB.out)) hb); clear HB; have HO3 := n0_; have HB := n1_; clear n0_ n1_; clear hb ho16; obtain ⟨Ao17, co17, eo17⟩ := Kd.R_slice HO3.out; subst eo17) | ((with_reducible refine gate_callee (f := 5) rfl ?_); refine goesL_ (some 6) rfl rfl Tryz.func5 (by kernel_rfl) rfl #[.string (⟨#[123, 123, 46, 97, 112, 112, 125, 125, 58, 32, 123, 123, 32, 95, 95, 108, 105, 110, 101, 95, 95, 32, 125, 125]⟩ : ByteArray), .slice Ao17 y1.length co17, .string (⟨#[104, 105]⟩ : ByteArray)] rfl (by (try simp only [List.map_toArray, List.map_cons, List.map_nil]); first | done | rfl | (simp only [List.length_drop, List.length_take]; rfl)) ?_; (with_reducible refine (driftnetlaw19_run.calls (⟨#[123, 123, 46, 97, 112, 112, 125, 125, 58, 32, 123, 123, 32, 95, 95, 108, 105, 110, 101, 95, 95, 32, 125, 125]⟩ : ByteArray) _ _ y1 (⟨#[104, 105]⟩ : ByteArray) t4 true _ ?side1 ?side2 ?side3 A1.out).mono ?_); (case side1 => repeat (first | exact (Kd.R_reads' HO3.out).2.2 | (with_reducible refine Kd.C_alloc ?_ _) | (with_reducible refine Kd.C_drewN ?_ _) | (with_reducible refine Kd.C_drew ?_))); (case side2 => exact (Kd.R_reads' HO3.out).2.1); (case side3 => exact G.at hG.out (by repeat (first | (with_reducible first | exact HB.out | apply below_alloc | apply pw_below_drewN | apply below_drew1) | exact HB.out))); rintro e w18 ⟨rfl, hb⟩; refine ⟨_, rfl, ?_⟩; have n0_ := Aside0.mk (Kd.R_below (by (with_reducible repeat (first | apply Kd.R_alloc | apply Kd.R_drewN | apply Kd.R_drew)); exact HO3.out) hb); have n1_ := Aside0.mk (below_step (by repeat (first | (with_reducible first | exact HB.out | apply below_alloc | apply pw_below_drewN | apply below_drew1) | exact HB.out)) hb); clear HO3; clear HB; have HO3 := n0_; have HB := n1_; clear n0_ n1_; (try clear hb); (try clear hb2); (try clear hk); (try clear hi)) | (go_at_call 10; (with_reducible refine (driftnetlaw19_is.calls (⟨#[123, 123, 46, 120, 32, 124, 32, 117, 112, 112, 101, 114, 32, 124, 32, 108, 101, 110, 125, 125, 45, 123, 123, 46, 122, 125, 125, 125]⟩ : ByteArray) (⟨#[50, 45, 125]⟩ : ByteArray) true _ ?side1 A4.out).mono ?_); (case side1 => exact G.at hG.out (by repeat (first | (with_reducible first | exact HB.out | apply below_alloc | apply pw_below_drewN | apply below_drew1) | exact HB.out))); rintro e w19 ⟨rfl, hb⟩; have n0_ := Aside0.mk (Kd.R_below (by (with_reducible repeat (first | apply Kd.R_alloc | apply Kd.R_drewN | apply Kd.R_drew)); exact HO3.out) hb); have n1_ := Aside0.mk (below_step (by repeat (first | (with_reducible first | exact HB.out | apply below_alloc | apply pw_below_drewN | apply below_drew1) | exact HB.out)) hb); clear HO3; clear HB; have HO3 := n0_; have HB := n1_; clear n0_ n1_; (try clear hb); (try clear hb2); (try clear hk); (try clear hi)) | (go_at_call 11; (with_reducible refine (driftnetlaw19_fails.calls (⟨#[123, 123]⟩ : ByteArray) true _ ?side1 A6.out).mono ?_); (case side1 => exact G.at hG.out (by repeat (first | (with_reducible first | exact HB.out | apply below_alloc | apply pw_below_drewN | apply below_drew1) | exact HB.out))); rintro e w20 ⟨rfl, hb⟩; have n0_ := Aside0.mk (Kd.R_below (by (with_reducible repeat (first | apply Kd.R_alloc | apply Kd.R_drewN | apply Kd.R_drew)); exact HO3.out) hb); have n1_ := Aside0.mk (below_step (by repeat (first | (with_reducible first | exact HB.out | apply below_alloc | apply pw_below_drewN | apply below_drew1) | exact HB.out)) hb); clear HO3; clear HB; have HO3 := n0_; have HB := n1_; clear n0_ n1_; (try clear hb); (try clear hb2); (try clear hk); (try clear hi)) | (go_at_call 11; (with_reducible refine (driftnetlaw19_fails.calls (⟨#[123, 123, 46, 57, 125, 125]⟩ : ByteArray) true _ ?side1 A8.out).mono ?_); (case side1 => exact G.at hG.out (by repeat (first | (with_reducible first | exact HB.out | apply below_alloc | apply pw_below_drewN | apply below_drew1) | exact HB.out))); rintro e w21 ⟨rfl, hb⟩; have n0_ := Aside0.mk (Kd.R_below (by (with_reducible repeat (first | apply Kd.R_alloc | apply Kd.R_drewN | apply Kd.R_drew)); exact HO3.out) hb); have n1_ := Aside0.mk (below_step (by repeat (first | (with_reducible first | exact HB.out | apply below_alloc | apply pw_below_drewN | apply below_drew1) | exact HB.out)) hb); clear HO3; clear HB; have HO3 := n0_; have HB := n1_; clear n0_ n1_; (try clear hb); (try clear hb2); (try clear hk); (try clear hi)) | (go_at_call 11; (with_reducible refine (driftnetlaw19_fails.calls (⟨#[123, 123, 97, 112, 112, 125, 125]⟩ : ByteArray) true _ ?side1 A10.out).mono ?_); (case side1 => exact G.at hG.out (by repeat (first | (with_reducible first | exact HB.out | apply below_alloc | apply pw_below_drewN | apply below_drew1) | exact HB.out))); rintro e w22 ⟨rfl, hb⟩; have n0_ := Aside0.mk (Kd.R_below (by (with_reducible repeat (first | apply Kd.R_alloc | apply Kd.R_drewN | apply Kd.R_drew)); exact HO3.out) hb); have n1_ := Aside0.mk (below_step (by repeat (first | (with_reducible first | exact HB.out | apply below_alloc | apply pw_below_drewN | apply below_drew1) | exact HB.out)) hb); clear HO3; clear HB; have HO3 := n0_; have HB := n1_; clear n0_ n1_; (try clear hb); (try clear hb2); (try clear hk); (try clear hi)) | (go_at_call 11; (with_reducible refine (driftnetlaw19_fails.calls (⟨#[123, 123, 46, 97, 32, 124, 32, 117, 112, 125, 125]⟩ : ByteArray) true _ ?side1 A12.out).mono ?_); (case side1 => exact G.at hG.out (by repeat (first | (with_reducible first | exact HB.out | apply below_alloc | apply pw_below_drewN | apply below_drew1) | exact HB.out))); rintro e w23 ⟨rfl, hb⟩; have n0_ := Aside0.mk (Kd.R_below (by (with_reducible repeat (first | apply Kd.R_alloc | apply Kd.R_drewN | apply Kd.R_drew)); exact HO3.out) hb); have n1_ := Aside0.mk (below_step (by repeat (first | (with_reducible first | exact HB.out | apply below_alloc | apply pw_below_drewN | apply below_drew1) | exact HB.out)) hb); clear HO3; clear HB; have HO3 := n0_; have HB := n1_; clear n0_ n1_; (try clear hb); (try clear hb2); (try clear hk); (try clear hi)) | (go_at_call 11; (with_reducible refine (driftnetlaw19_fails.calls (⟨#[123, 123, 46, 97, 46, 98, 125, 125]⟩ : ByteArray) t11 _ ?side1 A14.out).mono ?_); (case side1 => exact G.at hG.out (by repeat (first | (with_reducible first | exact HB.out | apply below_alloc | apply pw_below_drewN | apply below_drew1) | exact HB.out))); rintro e w24 ⟨rfl, hb⟩; have n0_ := Aside0.mk (Kd.R_below (by (with_reducible repeat (first | apply Kd.R_alloc | apply Kd.R_drewN | apply Kd.R_drew)); exact HO3.out) hb); have n1_ := Aside0.mk (below_step (by repeat (first | (with_reducible first | exact HB.out | apply below_alloc | apply pw_below_drewN | apply below_drew1) | exact HB.out)) hb); clear HO3; clear HB; have HO3 := n0_; have HB := n1_; clear n0_ n1_; (try clear hb); (try clear hb2); (try clear hk); (try clear hi)))
                go_ret
                exact ⟨by first | rfl | (simp [errW_none, errW_some] <;> rfl) | (simp [*, errW_none, errW_some] <;> rfl), by repeat (first | (with_reducible first | exact HB.out | apply below_alloc | apply pw_below_drewN | apply below_drew1) | exact HB.out)⟩
              · replace c13 := Bool.eq_false_iff.mpr c13
                subst c13
                have H1 : (some false) = some r := by rw [if_neg (show ¬ (false = true) by decide)] at H; exact H
                clear H
                have H := H1
                clear H1
                obtain rfl := Option.some.inj H
                go_enter Tryz.func4, Tryz.ntmps4
                go_wp2_with (first | ((with_reducible refine gate_dst (N := 5) rfl ?_); refine Kd.R_lit k24 _ 24 ?hg (N := 5) ?hd (xs := ([(⟨(⟨#[97, 112, 112]⟩ : ByteArray), (⟨#[119, 101, 98]⟩ : ByteArray)⟩ : S24)] : List (S24))) (inner := [.string (⟨#[97, 112, 112]⟩ : ByteArray), .string (⟨#[119, 101, 98]⟩ : ByteArray)]) (ok := fun _ => True) (okp := fun _ => True) ?hr ?hp (fun _ hk => hk) trivial (Below.refl _ _) (Nat.le_refl _) (by simp) ?_; (case hd => rfl); (case hg => rfl); (case hr => first | (go_simp; done) | (go_simp; rfl)); (case hp => exact (Reps.c2 (show Kd.M k24 _ _ _ (⟨(⟨#[97, 112, 112]⟩ : ByteArray), (⟨#[119, 101, 98]⟩ : ByteArray)⟩ : S24) [.string (⟨#[97, 112, 112]⟩ : ByteArray), .string (⟨#[119, 101, 98]⟩ : ByteArray)] from (k24_mkM _ _ _ (⟨(⟨#[97, 112, 112]⟩ : ByteArray), (⟨#[119, 101, 98]⟩ : ByteArray)⟩ : S24) )) (Reps.none _ _))); intro v2 w25 ho26 hb hg_ hnew_; clear hg_ hnew_; (first | rw [← Ny1.out] at ho26 | (simp only [Int.reduceToNat] at ho26; rw [← Ny1.out] at ho26)); have n0_ := Aside0.mk (Kd.R_lower ho26 (below_size (by repeat (first | (with_reducible first | exact HB.out | apply below_alloc | apply pw_below_drewN | apply below_drew1) | exact HB.out)))); have n1_ := Aside0.mk (below_step (by repeat (first | (with_reducible first | exact HB.out | apply below_alloc | apply pw_below_drewN | apply below_drew1) | exact HB.out)) hb); clear HB; have HO3 := n0_; have HB := n1_; clear n0_ n1_; clear hb ho26; obtain ⟨Ao27, co27, eo27⟩ := Kd.R_slice HO3.out; subst eo27) | ((with_reducible refine gate_callee (f := 5) rfl ?_); refine goesL_ (some 6) rfl rfl Tryz.func5 (by kernel_rfl) rfl #[.string (⟨#[123, 123, 46, 97, 112, 112, 125, 125, 58, 32, 123, 123, 32, 95, 95, 108, 105, 110, 101, 95, 95, 32, 125, 125]⟩ : ByteArray), .slice Ao27 y1.length co27, .string (⟨#[104, 105]⟩ : ByteArray)] rfl (by (try simp only [List.map_toArray, List.map_cons, List.map_nil]); first | done | rfl | (simp only [List.length_drop, List.length_take]; rfl)) ?_; (with_reducible refine (driftnetlaw19_run.calls (⟨#[123, 123, 46, 97, 112, 112, 125, 125, 58, 32, 123, 123, 32, 95, 95, 108, 105, 110, 101, 95, 95, 32, 125, 125]⟩ : ByteArray) _ _ y1 (⟨#[104, 105]⟩ : ByteArray) t4 true _ ?side1 ?side2 ?side3 A1.out).mono ?_); (case side1 => repeat (first | exact (Kd.R_reads' HO3.out).2.2 | (with_reducible refine Kd.C_alloc ?_ _) | (with_reducible refine Kd.C_drewN ?_ _) | (with_reducible refine Kd.C_drew ?_))); (case side2 => exact (Kd.R_reads' HO3.out).2.1); (case side3 => exact G.at hG.out (by repeat (first | (with_reducible first | exact HB.out | apply below_alloc | apply pw_below_drewN | apply below_drew1) | exact HB.out))); rintro e w28 ⟨rfl, hb⟩; refine ⟨_, rfl, ?_⟩; have n0_ := Aside0.mk (Kd.R_below (by (with_reducible repeat (first | apply Kd.R_alloc | apply Kd.R_drewN | apply Kd.R_drew)); exact HO3.out) hb); have n1_ := Aside0.mk (below_step (by repeat (first | (with_reducible first | exact HB.out | apply below_alloc | apply pw_below_drewN | apply below_drew1) | exact HB.out)) hb); clear HO3; clear HB; have HO3 := n0_; have HB := n1_; clear n0_ n1_; (try clear hb); (try clear hb2); (try clear hk); (try clear hi)) | (go_at_call 10; (with_reducible refine (driftnetlaw19_is.calls (⟨#[123, 123, 46, 120, 32, 124, 32, 117, 112, 112, 101, 114, 32, 124, 32, 108, 101, 110, 125, 125, 45, 123, 123, 46, 122, 125, 125, 125]⟩ : ByteArray) (⟨#[50, 45, 125]⟩ : ByteArray) true _ ?side1 A4.out).mono ?_); (case side1 => exact G.at hG.out (by repeat (first | (with_reducible first | exact HB.out | apply below_alloc | apply pw_below_drewN | apply below_drew1) | exact HB.out))); rintro e w29 ⟨rfl, hb⟩; have n0_ := Aside0.mk (Kd.R_below (by (with_reducible repeat (first | apply Kd.R_alloc | apply Kd.R_drewN | apply Kd.R_drew)); exact HO3.out) hb); have n1_ := Aside0.mk (below_step (by repeat (first | (with_reducible first | exact HB.out | apply below_alloc | apply pw_below_drewN | apply below_drew1) | exact HB.out)) hb); clear HO3; clear HB; have HO3 := n0_; have HB := n1_; clear n0_ n1_; (try clear hb); (try clear hb2); (try clear hk); (try clear hi)) | (go_at_call 11; (with_reducible refine (driftnetlaw19_fails.calls (⟨#[123, 123]⟩ : ByteArray) true _ ?side1 A6.out).mono ?_); (case side1 => exact G.at hG.out (by repeat (first | (with_reducible first | exact HB.out | apply below_alloc | apply pw_below_drewN | apply below_drew1) | exact HB.out))); rintro e w30 ⟨rfl, hb⟩; have n0_ := Aside0.mk (Kd.R_below (by (with_reducible repeat (first | apply Kd.R_alloc | apply Kd.R_drewN | apply Kd.R_drew)); exact HO3.out) hb); have n1_ := Aside0.mk (below_step (by repeat (first | (with_reducible first | exact HB.out | apply below_alloc | apply pw_below_drewN | apply below_drew1) | exact HB.out)) hb); clear HO3; clear HB; have HO3 := n0_; have HB := n1_; clear n0_ n1_; (try clear hb); (try clear hb2); (try clear hk); (try clear hi)) | (go_at_call 11; (with_reducible refine (driftnetlaw19_fails.calls (⟨#[123, 123, 46, 57, 125, 125]⟩ : ByteArray) true _ ?side1 A8.out).mono ?_); (case side1 => exact G.at hG.out (by repeat (first | (with_reducible first | exact HB.out | apply below_alloc | apply pw_below_drewN | apply below_drew1) | exact HB.out))); rintro e w31 ⟨rfl, hb⟩; have n0_ := Aside0.mk (Kd.R_below (by (with_reducible repeat (first | apply Kd.R_alloc | apply Kd.R_drewN | apply Kd.R_drew)); exact HO3.out) hb); have n1_ := Aside0.mk (below_step (by repeat (first | (with_reducible first | exact HB.out | apply below_alloc | apply pw_below_drewN | apply below_drew1) | exact HB.out)) hb); clear HO3; clear HB; have HO3 := n0_; have HB := n1_; clear n0_ n1_; (try clear hb); (try clear hb2); (try clear hk); (try clear hi)) | (go_at_call 11; (with_reducible refine (driftnetlaw19_fails.calls (⟨#[123, 123, 97, 112, 112, 125, 125]⟩ : ByteArray) true _ ?side1 A10.out).mono ?_); (case side1 => exact G.at hG.out (by repeat (first | (with_reducible first | exact HB.out | apply below_alloc | apply pw_below_drewN | apply below_drew1) | exact HB.out))); rintro e w32 ⟨rfl, hb⟩; have n0_ := Aside0.mk (Kd.R_below (by (with_reducible repeat (first | apply Kd.R_alloc | apply Kd.R_drewN | apply Kd.R_drew)); exact HO3.out) hb); have n1_ := Aside0.mk (below_step (by repeat (first | (with_reducible first | exact HB.out | apply below_alloc | apply pw_below_drewN | apply below_drew1) | exact HB.out)) hb); clear HO3; clear HB; have HO3 := n0_; have HB := n1_; clear n0_ n1_; (try clear hb); (try clear hb2); (try clear hk); (try clear hi)) | (go_at_call 11; (with_reducible refine (driftnetlaw19_fails.calls (⟨#[123, 123, 46, 97, 32, 124, 32, 117, 112, 125, 125]⟩ : ByteArray) false _ ?side1 A12.out).mono ?_); (case side1 => exact G.at hG.out (by repeat (first | (with_reducible first | exact HB.out | apply below_alloc | apply pw_below_drewN | apply below_drew1) | exact HB.out))); rintro e w33 ⟨rfl, hb⟩; have n0_ := Aside0.mk (Kd.R_below (by (with_reducible repeat (first | apply Kd.R_alloc | apply Kd.R_drewN | apply Kd.R_drew)); exact HO3.out) hb); have n1_ := Aside0.mk (below_step (by repeat (first | (with_reducible first | exact HB.out | apply below_alloc | apply pw_below_drewN | apply below_drew1) | exact HB.out)) hb); clear HO3; clear HB; have HO3 := n0_; have HB := n1_; clear n0_ n1_; (try clear hb); (try clear hb2); (try clear hk); (try clear hi)))
                go_ret
                exact ⟨by first | rfl | (simp [errW_none, errW_some] <;> rfl) | (simp [*, errW_none, errW_some] <;> rfl), by repeat (first | (with_reducible first | exact HB.out | apply below_alloc | apply pw_below_drewN | apply below_drew1) | exact HB.out)⟩
            · replace c11 := Bool.eq_false_iff.mpr c11
              subst c11
              have H1 : (some false) = some r := by rw [if_neg (show ¬ (false = true) by decide)] at H; exact H
              clear H
              have H := H1
              clear H1
              obtain rfl := Option.some.inj H
              go_enter Tryz.func4, Tryz.ntmps4
              go_wp2_with (first | ((with_reducible refine gate_dst (N := 5) rfl ?_); refine Kd.R_lit k24 _ 24 ?hg (N := 5) ?hd (xs := ([(⟨(⟨#[97, 112, 112]⟩ : ByteArray), (⟨#[119, 101, 98]⟩ : ByteArray)⟩ : S24)] : List (S24))) (inner := [.string (⟨#[97, 112, 112]⟩ : ByteArray), .string (⟨#[119, 101, 98]⟩ : ByteArray)]) (ok := fun _ => True) (okp := fun _ => True) ?hr ?hp (fun _ hk => hk) trivial (Below.refl _ _) (Nat.le_refl _) (by simp) ?_; (case hd => rfl); (case hg => rfl); (case hr => first | (go_simp; done) | (go_simp; rfl)); (case hp => exact (Reps.c2 (show Kd.M k24 _ _ _ (⟨(⟨#[97, 112, 112]⟩ : ByteArray), (⟨#[119, 101, 98]⟩ : ByteArray)⟩ : S24) [.string (⟨#[97, 112, 112]⟩ : ByteArray), .string (⟨#[119, 101, 98]⟩ : ByteArray)] from (k24_mkM _ _ _ (⟨(⟨#[97, 112, 112]⟩ : ByteArray), (⟨#[119, 101, 98]⟩ : ByteArray)⟩ : S24) )) (Reps.none _ _))); intro v2 w34 ho35 hb hg_ hnew_; clear hg_ hnew_; (first | rw [← Ny1.out] at ho35 | (simp only [Int.reduceToNat] at ho35; rw [← Ny1.out] at ho35)); have n0_ := Aside0.mk (Kd.R_lower ho35 (below_size (by repeat (first | (with_reducible first | exact HB.out | apply below_alloc | apply pw_below_drewN | apply below_drew1) | exact HB.out)))); have n1_ := Aside0.mk (below_step (by repeat (first | (with_reducible first | exact HB.out | apply below_alloc | apply pw_below_drewN | apply below_drew1) | exact HB.out)) hb); clear HB; have HO3 := n0_; have HB := n1_; clear n0_ n1_; clear hb ho35; obtain ⟨Ao36, co36, eo36⟩ := Kd.R_slice HO3.out; subst eo36) | ((with_reducible refine gate_callee (f := 5) rfl ?_); refine goesL_ (some 6) rfl rfl Tryz.func5 (by kernel_rfl) rfl #[.string (⟨#[123, 123, 46, 97, 112, 112, 125, 125, 58, 32, 123, 123, 32, 95, 95, 108, 105, 110, 101, 95, 95, 32, 125, 125]⟩ : ByteArray), .slice Ao36 y1.length co36, .string (⟨#[104, 105]⟩ : ByteArray)] rfl (by (try simp only [List.map_toArray, List.map_cons, List.map_nil]); first | done | rfl | (simp only [List.length_drop, List.length_take]; rfl)) ?_; (with_reducible refine (driftnetlaw19_run.calls (⟨#[123, 123, 46, 97, 112, 112, 125, 125, 58, 32, 123, 123, 32, 95, 95, 108, 105, 110, 101, 95, 95, 32, 125, 125]⟩ : ByteArray) _ _ y1 (⟨#[104, 105]⟩ : ByteArray) t4 true _ ?side1 ?side2 ?side3 A1.out).mono ?_); (case side1 => repeat (first | exact (Kd.R_reads' HO3.out).2.2 | (with_reducible refine Kd.C_alloc ?_ _) | (with_reducible refine Kd.C_drewN ?_ _) | (with_reducible refine Kd.C_drew ?_))); (case side2 => exact (Kd.R_reads' HO3.out).2.1); (case side3 => exact G.at hG.out (by repeat (first | (with_reducible first | exact HB.out | apply below_alloc | apply pw_below_drewN | apply below_drew1) | exact HB.out))); rintro e w37 ⟨rfl, hb⟩; refine ⟨_, rfl, ?_⟩; have n0_ := Aside0.mk (Kd.R_below (by (with_reducible repeat (first | apply Kd.R_alloc | apply Kd.R_drewN | apply Kd.R_drew)); exact HO3.out) hb); have n1_ := Aside0.mk (below_step (by repeat (first | (with_reducible first | exact HB.out | apply below_alloc | apply pw_below_drewN | apply below_drew1) | exact HB.out)) hb); clear HO3; clear HB; have HO3 := n0_; have HB := n1_; clear n0_ n1_; (try clear hb); (try clear hb2); (try clear hk); (try clear hi)) | (go_at_call 10; (with_reducible refine (driftnetlaw19_is.calls (⟨#[123, 123, 46, 120, 32, 124, 32, 117, 112, 112, 101, 114, 32, 124, 32, 108, 101, 110, 125, 125, 45, 123, 123, 46, 122, 125, 125, 125]⟩ : ByteArray) (⟨#[50, 45, 125]⟩ : ByteArray) true _ ?side1 A4.out).mono ?_); (case side1 => exact G.at hG.out (by repeat (first | (with_reducible first | exact HB.out | apply below_alloc | apply pw_below_drewN | apply below_drew1) | exact HB.out))); rintro e w38 ⟨rfl, hb⟩; have n0_ := Aside0.mk (Kd.R_below (by (with_reducible repeat (first | apply Kd.R_alloc | apply Kd.R_drewN | apply Kd.R_drew)); exact HO3.out) hb); have n1_ := Aside0.mk (below_step (by repeat (first | (with_reducible first | exact HB.out | apply below_alloc | apply pw_below_drewN | apply below_drew1) | exact HB.out)) hb); clear HO3; clear HB; have HO3 := n0_; have HB := n1_; clear n0_ n1_; (try clear hb); (try clear hb2); (try clear hk); (try clear hi)) | (go_at_call 11; (with_reducible refine (driftnetlaw19_fails.calls (⟨#[123, 123]⟩ : ByteArray) true _ ?side1 A6.out).mono ?_); (case side1 => exact G.at hG.out (by repeat (first | (with_reducible first | exact HB.out | apply below_alloc | apply pw_below_drewN | apply below_drew1) | exact HB.out))); rintro e w39 ⟨rfl, hb⟩; have n0_ := Aside0.mk (Kd.R_below (by (with_reducible repeat (first | apply Kd.R_alloc | apply Kd.R_drewN | apply Kd.R_drew)); exact HO3.out) hb); have n1_ := Aside0.mk (below_step (by repeat (first | (with_reducible first | exact HB.out | apply below_alloc | apply pw_below_drewN | apply below_drew1) | exact HB.out)) hb); clear HO3; clear HB; have HO3 := n0_; have HB := n1_; clear n0_ n1_; (try clear hb); (try clear hb2); (try clear hk); (try clear hi)) | (go_at_call 11; (with_reducible refine (driftnetlaw19_fails.calls (⟨#[123, 123, 46, 57, 125, 125]⟩ : ByteArray) true _ ?side1 A8.out).mono ?_); (case side1 => exact G.at hG.out (by repeat (first | (with_reducible first | exact HB.out | apply below_alloc | apply pw_below_drewN | apply below_drew1) | exact HB.out))); rintro e w40 ⟨rfl, hb⟩; have n0_ := Aside0.mk (Kd.R_below (by (with_reducible repeat (first | apply Kd.R_alloc | apply Kd.R_drewN | apply Kd.R_drew)); exact HO3.out) hb); have n1_ := Aside0.mk (below_step (by repeat (first | (with_reducible first | exact HB.out | apply below_alloc | apply pw_below_drewN | apply below_drew1) | exact HB.out)) hb); clear HO3; clear HB; have HO3 := n0_; have HB := n1_; clear n0_ n1_; (try clear hb); (try clear hb2); (try clear hk); (try clear hi)) | (go_at_call 11; (with_reducible refine (driftnetlaw19_fails.calls (⟨#[123, 123, 97, 112, 112, 125, 125]⟩ : ByteArray) false _ ?side1 A10.out).mono ?_); (case side1 => exact G.at hG.out (by repeat (first | (with_reducible first | exact HB.out | apply below_alloc | apply pw_below_drewN | apply below_drew1) | exact HB.out))); rintro e w41 ⟨rfl, hb⟩; have n0_ := Aside0.mk (Kd.R_below (by (with_reducible repeat (first | apply Kd.R_alloc | apply Kd.R_drewN | apply Kd.R_drew)); exact HO3.out) hb); have n1_ := Aside0.mk (below_step (by repeat (first | (with_reducible first | exact HB.out | apply below_alloc | apply pw_below_drewN | apply below_drew1) | exact HB.out)) hb); clear HO3; clear HB; have HO3 := n0_; have HB := n1_; clear n0_ n1_; (try clear hb); (try clear hb2); (try clear hk); (try clear hi)))
              go_ret
              exact ⟨by first | rfl | (simp [errW_none, errW_some] <;> rfl) | (simp [*, errW_none, errW_some] <;> rfl), by repeat (first | (with_reducible first | exact HB.out | apply below_alloc | apply pw_below_drewN | apply below_drew1) | exact HB.out)⟩
          · replace c9 := Bool.eq_false_iff.mpr c9
            subst c9
            have H1 : (some false) = some r := by rw [if_neg (show ¬ (false = true) by decide)] at H; exact H
            clear H
            have H := H1
            clear H1
            obtain rfl := Option.some.inj H
            go_enter Tryz.func4, Tryz.ntmps4
            go_wp2_with (first | ((with_reducible refine gate_dst (N := 5) rfl ?_); refine Kd.R_lit k24 _ 24 ?hg (N := 5) ?hd (xs := ([(⟨(⟨#[97, 112, 112]⟩ : ByteArray), (⟨#[119, 101, 98]⟩ : ByteArray)⟩ : S24)] : List (S24))) (inner := [.string (⟨#[97, 112, 112]⟩ : ByteArray), .string (⟨#[119, 101, 98]⟩ : ByteArray)]) (ok := fun _ => True) (okp := fun _ => True) ?hr ?hp (fun _ hk => hk) trivial (Below.refl _ _) (Nat.le_refl _) (by simp) ?_; (case hd => rfl); (case hg => rfl); (case hr => first | (go_simp; done) | (go_simp; rfl)); (case hp => exact (Reps.c2 (show Kd.M k24 _ _ _ (⟨(⟨#[97, 112, 112]⟩ : ByteArray), (⟨#[119, 101, 98]⟩ : ByteArray)⟩ : S24) [.string (⟨#[97, 112, 112]⟩ : ByteArray), .string (⟨#[119, 101, 98]⟩ : ByteArray)] from (k24_mkM _ _ _ (⟨(⟨#[97, 112, 112]⟩ : ByteArray), (⟨#[119, 101, 98]⟩ : ByteArray)⟩ : S24) )) (Reps.none _ _))); intro v2 w42 ho43 hb hg_ hnew_; clear hg_ hnew_; (first | rw [← Ny1.out] at ho43 | (simp only [Int.reduceToNat] at ho43; rw [← Ny1.out] at ho43)); have n0_ := Aside0.mk (Kd.R_lower ho43 (below_size (by repeat (first | (with_reducible first | exact HB.out | apply below_alloc | apply pw_below_drewN | apply below_drew1) | exact HB.out)))); have n1_ := Aside0.mk (below_step (by repeat (first | (with_reducible first | exact HB.out | apply below_alloc | apply pw_below_drewN | apply below_drew1) | exact HB.out)) hb); clear HB; have HO3 := n0_; have HB := n1_; clear n0_ n1_; clear hb ho43; obtain ⟨Ao44, co44, eo44⟩ := Kd.R_slice HO3.out; subst eo44) | ((with_reducible refine gate_callee (f := 5) rfl ?_); refine goesL_ (some 6) rfl rfl Tryz.func5 (by kernel_rfl) rfl #[.string (⟨#[123, 123, 46, 97, 112, 112, 125, 125, 58, 32, 123, 123, 32, 95, 95, 108, 105, 110, 101, 95, 95, 32, 125, 125]⟩ : ByteArray), .slice Ao44 y1.length co44, .string (⟨#[104, 105]⟩ : ByteArray)] rfl (by (try simp only [List.map_toArray, List.map_cons, List.map_nil]); first | done | rfl | (simp only [List.length_drop, List.length_take]; rfl)) ?_; (with_reducible refine (driftnetlaw19_run.calls (⟨#[123, 123, 46, 97, 112, 112, 125, 125, 58, 32, 123, 123, 32, 95, 95, 108, 105, 110, 101, 95, 95, 32, 125, 125]⟩ : ByteArray) _ _ y1 (⟨#[104, 105]⟩ : ByteArray) t4 true _ ?side1 ?side2 ?side3 A1.out).mono ?_); (case side1 => repeat (first | exact (Kd.R_reads' HO3.out).2.2 | (with_reducible refine Kd.C_alloc ?_ _) | (with_reducible refine Kd.C_drewN ?_ _) | (with_reducible refine Kd.C_drew ?_))); (case side2 => exact (Kd.R_reads' HO3.out).2.1); (case side3 => exact G.at hG.out (by repeat (first | (with_reducible first | exact HB.out | apply below_alloc | apply pw_below_drewN | apply below_drew1) | exact HB.out))); rintro e w45 ⟨rfl, hb⟩; refine ⟨_, rfl, ?_⟩; have n0_ := Aside0.mk (Kd.R_below (by (with_reducible repeat (first | apply Kd.R_alloc | apply Kd.R_drewN | apply Kd.R_drew)); exact HO3.out) hb); have n1_ := Aside0.mk (below_step (by repeat (first | (with_reducible first | exact HB.out | apply below_alloc | apply pw_below_drewN | apply below_drew1) | exact HB.out)) hb); clear HO3; clear HB; have HO3 := n0_; have HB := n1_; clear n0_ n1_; (try clear hb); (try clear hb2); (try clear hk); (try clear hi)) | (go_at_call 10; (with_reducible refine (driftnetlaw19_is.calls (⟨#[123, 123, 46, 120, 32, 124, 32, 117, 112, 112, 101, 114, 32, 124, 32, 108, 101, 110, 125, 125, 45, 123, 123, 46, 122, 125, 125, 125]⟩ : ByteArray) (⟨#[50, 45, 125]⟩ : ByteArray) true _ ?side1 A4.out).mono ?_); (case side1 => exact G.at hG.out (by repeat (first | (with_reducible first | exact HB.out | apply below_alloc | apply pw_below_drewN | apply below_drew1) | exact HB.out))); rintro e w46 ⟨rfl, hb⟩; have n0_ := Aside0.mk (Kd.R_below (by (with_reducible repeat (first | apply Kd.R_alloc | apply Kd.R_drewN | apply Kd.R_drew)); exact HO3.out) hb); have n1_ := Aside0.mk (below_step (by repeat (first | (with_reducible first | exact HB.out | apply below_alloc | apply pw_below_drewN | apply below_drew1) | exact HB.out)) hb); clear HO3; clear HB; have HO3 := n0_; have HB := n1_; clear n0_ n1_; (try clear hb); (try clear hb2); (try clear hk); (try clear hi)) | (go_at_call 11; (with_reducible refine (driftnetlaw19_fails.calls (⟨#[123, 123]⟩ : ByteArray) true _ ?side1 A6.out).mono ?_); (case side1 => exact G.at hG.out (by repeat (first | (with_reducible first | exact HB.out | apply below_alloc | apply pw_below_drewN | apply below_drew1) | exact HB.out))); rintro e w47 ⟨rfl, hb⟩; have n0_ := Aside0.mk (Kd.R_below (by (with_reducible repeat (first | apply Kd.R_alloc | apply Kd.R_drewN | apply Kd.R_drew)); exact HO3.out) hb); have n1_ := Aside0.mk (below_step (by repeat (first | (with_reducible first | exact HB.out | apply below_alloc | apply pw_below_drewN | apply below_drew1) | exact HB.out)) hb); clear HO3; clear HB; have HO3 := n0_; have HB := n1_; clear n0_ n1_; (try clear hb); (try clear hb2); (try clear hk); (try clear hi)) | (go_at_call 11; (with_reducible refine (driftnetlaw19_fails.calls (⟨#[123, 123, 46, 57, 125, 125]⟩ : ByteArray) false _ ?side1 A8.out).mono ?_); (case side1 => exact G.at hG.out (by repeat (first | (with_reducible first | exact HB.out | apply below_alloc | apply pw_below_drewN | apply below_drew1) | exact HB.out))); rintro e w48 ⟨rfl, hb⟩; have n0_ := Aside0.mk (Kd.R_below (by (with_reducible repeat (first | apply Kd.R_alloc | apply Kd.R_drewN | apply Kd.R_drew)); exact HO3.out) hb); have n1_ := Aside0.mk (below_step (by repeat (first | (with_reducible first | exact HB.out | apply below_alloc | apply pw_below_drewN | apply below_drew1) | exact HB.out)) hb); clear HO3; clear HB; have HO3 := n0_; have HB := n1_; clear n0_ n1_; (try clear hb); (try clear hb2); (try clear hk); (try clear hi)))
            go_ret
            exact ⟨by first | rfl | (simp [errW_none, errW_some] <;> rfl) | (simp [*, errW_none, errW_some] <;> rfl), by repeat (first | (with_reducible first | exact HB.out | apply below_alloc | apply pw_below_drewN | apply below_drew1) | exact HB.out)⟩
        · replace c7 := Bool.eq_false_iff.mpr c7
          subst c7
          have H1 : (some false) = some r := by rw [if_neg (show ¬ (false = true) by decide)] at H; exact H
          clear H
          have H := H1
          clear H1
          obtain rfl := Option.some.inj H
          go_enter Tryz.func4, Tryz.ntmps4
          go_wp2_with (first | ((with_reducible refine gate_dst (N := 5) rfl ?_); refine Kd.R_lit k24 _ 24 ?hg (N := 5) ?hd (xs := ([(⟨(⟨#[97, 112, 112]⟩ : ByteArray), (⟨#[119, 101, 98]⟩ : ByteArray)⟩ : S24)] : List (S24))) (inner := [.string (⟨#[97, 112, 112]⟩ : ByteArray), .string (⟨#[119, 101, 98]⟩ : ByteArray)]) (ok := fun _ => True) (okp := fun _ => True) ?hr ?hp (fun _ hk => hk) trivial (Below.refl _ _) (Nat.le_refl _) (by simp) ?_; (case hd => rfl); (case hg => rfl); (case hr => first | (go_simp; done) | (go_simp; rfl)); (case hp => exact (Reps.c2 (show Kd.M k24 _ _ _ (⟨(⟨#[97, 112, 112]⟩ : ByteArray), (⟨#[119, 101, 98]⟩ : ByteArray)⟩ : S24) [.string (⟨#[97, 112, 112]⟩ : ByteArray), .string (⟨#[119, 101, 98]⟩ : ByteArray)] from (k24_mkM _ _ _ (⟨(⟨#[97, 112, 112]⟩ : ByteArray), (⟨#[119, 101, 98]⟩ : ByteArray)⟩ : S24) )) (Reps.none _ _))); intro v2 w49 ho50 hb hg_ hnew_; clear hg_ hnew_; (first | rw [← Ny1.out] at ho50 | (simp only [Int.reduceToNat] at ho50; rw [← Ny1.out] at ho50)); have n0_ := Aside0.mk (Kd.R_lower ho50 (below_size (by repeat (first | (with_reducible first | exact HB.out | apply below_alloc | apply pw_below_drewN | apply below_drew1) | exact HB.out)))); have n1_ := Aside0.mk (below_step (by repeat (first | (with_reducible first | exact HB.out | apply below_alloc | apply pw_below_drewN | apply below_drew1) | exact HB.out)) hb); clear HB; have HO3 := n0_; have HB := n1_; clear n0_ n1_; clear hb ho50; obtain ⟨Ao51, co51, eo51⟩ := Kd.R_slice HO3.out; subst eo51) | ((with_reducible refine gate_callee (f := 5) rfl ?_); refine goesL_ (some 6) rfl rfl Tryz.func5 (by kernel_rfl) rfl #[.string (⟨#[123, 123, 46, 97, 112, 112, 125, 125, 58, 32, 123, 123, 32, 95, 95, 108, 105, 110, 101, 95, 95, 32, 125, 125]⟩ : ByteArray), .slice Ao51 y1.length co51, .string (⟨#[104, 105]⟩ : ByteArray)] rfl (by (try simp only [List.map_toArray, List.map_cons, List.map_nil]); first | done | rfl | (simp only [List.length_drop, List.length_take]; rfl)) ?_; (with_reducible refine (driftnetlaw19_run.calls (⟨#[123, 123, 46, 97, 112, 112, 125, 125, 58, 32, 123, 123, 32, 95, 95, 108, 105, 110, 101, 95, 95, 32, 125, 125]⟩ : ByteArray) _ _ y1 (⟨#[104, 105]⟩ : ByteArray) t4 true _ ?side1 ?side2 ?side3 A1.out).mono ?_); (case side1 => repeat (first | exact (Kd.R_reads' HO3.out).2.2 | (with_reducible refine Kd.C_alloc ?_ _) | (with_reducible refine Kd.C_drewN ?_ _) | (with_reducible refine Kd.C_drew ?_))); (case side2 => exact (Kd.R_reads' HO3.out).2.1); (case side3 => exact G.at hG.out (by repeat (first | (with_reducible first | exact HB.out | apply below_alloc | apply pw_below_drewN | apply below_drew1) | exact HB.out))); rintro e w52 ⟨rfl, hb⟩; refine ⟨_, rfl, ?_⟩; have n0_ := Aside0.mk (Kd.R_below (by (with_reducible repeat (first | apply Kd.R_alloc | apply Kd.R_drewN | apply Kd.R_drew)); exact HO3.out) hb); have n1_ := Aside0.mk (below_step (by repeat (first | (with_reducible first | exact HB.out | apply below_alloc | apply pw_below_drewN | apply below_drew1) | exact HB.out)) hb); clear HO3; clear HB; have HO3 := n0_; have HB := n1_; clear n0_ n1_; (try clear hb); (try clear hb2); (try clear hk); (try clear hi)) | (go_at_call 10; (with_reducible refine (driftnetlaw19_is.calls (⟨#[123, 123, 46, 120, 32, 124, 32, 117, 112, 112, 101, 114, 32, 124, 32, 108, 101, 110, 125, 125, 45, 123, 123, 46, 122, 125, 125, 125]⟩ : ByteArray) (⟨#[50, 45, 125]⟩ : ByteArray) true _ ?side1 A4.out).mono ?_); (case side1 => exact G.at hG.out (by repeat (first | (with_reducible first | exact HB.out | apply below_alloc | apply pw_below_drewN | apply below_drew1) | exact HB.out))); rintro e w53 ⟨rfl, hb⟩; have n0_ := Aside0.mk (Kd.R_below (by (with_reducible repeat (first | apply Kd.R_alloc | apply Kd.R_drewN | apply Kd.R_drew)); exact HO3.out) hb); have n1_ := Aside0.mk (below_step (by repeat (first | (with_reducible first | exact HB.out | apply below_alloc | apply pw_below_drewN | apply below_drew1) | exact HB.out)) hb); clear HO3; clear HB; have HO3 := n0_; have HB := n1_; clear n0_ n1_; (try clear hb); (try clear hb2); (try clear hk); (try clear hi)) | (go_at_call 11; (with_reducible refine (driftnetlaw19_fails.calls (⟨#[123, 123]⟩ : ByteArray) false _ ?side1 A6.out).mono ?_); (case side1 => exact G.at hG.out (by repeat (first | (with_reducible first | exact HB.out | apply below_alloc | apply pw_below_drewN | apply below_drew1) | exact HB.out))); rintro e w54 ⟨rfl, hb⟩; have n0_ := Aside0.mk (Kd.R_below (by (with_reducible repeat (first | apply Kd.R_alloc | apply Kd.R_drewN | apply Kd.R_drew)); exact HO3.out) hb); have n1_ := Aside0.mk (below_step (by repeat (first | (with_reducible first | exact HB.out | apply below_alloc | apply pw_below_drewN | apply below_drew1) | exact HB.out)) hb); clear HO3; clear HB; have HO3 := n0_; have HB := n1_; clear n0_ n1_; (try clear hb); (try clear hb2); (try clear hk); (try clear hi)))
          go_ret
          exact ⟨by first | rfl | (simp [errW_none, errW_some] <;> rfl) | (simp [*, errW_none, errW_some] <;> rfl), by repeat (first | (with_reducible first | exact HB.out | apply below_alloc | apply pw_below_drewN | apply below_drew1) | exact HB.out)⟩
      · replace c5 := Bool.eq_false_iff.mpr c5
        subst c5
        have H1 : (some false) = some r := by rw [if_neg (show ¬ (false = true) by decide)] at H; exact H
        clear H
        have H := H1
        clear H1
        obtain rfl := Option.some.inj H
        go_enter Tryz.func4, Tryz.ntmps4
        go_wp2_with (first | ((with_reducible refine gate_dst (N := 5) rfl ?_); refine Kd.R_lit k24 _ 24 ?hg (N := 5) ?hd (xs := ([(⟨(⟨#[97, 112, 112]⟩ : ByteArray), (⟨#[119, 101, 98]⟩ : ByteArray)⟩ : S24)] : List (S24))) (inner := [.string (⟨#[97, 112, 112]⟩ : ByteArray), .string (⟨#[119, 101, 98]⟩ : ByteArray)]) (ok := fun _ => True) (okp := fun _ => True) ?hr ?hp (fun _ hk => hk) trivial (Below.refl _ _) (Nat.le_refl _) (by simp) ?_; (case hd => rfl); (case hg => rfl); (case hr => first | (go_simp; done) | (go_simp; rfl)); (case hp => exact (Reps.c2 (show Kd.M k24 _ _ _ (⟨(⟨#[97, 112, 112]⟩ : ByteArray), (⟨#[119, 101, 98]⟩ : ByteArray)⟩ : S24) [.string (⟨#[97, 112, 112]⟩ : ByteArray), .string (⟨#[119, 101, 98]⟩ : ByteArray)] from (k24_mkM _ _ _ (⟨(⟨#[97, 112, 112]⟩ : ByteArray), (⟨#[119, 101, 98]⟩ : ByteArray)⟩ : S24) )) (Reps.none _ _))); intro v2 w55 ho56 hb hg_ hnew_; clear hg_ hnew_; (first | rw [← Ny1.out] at ho56 | (simp only [Int.reduceToNat] at ho56; rw [← Ny1.out] at ho56)); have n0_ := Aside0.mk (Kd.R_lower ho56 (below_size (by repeat (first | (with_reducible first | exact HB.out | apply below_alloc | apply pw_below_drewN | apply below_drew1) | exact HB.out)))); have n1_ := Aside0.mk (below_step (by repeat (first | (with_reducible first | exact HB.out | apply below_alloc | apply pw_below_drewN | apply below_drew1) | exact HB.out)) hb); clear HB; have HO3 := n0_; have HB := n1_; clear n0_ n1_; clear hb ho56; obtain ⟨Ao57, co57, eo57⟩ := Kd.R_slice HO3.out; subst eo57) | ((with_reducible refine gate_callee (f := 5) rfl ?_); refine goesL_ (some 6) rfl rfl Tryz.func5 (by kernel_rfl) rfl #[.string (⟨#[123, 123, 46, 97, 112, 112, 125, 125, 58, 32, 123, 123, 32, 95, 95, 108, 105, 110, 101, 95, 95, 32, 125, 125]⟩ : ByteArray), .slice Ao57 y1.length co57, .string (⟨#[104, 105]⟩ : ByteArray)] rfl (by (try simp only [List.map_toArray, List.map_cons, List.map_nil]); first | done | rfl | (simp only [List.length_drop, List.length_take]; rfl)) ?_; (with_reducible refine (driftnetlaw19_run.calls (⟨#[123, 123, 46, 97, 112, 112, 125, 125, 58, 32, 123, 123, 32, 95, 95, 108, 105, 110, 101, 95, 95, 32, 125, 125]⟩ : ByteArray) _ _ y1 (⟨#[104, 105]⟩ : ByteArray) t4 true _ ?side1 ?side2 ?side3 A1.out).mono ?_); (case side1 => repeat (first | exact (Kd.R_reads' HO3.out).2.2 | (with_reducible refine Kd.C_alloc ?_ _) | (with_reducible refine Kd.C_drewN ?_ _) | (with_reducible refine Kd.C_drew ?_))); (case side2 => exact (Kd.R_reads' HO3.out).2.1); (case side3 => exact G.at hG.out (by repeat (first | (with_reducible first | exact HB.out | apply below_alloc | apply pw_below_drewN | apply below_drew1) | exact HB.out))); rintro e w58 ⟨rfl, hb⟩; refine ⟨_, rfl, ?_⟩; have n0_ := Aside0.mk (Kd.R_below (by (with_reducible repeat (first | apply Kd.R_alloc | apply Kd.R_drewN | apply Kd.R_drew)); exact HO3.out) hb); have n1_ := Aside0.mk (below_step (by repeat (first | (with_reducible first | exact HB.out | apply below_alloc | apply pw_below_drewN | apply below_drew1) | exact HB.out)) hb); clear HO3; clear HB; have HO3 := n0_; have HB := n1_; clear n0_ n1_; (try clear hb); (try clear hb2); (try clear hk); (try clear hi)) | (go_at_call 10; (with_reducible refine (driftnetlaw19_is.calls (⟨#[123, 123, 46, 120, 32, 124, 32, 117, 112, 112, 101, 114, 32, 124, 32, 108, 101, 110, 125, 125, 45, 123, 123, 46, 122, 125, 125, 125]⟩ : ByteArray) (⟨#[50, 45, 125]⟩ : ByteArray) false _ ?side1 A4.out).mono ?_); (case side1 => exact G.at hG.out (by repeat (first | (with_reducible first | exact HB.out | apply below_alloc | apply pw_below_drewN | apply below_drew1) | exact HB.out))); rintro e w59 ⟨rfl, hb⟩; have n0_ := Aside0.mk (Kd.R_below (by (with_reducible repeat (first | apply Kd.R_alloc | apply Kd.R_drewN | apply Kd.R_drew)); exact HO3.out) hb); have n1_ := Aside0.mk (below_step (by repeat (first | (with_reducible first | exact HB.out | apply below_alloc | apply pw_below_drewN | apply below_drew1) | exact HB.out)) hb); clear HO3; clear HB; have HO3 := n0_; have HB := n1_; clear n0_ n1_; (try clear hb); (try clear hb2); (try clear hk); (try clear hi)))
        go_ret
        exact ⟨by first | rfl | (simp [errW_none, errW_some] <;> rfl) | (simp [*, errW_none, errW_some] <;> rfl), by repeat (first | (with_reducible first | exact HB.out | apply below_alloc | apply pw_below_drewN | apply below_drew1) | exact HB.out)⟩
    · rw [if_neg c3] at H
      have c3b0 : (t4.toList == ([119, 101, 98, 58, 32, 104, 105] : List UInt8)) = false := beq_eq_false_iff_ne.mpr c3
      have c3b1 : (t4.toList != ([119, 101, 98, 58, 32, 104, 105] : List UInt8)) = true := bne_iff_ne.mpr c3
      obtain rfl := Option.some.inj H
      go_enter Tryz.func4, Tryz.ntmps4
      go_wp2_with (first | ((with_reducible refine gate_dst (N := 5) rfl ?_); refine Kd.R_lit k24 _ 24 ?hg (N := 5) ?hd (xs := ([(⟨(⟨#[97, 112, 112]⟩ : ByteArray), (⟨#[119, 101, 98]⟩ : ByteArray)⟩ : S24)] : List (S24))) (inner := [.string (⟨#[97, 112, 112]⟩ : ByteArray), .string (⟨#[119, 101, 98]⟩ : ByteArray)]) (ok := fun _ => True) (okp := fun _ => True) ?hr ?hp (fun _ hk => hk) trivial (Below.refl _ _) (Nat.le_refl _) (by simp) ?_; (case hd => rfl); (case hg => rfl); (case hr => first | (go_simp; done) | (go_simp; rfl)); (case hp => exact (Reps.c2 (show Kd.M k24 _ _ _ (⟨(⟨#[97, 112, 112]⟩ : ByteArray), (⟨#[119, 101, 98]⟩ : ByteArray)⟩ : S24) [.string (⟨#[97, 112, 112]⟩ : ByteArray), .string (⟨#[119, 101, 98]⟩ : ByteArray)] from (k24_mkM _ _ _ (⟨(⟨#[97, 112, 112]⟩ : ByteArray), (⟨#[119, 101, 98]⟩ : ByteArray)⟩ : S24) )) (Reps.none _ _))); intro v2 w60 ho61 hb hg_ hnew_; clear hg_ hnew_; (first | rw [← Ny1.out] at ho61 | (simp only [Int.reduceToNat] at ho61; rw [← Ny1.out] at ho61)); have n0_ := Aside0.mk (Kd.R_lower ho61 (below_size (by repeat (first | (with_reducible first | exact HB.out | apply below_alloc | apply pw_below_drewN | apply below_drew1) | exact HB.out)))); have n1_ := Aside0.mk (below_step (by repeat (first | (with_reducible first | exact HB.out | apply below_alloc | apply pw_below_drewN | apply below_drew1) | exact HB.out)) hb); clear HB; have HO3 := n0_; have HB := n1_; clear n0_ n1_; clear hb ho61; obtain ⟨Ao62, co62, eo62⟩ := Kd.R_slice HO3.out; subst eo62) | ((with_reducible refine gate_callee (f := 5) rfl ?_); refine goesL_ (some 6) rfl rfl Tryz.func5 (by kernel_rfl) rfl #[.string (⟨#[123, 123, 46, 97, 112, 112, 125, 125, 58, 32, 123, 123, 32, 95, 95, 108, 105, 110, 101, 95, 95, 32, 125, 125]⟩ : ByteArray), .slice Ao62 y1.length co62, .string (⟨#[104, 105]⟩ : ByteArray)] rfl (by (try simp only [List.map_toArray, List.map_cons, List.map_nil]); first | done | rfl | (simp only [List.length_drop, List.length_take]; rfl)) ?_; (with_reducible refine (driftnetlaw19_run.calls (⟨#[123, 123, 46, 97, 112, 112, 125, 125, 58, 32, 123, 123, 32, 95, 95, 108, 105, 110, 101, 95, 95, 32, 125, 125]⟩ : ByteArray) _ _ y1 (⟨#[104, 105]⟩ : ByteArray) t4 true _ ?side1 ?side2 ?side3 A1.out).mono ?_); (case side1 => repeat (first | exact (Kd.R_reads' HO3.out).2.2 | (with_reducible refine Kd.C_alloc ?_ _) | (with_reducible refine Kd.C_drewN ?_ _) | (with_reducible refine Kd.C_drew ?_))); (case side2 => exact (Kd.R_reads' HO3.out).2.1); (case side3 => exact G.at hG.out (by repeat (first | (with_reducible first | exact HB.out | apply below_alloc | apply pw_below_drewN | apply below_drew1) | exact HB.out))); rintro e w63 ⟨rfl, hb⟩; refine ⟨_, rfl, ?_⟩; have n0_ := Aside0.mk (Kd.R_below (by (with_reducible repeat (first | apply Kd.R_alloc | apply Kd.R_drewN | apply Kd.R_drew)); exact HO3.out) hb); have n1_ := Aside0.mk (below_step (by repeat (first | (with_reducible first | exact HB.out | apply below_alloc | apply pw_below_drewN | apply below_drew1) | exact HB.out)) hb); clear HO3; clear HB; have HO3 := n0_; have HB := n1_; clear n0_ n1_; (try clear hb); (try clear hb2); (try clear hk); (try clear hi)))
      go_ret
      exact ⟨by first | rfl | (simp [errW_none, errW_some] <;> rfl) | (simp [*, errW_none, errW_some] <;> rfl), by repeat (first | (with_reducible first | exact HB.out | apply below_alloc | apply pw_below_drewN | apply below_drew1) | exact HB.out)⟩
  · replace c2 := Bool.eq_false_iff.mpr c2
    subst c2
    have H1 : (some false) = some r := by rw [if_neg (show ¬ (false = true) by decide)] at H; exact H
    clear H
    have H := H1
    clear H1
    obtain rfl := Option.some.inj H
    go_enter Tryz.func4, Tryz.ntmps4
    go_wp2_with (first | ((with_reducible refine gate_dst (N := 5) rfl ?_); refine Kd.R_lit k24 _ 24 ?hg (N := 5) ?hd (xs := ([(⟨(⟨#[97, 112, 112]⟩ : ByteArray), (⟨#[119, 101, 98]⟩ : ByteArray)⟩ : S24)] : List (S24))) (inner := [.string (⟨#[97, 112, 112]⟩ : ByteArray), .string (⟨#[119, 101, 98]⟩ : ByteArray)]) (ok := fun _ => True) (okp := fun _ => True) ?hr ?hp (fun _ hk => hk) trivial (Below.refl _ _) (Nat.le_refl _) (by simp) ?_; (case hd => rfl); (case hg => rfl); (case hr => first | (go_simp; done) | (go_simp; rfl)); (case hp => exact (Reps.c2 (show Kd.M k24 _ _ _ (⟨(⟨#[97, 112, 112]⟩ : ByteArray), (⟨#[119, 101, 98]⟩ : ByteArray)⟩ : S24) [.string (⟨#[97, 112, 112]⟩ : ByteArray), .string (⟨#[119, 101, 98]⟩ : ByteArray)] from (k24_mkM _ _ _ (⟨(⟨#[97, 112, 112]⟩ : ByteArray), (⟨#[119, 101, 98]⟩ : ByteArray)⟩ : S24) )) (Reps.none _ _))); intro v2 w64 ho65 hb hg_ hnew_; clear hg_ hnew_; (first | rw [← Ny1.out] at ho65 | (simp only [Int.reduceToNat] at ho65; rw [← Ny1.out] at ho65)); have n0_ := Aside0.mk (Kd.R_lower ho65 (below_size (by repeat (first | (with_reducible first | exact HB.out | apply below_alloc | apply pw_below_drewN | apply below_drew1) | exact HB.out)))); have n1_ := Aside0.mk (below_step (by repeat (first | (with_reducible first | exact HB.out | apply below_alloc | apply pw_below_drewN | apply below_drew1) | exact HB.out)) hb); clear HB; have HO3 := n0_; have HB := n1_; clear n0_ n1_; clear hb ho65; obtain ⟨Ao66, co66, eo66⟩ := Kd.R_slice HO3.out; subst eo66) | ((with_reducible refine gate_callee (f := 5) rfl ?_); refine goesL_ (some 6) rfl rfl Tryz.func5 (by kernel_rfl) rfl #[.string (⟨#[123, 123, 46, 97, 112, 112, 125, 125, 58, 32, 123, 123, 32, 95, 95, 108, 105, 110, 101, 95, 95, 32, 125, 125]⟩ : ByteArray), .slice Ao66 y1.length co66, .string (⟨#[104, 105]⟩ : ByteArray)] rfl (by (try simp only [List.map_toArray, List.map_cons, List.map_nil]); first | done | rfl | (simp only [List.length_drop, List.length_take]; rfl)) ?_; (with_reducible refine (driftnetlaw19_run.calls (⟨#[123, 123, 46, 97, 112, 112, 125, 125, 58, 32, 123, 123, 32, 95, 95, 108, 105, 110, 101, 95, 95, 32, 125, 125]⟩ : ByteArray) _ _ y1 (⟨#[104, 105]⟩ : ByteArray) t4 false _ ?side1 ?side2 ?side3 A1.out).mono ?_); (case side1 => repeat (first | exact (Kd.R_reads' HO3.out).2.2 | (with_reducible refine Kd.C_alloc ?_ _) | (with_reducible refine Kd.C_drewN ?_ _) | (with_reducible refine Kd.C_drew ?_))); (case side2 => exact (Kd.R_reads' HO3.out).2.1); (case side3 => exact G.at hG.out (by repeat (first | (with_reducible first | exact HB.out | apply below_alloc | apply pw_below_drewN | apply below_drew1) | exact HB.out))); rintro e w67 ⟨rfl, hb⟩; refine ⟨_, rfl, ?_⟩; have n0_ := Aside0.mk (Kd.R_below (by (with_reducible repeat (first | apply Kd.R_alloc | apply Kd.R_drewN | apply Kd.R_drew)); exact HO3.out) hb); have n1_ := Aside0.mk (below_step (by repeat (first | (with_reducible first | exact HB.out | apply below_alloc | apply pw_below_drewN | apply below_drew1) | exact HB.out)) hb); clear HO3; clear HB; have HO3 := n0_; have HB := n1_; clear n0_ n1_; (try clear hb); (try clear hb2); (try clear hk); (try clear hi)))
    go_ret
    exact ⟨by first | rfl | (simp [errW_none, errW_some] <;> rfl) | (simp [*, errW_none, errW_some] <;> rfl), by repeat (first | (with_reducible first | exact HB.out | apply below_alloc | apply pw_below_drewN | apply below_drew1) | exact HB.out)⟩
end Go.Proofs.YtfojidcbcpkpmaaGreatDoor.P
end
section
set_option linter.unusedVariables false
namespace Go.Proofs.YtfojidcbcpkpmaaGreatDoor
open Go Go.RowKit Go.Proofs.YtfojidcbcpkpmaaGreatDoorW.PrintWords
def unqLoop (dq : Bool) : Nat → ByteArray → List UInt8 → Option (List UInt8)
  | 0, _, _ => none
  | k + 1, r, acc => if r.size = 0 then some acc else
    if ((r.data.toList.getD 0 0).toNat : Int) = (if dq = true then 34 else 96) ∨ dq = true ∧ (r.data.toList.getD 0 0).toNat = 10 then none
    else if dq = true ∧ (r.data.toList.getD 0 0).toNat = 92 then
      match escapeP (r.extract 1 r.size) with
      | none => none
      | some x => unqLoop dq k x.2 (acc ++ x.1.data.toList)
    else unqLoop dq k (r.extract 1 r.size) (acc ++ [r.data.toList.getD 0 0])
def unquoteP (s : ByteArray) : Option (List UInt8) :=
  if s.size < 2 then none else
    if bt s 0 = bt s ((s.size : Int) - 1) then
      if bt s 0 = 34 then unqLoop true s.size (s.extract 1 (s.size - 1)) []
      else if bt s 0 = 96 then unqLoop false s.size (s.extract 1 (s.size - 1)) [] else none
    else none
def unqRes : Option (List UInt8) → Value
  | none => .tuple #[.string ⟨#[]⟩, .int .i64 40]
  | some l => .tuple #[.string ⟨l.toArray⟩, .int .i64 0]
theorem enc_size (r : Int) : (⟨(Lib.encodeRune r).toArray⟩ : ByteArray).size ≤ 4 := by
  have h2 := Lib.runeCells_le r
  rw [Lib.runeCells_length] at h2
  exact h2.2
theorem escapeP_size {s t r : ByteArray} (h : escapeP s = some (t, r)) : t.size ≤ 4 ∧ r.size < s.size := by
  have one : ∀ x : UInt8, (⟨#[x]⟩ : ByteArray).size = 1 := fun _ => rfl
  unfold escapeP at h
  split at h
  · cases h
  · rename_i h0
    split at h
    · cases h
      refine ⟨by rw [one]; omega, ?_⟩
      rw [ByteArray.size_extract]; omega
    · split at h
      · cases h
      · split at h
        · cases h
        · split at h
          · split at h
            · cases h
              refine ⟨by rw [one]; omega, ?_⟩
              rw [ByteArray.size_extract]; omega
            · split at h
              · cases h
                refine ⟨?_, by rw [ByteArray.size_extract]; omega⟩
                exact enc_size _
              · cases h
          · cases h
theorem isEmpty_of_size {s : ByteArray} (h : s.size = 0) : s.toList.isEmpty = true := by
  rw [← decide_eq_emptyBytes]
  exact decide_eq_true (by cases s with | mk d => cases d with | mk l => cases l with
    | nil => rfl
    | cons a l => simp [ByteArray.size] at h)
theorem isEmpty_of_size_ne {s : ByteArray} (h : ¬ s.size = 0) : s.toList.isEmpty = false := by
  rw [← decide_eq_emptyBytes]
  exact decide_eq_false (fun h2 => by rw [h2] at h; exact absurd h (by decide))
/-- One round's outcome, of the text that is left. -/
theorem unqLoop_succ (dq : Bool) (f : Int) (hf : f = if dq = true then 34 else 96) (k : Nat) (r : ByteArray) (acc : List UInt8) (h : 0 < r.size) :
    unqLoop dq (k + 1) r acc = if ((r[0]'h).toNat : Int) = f ∨ dq = true ∧ (r[0]'h).toNat = 10 then none
      else if dq = true ∧ (r[0]'h).toNat = 92 then
        match escapeP (r.extract 1 r.size) with
        | none => none
        | some x => unqLoop dq k x.2 (acc ++ x.1.data.toList)
      else unqLoop dq k (r.extract 1 r.size) (acc ++ [r[0]'h]) := by
  rw [unqLoop, if_neg (by omega), get0_eq r h, hf]
set_option maxRecDepth 100000 in
set_option maxHeartbeats 8000000 in
theorem unquote_calls (s : ByteArray) (hs : s.size ≤ 17592186044416) (w : World) (hG : Aside0 (G w)) :
    Calls Tryz.prog 6 #[.string s] w fun e w' => e = .returned (unqRes (unquoteP s)) ∧ Below w.heap.size w w' := by
  by_cases h2 : s.size < 2
  · have hr : unquoteP s = none := by unfold unquoteP; rw [if_pos h2]
    rw [hr]
    clear hr
    have c3b0 : decide ((s.size : Int) < 2) = true := decide_eq_true (by omega)
    have c3b1 : decide (s.size < 2) = true := decide_eq_true h2
    go_enter Tryz.func6, Tryz.ntmps6
    go_wp2
    go_quiet (fail)
    go_wp2
    go_ret2
    exact ⟨rfl, drewN_below _ _⟩
  · have c3b0 : decide ((s.size : Int) < 2) = false := decide_eq_false (by omega)
    have c3b1 : decide (s.size < 2) = false := decide_eq_false h2
    have hr : unquoteP s = if bt s 0 = bt s ((s.size : Int) - 1) then
      if bt s 0 = 34 then unqLoop true s.size (s.extract 1 (s.size - 1)) []
      else if bt s 0 = 96 then unqLoop false s.size (s.extract 1 (s.size - 1)) [] else none
      else none := by unfold unquoteP; rw [if_neg h2]
    have q5 : 0 < s.size := by omega
    have qi5 : 0 < (s.size : Int) := by omega
    have p9 : 0 ≤ (s.size : Int) - 1 := by omega
    have p9b : s.size - 1 < s.size := by omega
    have hx9 : ∀ h, ((s[((s.size : Int) - 1).toNat]'h).toNat : Int) = bt s ((s.size : Int) - 1) := bt_at s ((s.size : Int) - 1)
    have hx9b : ∀ h, ((s[s.size - 1]'h).toNat : Int) = bt s ((s.size : Int) - 1) := fun h => by
      have e : ((s.size : Int) - 1).toNat = s.size - 1 := by omega
      rw [← hx9 (by omega)]
      simp only [e]
    have hx5 : ∀ h : 0 < s.size, ((s[0]'h).toNat : Int) = bt s 0 := bt_at s 0
    obtain ⟨f, hf⟩ : ∃ f, f = bt s 0 := ⟨_, rfl⟩
    obtain ⟨l, hl⟩ : ∃ l, l = bt s ((s.size : Int) - 1) := ⟨_, rfl⟩
    have hl0 := bt_range s ((s.size : Int) - 1)
    have hf0 := bt_range s 0
    rw [← hf] at hr hx5 hf0
    rw [← hl] at hr hl0
    simp only [← hl] at hx9 hx9b
    clear hf hl
    by_cases hfl : f = l
    · subst hfl
      rw [if_pos rfl] at hr
      have b1 : (f != f) = false := by simp
      by_cases hm : f = 34 ∨ f = 96
      · obtain ⟨dq, hdq⟩ : ∃ dq : Bool, (f == 34) = dq := ⟨_, rfl⟩
        have hru : unquoteP s = unqLoop dq s.size (s.extract 1 (s.size - 1)) [] := by
          rw [hr]
          cases dq with
          | true => rw [if_pos (by simpa using hdq)]
          | false => rw [if_neg (by simpa using hdq), if_pos (by have : ¬ f = 34 := by simpa using hdq
                                                                 omega)]
        have hmk : f = if dq = true then 34 else 96 := by
          cases dq with
          | true => simpa using hdq
          | false => have : ¬ f = 34 := by simpa using hdq
                     rw [if_neg (by decide)]; omega
        have hdn : (f != 34) = !dq := by rw [bne, hdq]
        have hne96 : (f == 96) = !dq := by
          cases dq with
          | true => rw [hmk]; rfl
          | false => rw [hmk]; rfl
        have hn96 : dq = false → (f != 96) = false := fun h => by rw [bne, hne96, h]; rfl
        clear hr hm hne96
        obtain ⟨m, hm⟩ : ∃ m, m = unquoteP s := ⟨_, rfl⟩
        have hsz0 : (s.extract 1 (s.size - 1)).size = s.size - 2 := by rw [ByteArray.size_extract]; omega
        rw [← hm] at hru ⊢
        clear hm
        have HF : Aside0 (f = if dq = true then 34 else 96) := ⟨hmk⟩
        have HU := Aside0.mk hru
        have HS0 := Aside0.mk hsz0
        clear hmk hru hsz0
        have hlow : 1 ≤ (s.size : Int) - 1 := by omega
        rcases hq : dq with _ | _
        all_goals (rw [hq] at hdq hdn hn96; simp only [Bool.not_false, Bool.not_true] at hdn)
        · have hn96' := hn96 rfl
          clear hn96
          go_enter Tryz.func6, Tryz.ntmps6
          go_wp2
          go_quiet (fail)
          go_wp2
          go_quiet (fail)
          go_wp2
          go_loopg [0] s.size (fun kq v0 wr => ∃ (r : ByteArray) (acc : List UInt8), v0 = .string r ∧ Aside0 (r.size < kq ∧ m = unqLoop false kq r acc ∧ acc.length + 2 * r.size ≤ 2 * s.size) ∧ Aside0 (Bld w.heap.size w.heap.size acc wr) ∧ Aside0 (Below w.heap.size w wr))
          case atStart =>
            refine ⟨s.extract 1 (s.size - 1), [], rfl, ⟨by have := HS0.out; omega, by have := HU.out; rw [hq] at this; exact this, by have := HS0.out; simp only [List.length_nil]; omega⟩, ⟨?_⟩, ⟨?_⟩⟩
            · exact bld_new (w.drewN _)
            · exact (drewN_below w _).alloc (by simp) _
          case round =>
            clear hx5 hx9 hx9b c3b0 c3b1 q5 qi5 p9 p9b hlow HU HS0 h2
            obtain ⟨r, acc, rfl, HS, HD, HB⟩ := hrel
            obtain ⟨hS1, hS2, hS3⟩ := HS.out
            clear HS
            obtain ⟨k1, rfl⟩ : ∃ k1, gk = k1 + 1 := ⟨gk - 1, by omega⟩
            by_cases hr0 : r.size = 0
            · have t2 := isEmpty_of_size hr0
              have hres : m = some acc := by rw [hS2, unqLoop, if_pos hr0]
              clear hS2
              go_wp2_with (go_at_call 17; (with_reducible refine (bld_String w.heap.size w.heap.size acc _ HD.out HB.out.size).mono ?_); rintro e w3 ⟨rfl, hd3, hb3, hk3⟩)
              go_ret2
              exact ⟨by rw [hres]; rfl, HB.out.trans hb3⟩
            · have t2 := isEmpty_of_size_ne hr0
              have rp : 0 < r.size := by omega
              have rpi : 0 < (r.size : Int) := by omega
              have HE := hS2
              rw [unqLoop_succ false f (by have := HF.out; rw [hq] at this; exact this) k1 r acc rp] at HE
              clear hS2
              obtain ⟨c, hc⟩ : ∃ c, c = r[0]'rp := ⟨_, rfl⟩
              have hxc : ∀ h, r[0]'h = c := fun _ => hc.symm
              rw [← hc] at HE
              clear hc
              by_cases hcm : (c.toNat : Int) = f
              · have eb1 : ((c.toNat : Int) == f) = true := beq_iff_eq.mpr hcm
                rw [if_pos (Or.inl hcm)] at HE
                have hres : m = none := HE
                clear HE hcm
                go_wp2
                go_ret2
                exact ⟨by rw [hres]; rfl, HB.out⟩
              · have eb1 : ((c.toNat : Int) == f) = false := beq_eq_false_iff_ne.mpr hcm
                rw [if_neg (by rintro (h | ⟨h, _⟩); exact hcm h; cases h)] at HE
                rw [if_neg (by rintro ⟨h, _⟩; cases h)] at HE
                have HE' : Aside0 (m = unqLoop false k1 (r.extract 1 r.size) (acc ++ [c])) := ⟨HE⟩
                clear HE
                have HL : Aside0 ((r.extract 1 r.size).size < k1 ∧ (acc ++ [c]).length + 2 * (r.extract 1 r.size).size ≤ 2 * s.size ∧ acc.length + 1 ≤ 140737488355328) := ⟨by
                  have hrs : (r.extract 1 r.size).size = r.size - 1 := by rw [ByteArray.size_extract]; omega
                  rw [List.length_append]
                  simp only [List.length_cons, List.length_nil]
                  omega⟩
                go_wp2_with (go_at_call 16; (with_reducible refine (bld_WriteByte w.heap.size w.heap.size acc c _ HD.out HL.out.2.2 HB.out.size).mono ?_); rintro e w4 ⟨rfl, hd4, hb4, hk4⟩; have HB4 := Aside0.mk (HB.out.trans hb4); have HD4 := Aside0.mk hd4; clear hd4 hb4 hk4)
                go_roundg k1
                case measure => omega
                case rel => exact ⟨r.extract 1 r.size, _, rfl, ⟨HL.out.1, HE'.out, HL.out.2.1⟩, HD4, HB4⟩
        · clear hn96
          go_enter Tryz.func6, Tryz.ntmps6
          go_wp2
          go_quiet (fail)
          go_wp2
          go_quiet (fail)
          go_wp2
          go_loopg [0] s.size (fun kq v0 wr => ∃ (r : ByteArray) (acc : List UInt8), v0 = .string r ∧ Aside0 (r.size < kq ∧ m = unqLoop true kq r acc ∧ acc.length + 2 * r.size ≤ 2 * s.size) ∧ Aside0 (Bld w.heap.size w.heap.size acc wr) ∧ Aside0 (Below w.heap.size w wr))
          case atStart =>
            refine ⟨s.extract 1 (s.size - 1), [], rfl, ⟨by have := HS0.out; omega, by have := HU.out; rw [hq] at this; exact this, by have := HS0.out; simp only [List.length_nil]; omega⟩, ⟨?_⟩, ⟨?_⟩⟩
            · exact bld_new (w.drewN _)
            · exact (drewN_below w _).alloc (by simp) _
          case round =>
            clear hx5 hx9 hx9b c3b0 c3b1 q5 qi5 p9 p9b hlow HU HS0 h2
            obtain ⟨r, acc, rfl, HS, HD, HB⟩ := hrel
            obtain ⟨hS1, hS2, hS3⟩ := HS.out
            clear HS
            obtain ⟨k1, rfl⟩ : ∃ k1, gk = k1 + 1 := ⟨gk - 1, by omega⟩
            by_cases hr0 : r.size = 0
            · have t2 := isEmpty_of_size hr0
              have hres : m = some acc := by rw [hS2, unqLoop, if_pos hr0]
              clear hS2
              go_wp2_with (go_at_call 17; (with_reducible refine (bld_String w.heap.size w.heap.size acc _ HD.out HB.out.size).mono ?_); rintro e w3 ⟨rfl, hd3, hb3, hk3⟩)
              go_ret2
              exact ⟨by rw [hres]; rfl, HB.out.trans hb3⟩
            · have t2 := isEmpty_of_size_ne hr0
              have rp : 0 < r.size := by omega
              have rpi : 0 < (r.size : Int) := by omega
              have HE := hS2
              rw [unqLoop_succ true f (by have := HF.out; rw [hq] at this; exact this) k1 r acc rp] at HE
              clear hS2
              obtain ⟨c, hc⟩ : ∃ c, c = r[0]'rp := ⟨_, rfl⟩
              have hxc : ∀ h, r[0]'h = c := fun _ => hc.symm
              rw [← hc] at HE
              clear hc
              by_cases hcm : (c.toNat : Int) = f
              · have eb1 : ((c.toNat : Int) == f) = true := beq_iff_eq.mpr hcm
                rw [if_pos (Or.inl hcm)] at HE
                have hres : m = none := HE
                clear HE hcm
                go_wp2
                go_ret2
                exact ⟨by rw [hres]; rfl, HB.out⟩
              · have eb1 : ((c.toNat : Int) == f) = false := beq_eq_false_iff_ne.mpr hcm
                by_cases hnl : c.toNat = 10
                · have eb2 : ((c.toNat : Int) == 10) = true := beq_iff_eq.mpr (by omega)
                  rw [if_pos (Or.inr ⟨rfl, hnl⟩)] at HE
                  have hres : m = none := HE
                  clear HE
                  go_wp2
                  go_ret2
                  exact ⟨by rw [hres]; rfl, HB.out⟩
                · have eb2 : ((c.toNat : Int) == 10) = false := beq_eq_false_iff_ne.mpr (by omega)
                  rw [if_neg (by rintro (h | ⟨_, h⟩); exact hcm h; exact hnl h)] at HE
                  by_cases hsl : c.toNat = 92
                  · -- an escape
                    have eb3 : ((c.toNat : Int) == 92) = true := beq_iff_eq.mpr (by omega)
                    rw [if_pos ⟨rfl, hsl⟩] at HE
                    have hrs : (r.extract 1 r.size).size = r.size - 1 := by rw [ByteArray.size_extract]; omega
                    have hrs2 : (r.extract 1 r.size).size ≤ 17592186044416 := by omega
                    rcases hesc : escapeP (r.extract 1 r.size) with _ | ⟨tt, rr⟩
                    · rw [hesc] at HE
                      have hres : m = none := HE
                      have HC : ∀ W, Below w.heap.size w W → Calls Tryz.prog 14 #[.string (r.extract 1 r.size)] W fun e w' => e = .returned (.tuple #[.string ⟨#[]⟩, .string ⟨#[]⟩, .bool false]) ∧ Below W.heap.size W w' := fun W hW => by
                        have := escape_calls (r.extract 1 r.size) hrs2 W ⟨hG.out.below hW⟩
                        rw [hesc] at this; exact this
                      clear HE hesc
                      go_wp2_with (go_at_call 14; (with_reducible refine (HC _ HB.out).mono ?_); rintro e w3 ⟨rfl, hb3⟩)
                      go_ret2
                      exact ⟨by rw [hres]; rfl, below_step HB.out hb3⟩
                    · rw [hesc] at HE
                      have HE' : Aside0 (m = unqLoop true k1 rr (acc ++ tt.data.toList)) := ⟨HE⟩
                      obtain ⟨ht4, hrr⟩ := escapeP_size hesc
                      have HC : ∀ W, Below w.heap.size w W → Calls Tryz.prog 14 #[.string (r.extract 1 r.size)] W fun e w' => e = .returned (.tuple #[.string tt, .string rr, .bool true]) ∧ Below W.heap.size W w' := fun W hW => by
                        have := escape_calls (r.extract 1 r.size) hrs2 W ⟨hG.out.below hW⟩
                        rw [hesc] at this; exact this
                      clear HE hesc
                      have HL : Aside0 (rr.size < k1 ∧ (acc ++ tt.data.toList).length + 2 * rr.size ≤ 2 * s.size ∧ acc.length + tt.size ≤ 140737488355328) := ⟨by
                        have e1 : tt.data.toList.length = tt.size := (Lib.size_eq tt).symm
                        rw [List.length_append]
                        omega⟩
                      clear ht4 hrr hrs hrs2
                      go_wp2_with (first
                        | (go_at_call 14; (with_reducible refine (HC _ HB.out).mono ?_); rintro e w3 ⟨rfl, hb3⟩; have HB3 := Aside0.mk (below_step HB.out hb3); have HD3 := Aside0.mk (bldF_below HD.out hb3); clear hb3)
                        | (go_at_call 15; (with_reducible refine (bld_WriteString w.heap.size w.heap.size acc tt _ HD3.out HL.out.2.2 HB3.out.size).mono ?_); rintro e w4 ⟨rfl, hd4, hb4, hk4⟩; have HB4 := Aside0.mk (HB3.out.trans hb4); have HD4 := Aside0.mk hd4; clear hd4 hb4 hk4))
                      go_roundg k1
                      case measure => omega
                      case rel => exact ⟨rr, _, rfl, ⟨HL.out.1, HE'.out, HL.out.2.1⟩, HD4, HB4⟩
                  · have eb3 : ((c.toNat : Int) == 92) = false := beq_eq_false_iff_ne.mpr (by omega)
                    rw [if_neg (by rintro ⟨_, h⟩; exact hsl h)] at HE
                    have HE' : Aside0 (m = unqLoop true k1 (r.extract 1 r.size) (acc ++ [c])) := ⟨HE⟩
                    clear HE
                    have HL : Aside0 ((r.extract 1 r.size).size < k1 ∧ (acc ++ [c]).length + 2 * (r.extract 1 r.size).size ≤ 2 * s.size ∧ acc.length + 1 ≤ 140737488355328) := ⟨by
                      have hrs : (r.extract 1 r.size).size = r.size - 1 := by rw [ByteArray.size_extract]; omega
                      rw [List.length_append]
                      simp only [List.length_cons, List.length_nil]
                      omega⟩
                    go_wp2_with (go_at_call 16; (with_reducible refine (bld_WriteByte w.heap.size w.heap.size acc c _ HD.out HL.out.2.2 HB.out.size).mono ?_); rintro e w4 ⟨rfl, hd4, hb4, hk4⟩; have HB4 := Aside0.mk (HB.out.trans hb4); have HD4 := Aside0.mk hd4; clear hd4 hb4 hk4)
                    go_roundg k1
                    case measure => omega
                    case rel => exact ⟨r.extract 1 r.size, _, rfl, ⟨HL.out.1, HE'.out, HL.out.2.1⟩, HD4, HB4⟩
      · have hrn : unquoteP s = none := by rw [hr, if_neg (by omega), if_neg (by omega)]
        rw [hrn]
        have b2 : (f != 34) = true := bne_iff_ne.mpr (by omega)
        have b3 : (f != 96) = true := bne_iff_ne.mpr (by omega)
        clear hr hrn hm
        go_enter Tryz.func6, Tryz.ntmps6
        go_wp2
        go_quiet (fail)
        go_wp2
        go_ret2
        exact ⟨rfl, drewN_below _ _⟩
    · have b1 : (f != l) = true := bne_iff_ne.mpr hfl
      rw [if_neg hfl] at hr
      rw [hr]
      clear hr hfl
      go_enter Tryz.func6, Tryz.ntmps6
      go_wp2
      go_quiet (fail)
      go_wp2
      go_ret2
      exact ⟨rfl, drewN_below _ _⟩
end Go.Proofs.YtfojidcbcpkpmaaGreatDoor
namespace Go.Proofs.YtfojidcbcpkpmaaGreatDoor.P
open Go Go.RowKit Go.Proofs.YtfojidcbcpkpmaaGreatDoorW.PrintWords
def unq2 : Option (List UInt8) → ByteArray × Int
  | none => (⟨#[]⟩, 40)
  | some l => (⟨l.toArray⟩, 0)
def quote_Unquote.f (a0 : ByteArray) : Option (ByteArray × Int) := if a0.size ≤ 17592186044416 then some (unq2 (unquoteP a0)) else none
theorem quote_Unquote.calls (a0 : ByteArray) (r1 : ByteArray) (r2 : Int) (w : World) (hG : Aside0 (G w)) (h : quote_Unquote.f a0 = some (r1, r2)) :
    Calls Tryz.prog 6 #[.string a0] w fun e w' => e = .returned (.tuple #[.string r1, .int .i64 r2]) ∧ Below w.heap.size w w' := by
  unfold quote_Unquote.f at h
  split at h
  · rename_i hs
    have := unquote_calls a0 hs w hG
    revert h this
    cases unquoteP a0 with
    | none => intro h this; cases h; exact this
    | some l => intro h this; cases h; exact this
  · cases h
end Go.Proofs.YtfojidcbcpkpmaaGreatDoor.P
end

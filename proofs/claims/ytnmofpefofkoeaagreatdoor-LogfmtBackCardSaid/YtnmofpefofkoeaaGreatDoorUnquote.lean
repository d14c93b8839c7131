/- quote.Unquote. Its conditions: what the laid variables hold; the text's size. -/
import Derived.Test.YtnmofpefofkoeaaGreatDoorEscape
import Derived.Test.YtnmofpefofkoeaaGreatDoorBuilder
import Derived.Deep.LoopGhost
set_option linter.unusedVariables false
namespace Go.Proofs.YtnmofpefofkoeaaGreatDoor
open Go Go.RowKit Go.Proofs.YtnmofpefofkoeaaGreatDoorW.PrintWords

def unqLoop (dq : Bool) : Nat → ByteArray → List UInt8 → Option (List UInt8)
  | 0, _, _ => none
  | k + 1, r, acc => if r.size = 0 then some acc else
    if ((r.data.toList.getD 0 0).toNat : Int) = (if dq = true then 34 else 96) ∨ dq = true ∧ (r.data.toList.getD 0 0).toNat = 10 then none
    else if dq = true ∧ (r.data.toList.getD 0 0).toNat = 92 then
      match escapeP (r.extract 1 r.size) with
      | none => none
      | some x => unqLoop dq k x.2 (acc ++ x.1.data.toList)
    else unqLoop dq k (r.extract 1 r.size) (acc ++ [r.data.toList.getD 0 0])

def unquoteP (s : ByteArray) : Option (List UInt8) :=
  if s.size < 2 then none else
    if bt s 0 = bt s ((s.size : Int) - 1) then
      if bt s 0 = 34 then unqLoop true s.size (s.extract 1 (s.size - 1)) []
      else if bt s 0 = 96 then unqLoop false s.size (s.extract 1 (s.size - 1)) [] else none
    else none

def unqRes : Option (List UInt8) → Value
  | none => .tuple #[.string ⟨#[]⟩, .int .i64 40]
  | some l => .tuple #[.string ⟨l.toArray⟩, .int .i64 0]

theorem enc_size (r : Int) : (⟨(Lib.encodeRune r).toArray⟩ : ByteArray).size ≤ 4 := by
  have h2 := Lib.runeCells_le r
  rw [Lib.runeCells_length] at h2
  exact h2.2
theorem escapeP_size {s t r : ByteArray} (h : escapeP s = some (t, r)) : t.size ≤ 4 ∧ r.size < s.size := by
  have one : ∀ x : UInt8, (⟨#[x]⟩ : ByteArray).size = 1 := fun _ => rfl
  unfold escapeP at h
  split at h
  · cases h
  · rename_i h0
    split at h
    · cases h
      refine ⟨by rw [one]; omega, ?_⟩
      rw [ByteArray.size_extract]; omega
    · split at h
      · cases h
      · split at h
        · cases h
        · split at h
          · split at h
            · cases h
              refine ⟨by rw [one]; omega, ?_⟩
              rw [ByteArray.size_extract]; omega
            · split at h
              · cases h
                refine ⟨?_, by rw [ByteArray.size_extract]; omega⟩
                exact enc_size _
              · cases h
          · cases h

theorem isEmpty_of_size {s : ByteArray} (h : s.size = 0) : s.toList.isEmpty = true := by
  rw [← decide_eq_emptyBytes]
  exact decide_eq_true (by cases s with | mk d => cases d with | mk l => cases l with
    | nil => rfl
    | cons a l => simp [ByteArray.size] at h)
theorem isEmpty_of_size_ne {s : ByteArray} (h : ¬ s.size = 0) : s.toList.isEmpty = false := by
  rw [← decide_eq_emptyBytes]
  exact decide_eq_false (fun h2 => by rw [h2] at h; exact absurd h (by decide))

/-- One round's outcome, of the text that is left. -/
theorem unqLoop_succ (dq : Bool) (f : Int) (hf : f = if dq = true then 34 else 96) (k : Nat) (r : ByteArray) (acc : List UInt8) (h : 0 < r.size) :
    unqLoop dq (k + 1) r acc = if ((r[0]'h).toNat : Int) = f ∨ dq = true ∧ (r[0]'h).toNat = 10 then none
      else if dq = true ∧ (r[0]'h).toNat = 92 then
        match escapeP (r.extract 1 r.size) with
        | none => none
        | some x => unqLoop dq k x.2 (acc ++ x.1.data.toList)
      else unqLoop dq k (r.extract 1 r.size) (acc ++ [r[0]'h]) := by
  rw [unqLoop, if_neg (by omega), get0_eq r h, hf]

set_option maxRecDepth 100000 in
set_option maxHeartbeats 8000000 in
theorem unquote_calls (s : ByteArray) (hs : s.size ≤ 17592186044416) (w : World) (hG : Aside0 (G w)) :
    Calls Tryz.prog 68 #[.string s] w fun e w' => e = .returned (unqRes (unquoteP s)) ∧ Below w.heap.size w w' := by
  by_cases h2 : s.size < 2
  · have hr : unquoteP s = none := by unfold unquoteP; rw [if_pos h2]
    rw [hr]
    clear hr
    have c3b0 : decide ((s.size : Int) < 2) = true := decide_eq_true (by omega)
    have c3b1 : decide (s.size < 2) = true := decide_eq_true h2
    go_enter Tryz.func68, Tryz.ntmps68
    go_wp2
    go_quiet (fail)
    go_wp2
    go_ret2
    exact ⟨rfl, drewN_below _ _⟩
  · have c3b0 : decide ((s.size : Int) < 2) = false := decide_eq_false (by omega)
    have c3b1 : decide (s.size < 2) = false := decide_eq_false h2
    have hr : unquoteP s = if bt s 0 = bt s ((s.size : Int) - 1) then
      if bt s 0 = 34 then unqLoop true s.size (s.extract 1 (s.size - 1)) []
      else if bt s 0 = 96 then unqLoop false s.size (s.extract 1 (s.size - 1)) [] else none
      else none := by unfold unquoteP; rw [if_neg h2]
    have q5 : 0 < s.size := by omega
    have qi5 : 0 < (s.size : Int) := by omega
    have p9 : 0 ≤ (s.size : Int) - 1 := by omega
    have p9b : s.size - 1 < s.size := by omega
    have hx9 : ∀ h, ((s[((s.size : Int) - 1).toNat]'h).toNat : Int) = bt s ((s.size : Int) - 1) := bt_at s ((s.size : Int) - 1)
    have hx9b : ∀ h, ((s[s.size - 1]'h).toNat : Int) = bt s ((s.size : Int) - 1) := fun h => by
      have e : ((s.size : Int) - 1).toNat = s.size - 1 := by omega
      rw [← hx9 (by omega)]
      simp only [e]
    have hx5 : ∀ h : 0 < s.size, ((s[0]'h).toNat : Int) = bt s 0 := bt_at s 0
    obtain ⟨f, hf⟩ : ∃ f, f = bt s 0 := ⟨_, rfl⟩
    obtain ⟨l, hl⟩ : ∃ l, l = bt s ((s.size : Int) - 1) := ⟨_, rfl⟩
    have hl0 := bt_range s ((s.size : Int) - 1)
    have hf0 := bt_range s 0
    rw [← hf] at hr hx5 hf0
    rw [← hl] at hr hl0
    simp only [← hl] at hx9 hx9b
    clear hf hl
    by_cases hfl : f = l
    · subst hfl
      rw [if_pos rfl] at hr
      have b1 : (f != f) = false := by simp
      by_cases hm : f = 34 ∨ f = 96
      · obtain ⟨dq, hdq⟩ : ∃ dq : Bool, (f == 34) = dq := ⟨_, rfl⟩
        have hru : unquoteP s = unqLoop dq s.size (s.extract 1 (s.size - 1)) [] := by
          rw [hr]
          cases dq with
          | true => rw [if_pos (by simpa using hdq)]
          | false => rw [if_neg (by simpa using hdq), if_pos (by have : ¬ f = 34 := by simpa using hdq
                                                                 omega)]
        have hmk : f = if dq = true then 34 else 96 := by
          cases dq with
          | true => simpa using hdq
          | false => have : ¬ f = 34 := by simpa using hdq
                     rw [if_neg (by decide)]; omega
        have hdn : (f != 34) = !dq := by rw [bne, hdq]
        have hne96 : (f == 96) = !dq := by
          cases dq with
          | true => rw [hmk]; rfl
          | false => rw [hmk]; rfl
        have hn96 : dq = false → (f != 96) = false := fun h => by rw [bne, hne96, h]; rfl
        clear hr hm hne96
        obtain ⟨m, hm⟩ : ∃ m, m = unquoteP s := ⟨_, rfl⟩
        have hsz0 : (s.extract 1 (s.size - 1)).size = s.size - 2 := by rw [ByteArray.size_extract]; omega
        rw [← hm] at hru ⊢
        clear hm
        have HF : Aside0 (f = if dq = true then 34 else 96) := ⟨hmk⟩
        have HU := Aside0.mk hru
        have HS0 := Aside0.mk hsz0
        clear hmk hru hsz0
        have hlow : 1 ≤ (s.size : Int) - 1 := by omega
        rcases hq : dq with _ | _
        all_goals (rw [hq] at hdq hdn hn96; simp only [Bool.not_false, Bool.not_true] at hdn)
        · have hn96' := hn96 rfl
          clear hn96
          go_enter Tryz.func68, Tryz.ntmps68
          go_wp2
          go_quiet (fail)
          go_wp2
          go_quiet (fail)
          go_wp2
          go_loopg [0] s.size (fun kq v0 wr => ∃ (r : ByteArray) (acc : List UInt8), v0 = .string r ∧ Aside0 (r.size < kq ∧ m = unqLoop false kq r acc ∧ acc.length + 2 * r.size ≤ 2 * s.size) ∧ Aside0 (Bld w.heap.size w.heap.size acc wr) ∧ Aside0 (Below w.heap.size w wr))
          case atStart =>
            refine ⟨s.extract 1 (s.size - 1), [], rfl, ⟨by have := HS0.out; omega, by have := HU.out; rw [hq] at this; exact this, by have := HS0.out; simp only [List.length_nil]; omega⟩, ⟨?_⟩, ⟨?_⟩⟩
            · exact bld_new (w.drewN _)
            · exact (drewN_below w _).alloc (by simp) _
          case round =>
            clear hx5 hx9 hx9b c3b0 c3b1 q5 qi5 p9 p9b hlow HU HS0 h2
            obtain ⟨r, acc, rfl, HS, HD, HB⟩ := hrel
            obtain ⟨hS1, hS2, hS3⟩ := HS.out
            clear HS
            obtain ⟨k1, rfl⟩ : ∃ k1, gk = k1 + 1 := ⟨gk - 1, by omega⟩
            by_cases hr0 : r.size = 0
            · have t2 := isEmpty_of_size hr0
              have hres : m = some acc := by rw [hS2, unqLoop, if_pos hr0]
              clear hS2
              go_wp2_with (go_at_call 39; (with_reducible refine (bld_String w.heap.size w.heap.size acc _ HD.out HB.out.size).mono ?_); rintro e w3 ⟨rfl, hd3, hb3, hk3⟩)
              go_ret2
              exact ⟨by rw [hres]; rfl, HB.out.trans hb3⟩
            · have t2 := isEmpty_of_size_ne hr0
              have rp : 0 < r.size := by omega
              have rpi : 0 < (r.size : Int) := by omega
              have HE := hS2
              rw [unqLoop_succ false f (by have := HF.out; rw [hq] at this; exact this) k1 r acc rp] at HE
              clear hS2
              obtain ⟨c, hc⟩ : ∃ c, c = r[0]'rp := ⟨_, rfl⟩
              have hxc : ∀ h, r[0]'h = c := fun _ => hc.symm
              rw [← hc] at HE
              clear hc
              by_cases hcm : (c.toNat : Int) = f
              · have eb1 : ((c.toNat : Int) == f) = true := beq_iff_eq.mpr hcm
                rw [if_pos (Or.inl hcm)] at HE
                have hres : m = none := HE
                clear HE hcm
                go_wp2
                go_ret2
                exact ⟨by rw [hres]; rfl, HB.out⟩
              · have eb1 : ((c.toNat : Int) == f) = false := beq_eq_false_iff_ne.mpr hcm
                rw [if_neg (by rintro (h | ⟨h, _⟩); exact hcm h; cases h)] at HE
                rw [if_neg (by rintro ⟨h, _⟩; cases h)] at HE
                have HE' : Aside0 (m = unqLoop false k1 (r.extract 1 r.size) (acc ++ [c])) := ⟨HE⟩
                clear HE
                have HL : Aside0 ((r.extract 1 r.size).size < k1 ∧ (acc ++ [c]).length + 2 * (r.extract 1 r.size).size ≤ 2 * s.size ∧ acc.length + 1 ≤ 140737488355328) := ⟨by
                  have hrs : (r.extract 1 r.size).size = r.size - 1 := by rw [ByteArray.size_extract]; omega
                  rw [List.length_append]
                  simp only [List.length_cons, List.length_nil]
                  omega⟩
                go_wp2_with (go_at_call 36; (with_reducible refine (bld_WriteByte w.heap.size w.heap.size acc c _ HD.out HL.out.2.2 HB.out.size).mono ?_); rintro e w4 ⟨rfl, hd4, hb4, hk4⟩; have HB4 := Aside0.mk (HB.out.trans hb4); have HD4 := Aside0.mk hd4; clear hd4 hb4 hk4)
                go_roundg k1
                case measure => omega
                case rel => exact ⟨r.extract 1 r.size, _, rfl, ⟨HL.out.1, HE'.out, HL.out.2.1⟩, HD4, HB4⟩
        · clear hn96
          go_enter Tryz.func68, Tryz.ntmps68
          go_wp2
          go_quiet (fail)
          go_wp2
          go_quiet (fail)
          go_wp2
          go_loopg [0] s.size (fun kq v0 wr => ∃ (r : ByteArray) (acc : List UInt8), v0 = .string r ∧ Aside0 (r.size < kq ∧ m = unqLoop true kq r acc ∧ acc.length + 2 * r.size ≤ 2 * s.size) ∧ Aside0 (Bld w.heap.size w.heap.size acc wr) ∧ Aside0 (Below w.heap.size w wr))
          case atStart =>
            refine ⟨s.extract 1 (s.size - 1), [], rfl, ⟨by have := HS0.out; omega, by have := HU.out; rw [hq] at this; exact this, by have := HS0.out; simp only [List.length_nil]; omega⟩, ⟨?_⟩, ⟨?_⟩⟩
            · exact bld_new (w.drewN _)
            · exact (drewN_below w _).alloc (by simp) _
          case round =>
            clear hx5 hx9 hx9b c3b0 c3b1 q5 qi5 p9 p9b hlow HU HS0 h2
            obtain ⟨r, acc, rfl, HS, HD, HB⟩ := hrel
            obtain ⟨hS1, hS2, hS3⟩ := HS.out
            clear HS
            obtain ⟨k1, rfl⟩ : ∃ k1, gk = k1 + 1 := ⟨gk - 1, by omega⟩
            by_cases hr0 : r.size = 0
            · have t2 := isEmpty_of_size hr0
              have hres : m = some acc := by rw [hS2, unqLoop, if_pos hr0]
              clear hS2
              go_wp2_with (go_at_call 39; (with_reducible refine (bld_String w.heap.size w.heap.size acc _ HD.out HB.out.size).mono ?_); rintro e w3 ⟨rfl, hd3, hb3, hk3⟩)
              go_ret2
              exact ⟨by rw [hres]; rfl, HB.out.trans hb3⟩
            · have t2 := isEmpty_of_size_ne hr0
              have rp : 0 < r.size := by omega
              have rpi : 0 < (r.size : Int) := by omega
              have HE := hS2
              rw [unqLoop_succ true f (by have := HF.out; rw [hq] at this; exact this) k1 r acc rp] at HE
              clear hS2
              obtain ⟨c, hc⟩ : ∃ c, c = r[0]'rp := ⟨_, rfl⟩
              have hxc : ∀ h, r[0]'h = c := fun _ => hc.symm
              rw [← hc] at HE
              clear hc
              by_cases hcm : (c.toNat : Int) = f
              · have eb1 : ((c.toNat : Int) == f) = true := beq_iff_eq.mpr hcm
                rw [if_pos (Or.inl hcm)] at HE
                have hres : m = none := HE
                clear HE hcm
                go_wp2
                go_ret2
                exact ⟨by rw [hres]; rfl, HB.out⟩
              · have eb1 : ((c.toNat : Int) == f) = false := beq_eq_false_iff_ne.mpr hcm
                by_cases hnl : c.toNat = 10
                · have eb2 : ((c.toNat : Int) == 10) = true := beq_iff_eq.mpr (by omega)
                  rw [if_pos (Or.inr ⟨rfl, hnl⟩)] at HE
                  have hres : m = none := HE
                  clear HE
                  go_wp2
                  go_ret2
                  exact ⟨by rw [hres]; rfl, HB.out⟩
                · have eb2 : ((c.toNat : Int) == 10) = false := beq_eq_false_iff_ne.mpr (by omega)
                  rw [if_neg (by rintro (h | ⟨_, h⟩); exact hcm h; exact hnl h)] at HE
                  by_cases hsl : c.toNat = 92
                  · -- an escape
                    have eb3 : ((c.toNat : Int) == 92) = true := beq_iff_eq.mpr (by omega)
                    rw [if_pos ⟨rfl, hsl⟩] at HE
                    have hrs : (r.extract 1 r.size).size = r.size - 1 := by rw [ByteArray.size_extract]; omega
                    have hrs2 : (r.extract 1 r.size).size ≤ 17592186044416 := by omega
                    rcases hesc : escapeP (r.extract 1 r.size) with _ | ⟨tt, rr⟩
                    · rw [hesc] at HE
                      have hres : m = none := HE
                      have HC : ∀ W, Below w.heap.size w W → Calls Tryz.prog 80 #[.string (r.extract 1 r.size)] W fun e w' => e = .returned (.tuple #[.string ⟨#[]⟩, .string ⟨#[]⟩, .bool false]) ∧ Below W.heap.size W w' := fun W hW => by
                        have := escape_calls (r.extract 1 r.size) hrs2 W ⟨hG.out.below hW⟩
                        rw [hesc] at this; exact this
                      clear HE hesc
                      go_wp2_with (go_at_call 80; (with_reducible refine (HC _ HB.out).mono ?_); rintro e w3 ⟨rfl, hb3⟩)
                      go_ret2
                      exact ⟨by rw [hres]; rfl, below_step HB.out hb3⟩
                    · rw [hesc] at HE
                      have HE' : Aside0 (m = unqLoop true k1 rr (acc ++ tt.data.toList)) := ⟨HE⟩
                      obtain ⟨ht4, hrr⟩ := escapeP_size hesc
                      have HC : ∀ W, Below w.heap.size w W → Calls Tryz.prog 80 #[.string (r.extract 1 r.size)] W fun e w' => e = .returned (.tuple #[.string tt, .string rr, .bool true]) ∧ Below W.heap.size W w' := fun W hW => by
                        have := escape_calls (r.extract 1 r.size) hrs2 W ⟨hG.out.below hW⟩
                        rw [hesc] at this; exact this
                      clear HE hesc
                      have HL : Aside0 (rr.size < k1 ∧ (acc ++ tt.data.toList).length + 2 * rr.size ≤ 2 * s.size ∧ acc.length + tt.size ≤ 140737488355328) := ⟨by
                        have e1 : tt.data.toList.length = tt.size := (Lib.size_eq tt).symm
                        rw [List.length_append]
                        omega⟩
                      clear ht4 hrr hrs hrs2
                      go_wp2_with (first
                        | (go_at_call 80; (with_reducible refine (HC _ HB.out).mono ?_); rintro e w3 ⟨rfl, hb3⟩; have HB3 := Aside0.mk (below_step HB.out hb3); have HD3 := Aside0.mk (bldF_below HD.out hb3); clear hb3)
                        | (go_at_call 38; (with_reducible refine (bld_WriteString w.heap.size w.heap.size acc tt _ HD3.out HL.out.2.2 HB3.out.size).mono ?_); rintro e w4 ⟨rfl, hd4, hb4, hk4⟩; have HB4 := Aside0.mk (HB3.out.trans hb4); have HD4 := Aside0.mk hd4; clear hd4 hb4 hk4))
                      go_roundg k1
                      case measure => omega
                      case rel => exact ⟨rr, _, rfl, ⟨HL.out.1, HE'.out, HL.out.2.1⟩, HD4, HB4⟩
                  · have eb3 : ((c.toNat : Int) == 92) = false := beq_eq_false_iff_ne.mpr (by omega)
                    rw [if_neg (by rintro ⟨_, h⟩; exact hsl h)] at HE
                    have HE' : Aside0 (m = unqLoop true k1 (r.extract 1 r.size) (acc ++ [c])) := ⟨HE⟩
                    clear HE
                    have HL : Aside0 ((r.extract 1 r.size).size < k1 ∧ (acc ++ [c]).length + 2 * (r.extract 1 r.size).size ≤ 2 * s.size ∧ acc.length + 1 ≤ 140737488355328) := ⟨by
                      have hrs : (r.extract 1 r.size).size = r.size - 1 := by rw [ByteArray.size_extract]; omega
                      rw [List.length_append]
                      simp only [List.length_cons, List.length_nil]
                      omega⟩
                    go_wp2_with (go_at_call 36; (with_reducible refine (bld_WriteByte w.heap.size w.heap.size acc c _ HD.out HL.out.2.2 HB.out.size).mono ?_); rintro e w4 ⟨rfl, hd4, hb4, hk4⟩; have HB4 := Aside0.mk (HB.out.trans hb4); have HD4 := Aside0.mk hd4; clear hd4 hb4 hk4)
                    go_roundg k1
                    case measure => omega
                    case rel => exact ⟨r.extract 1 r.size, _, rfl, ⟨HL.out.1, HE'.out, HL.out.2.1⟩, HD4, HB4⟩
      · have hrn : unquoteP s = none := by rw [hr, if_neg (by omega), if_neg (by omega)]
        rw [hrn]
        have b2 : (f != 34) = true := bne_iff_ne.mpr (by omega)
        have b3 : (f != 96) = true := bne_iff_ne.mpr (by omega)
        clear hr hrn hm
        go_enter Tryz.func68, Tryz.ntmps68
        go_wp2
        go_quiet (fail)
        go_wp2
        go_ret2
        exact ⟨rfl, drewN_below _ _⟩
    · have b1 : (f != l) = true := bne_iff_ne.mpr hfl
      rw [if_neg hfl] at hr
      rw [hr]
      clear hr hfl
      go_enter Tryz.func68, Tryz.ntmps68
      go_wp2
      go_quiet (fail)
      go_wp2
      go_ret2
      exact ⟨rfl, drewN_below _ _⟩
end Go.Proofs.YtnmofpefofkoeaaGreatDoor
namespace Go.Proofs.YtnmofpefofkoeaaGreatDoor.P
open Go Go.RowKit Go.Proofs.YtnmofpefofkoeaaGreatDoorW.PrintWords
def unq2 : Option (List UInt8) → ByteArray × Int
  | none => (⟨#[]⟩, 40)
  | some l => (⟨l.toArray⟩, 0)
def quote_Unquote.f (a0 : ByteArray) : Option (ByteArray × Int) := if a0.size ≤ 17592186044416 then some (unq2 (unquoteP a0)) else none
theorem quote_Unquote.calls (a0 : ByteArray) (r1 : ByteArray) (r2 : Int) (w : World) (hG : Aside0 (G w)) (h : quote_Unquote.f a0 = some (r1, r2)) :
    Calls Tryz.prog 68 #[.string a0] w fun e w' => e = .returned (.tuple #[.string r1, .int .i64 r2]) ∧ Below w.heap.size w w' := by
  unfold quote_Unquote.f at h
  split at h
  · rename_i hs
    have := unquote_calls a0 hs w hG
    revert h this
    cases unquoteP a0 with
    | none => intro h this; cases h; exact this
    | some l => intro h this; cases h; exact this
  · cases h
end Go.Proofs.YtnmofpefofkoeaaGreatDoor.P

/- logfmt.Parse: what it computes, out of what its parts compute. Its premise: what the laid variables hold. -/
import Derived.Test.YtnmofpefofkoeaaGreatDoorFLogfmtReaderPair
import Derived.Test.YtnmofpefofkoeaaGreatDoorFLogfmtReaderSkip
import Derived.Test.YtnmofpefofkoeaaGreatDoorClean
import Derived.Test.YtnmofpefofkoeaaGreatDoorSet
import Derived.Deep.LoopGhost
set_option linter.unusedVariables false
namespace Go.Proofs.YtnmofpefofkoeaaGreatDoor.P
open Go Go.RowKit Go.Lib Go.Proofs.YtnmofpefofkoeaaGreatDoorW.PrintWords Go.Proofs.YtnmofpefofkoeaaGreatDoorW.PrintLast Go.Proofs.YtnmofpefofkoeaaGreatDoorW.PrintMore

def parseLoop (kk : Nat) : Nat → List S35 → Bool → ByteArray → Option (List S35 × Bool)
  | 0, _, _, _ => none
  | n + 1, out, apart, s => if s.toList = ([] : List UInt8) then some (out, true) else
    (logfmt_reader_pair.f kk s).bind fun p => if p.2.2.1 = true then (if apart = true then (labels_Clean.f p.1).bind fun nm => (labels_Set.f out nm p.2.1).bind fun out2 => (logfmt_reader_skip.f kk p.2.2.2).bind fun a => parseLoop kk n out2 a.1 a.2 else some ([], false)) else some ([], false)
def logfmt_Parse.f (a0 : ByteArray) : Option (List S35 × Bool) :=
  (logfmt_reader_skip.f (3 * a0.size + 100) a0).bind fun a => parseLoop (3 * a0.size + 100) (a0.size + 1) [] true a.2

set_option maxRecDepth 100000 in
set_option maxHeartbeats 8000000 in
theorem logfmt_Parse.calls (a0 : ByteArray) (r1 : List S35) (r2 : Bool) (w : World) (hG : Aside0 (G w)) (h : logfmt_Parse.f a0 = some (r1, r2)) :
    Calls Tryz.prog 8 #[.string a0] w fun e w' => ∃ v0_ : Value, e = .returned (.tuple #[v0_, .bool r2]) ∧ Kd.R k35 35 w' w.heap.size (fun _ => True) v0_ r1 ∧ Below w.heap.size w w' := by
  unfold logfmt_Parse.f at h
  generalize 3 * a0.size + 100 = kk at h
  obtain ⟨⟨t1, s1⟩, hs, h⟩ := Option.bind_eq_some_iff.1 h
  simp only at h
  generalize a0.size + 1 = n at h
  have HS := Aside0.mk hs
  have HP := Aside0.mk h
  clear hs h
  have hu := Tryz.underlying43
  have HI0 : Aside0 (IsS43 w (w.alloc (.cells #[.string a0] 43)) w.heap.size a0) := ⟨blk_new w _, Nat.le_refl _⟩
  have HB0 : Aside0 (Below w.heap.size w (w.alloc (.cells #[.string a0] 43))) := ⟨below_alloc (Below.refl _ _) _⟩
  go_enter Tryz.func8, Tryz.ntmps8
  go_wp2_with (go_at_call 19; (with_reducible refine (logfmt_reader_skip.calls kk w.heap.size a0 t1 s1 w _ HI0.out HB0.out HS.out).mono ?_); rintro e w1 ⟨rfl, hi, hb, hk⟩; have HI := Aside0.mk hi; have HB := Aside0.mk hb; clear hi hb hk HI0 HB0)
  go_loopg [5, 6] n (fun kq v5 v6 wr => ∃ (b : Bool) (xs : List S35) (s : ByteArray), v6 = .bool b ∧ Aside0 (parseLoop kk kq xs b s = some (r1, r2)) ∧ Aside0 (IsS43 w wr w.heap.size s) ∧ Aside0 (Kd.R k35 35 wr w.heap.size (fun _ => True) v5 xs) ∧ Aside0 (Below w.heap.size w wr))
  case atStart => exact ⟨true, [], s1, rfl, HP, HI, ⟨Kd.R_nil _ _ _ _ _⟩, HB⟩
  case round =>
    clear HI HB
    obtain ⟨b, xs, s, rfl, HA, HI, HR, HB⟩ := hrel
    cases gk with
    | zero => exact absurd HA.out (by simp [parseLoop])
    | succ kq =>
      have H := HA.out
      clear HA
      rw [parseLoop] at H
      have hcz : wr.cell? ⟨w.heap.size, 0, none⟩ = some (.string s) := (blk_cell HI.out.1 0).trans rfl
      by_cases he : s.toList = []
      · have hne : (s.toList == ([] : List UInt8)) = true := beq_iff_eq.2 he
        rw [if_pos he] at H
        clear he
        injection H with H
        injection H with H1 H2
        subst H1; subst H2
        go_wp2
        go_ret2
        exact ⟨_, rfl, HR.out, HB.out⟩
      · have hne : (s.toList == ([] : List UInt8)) = false := beq_eq_false_iff_ne.2 he
        rw [if_neg he] at H
        clear he
        obtain ⟨⟨key, value, fine, s2⟩, hp, H⟩ := Option.bind_eq_some_iff.1 H
        have HPA := Aside0.mk hp
        clear hp
        simp only at H
        cases fine with
        | false =>
          rw [if_neg (by decide)] at H
          injection H with H
          injection H with H1 H2
          subst H1; subst H2
          go_wp2_with (go_at_call 20; (with_reducible refine (logfmt_reader_pair.calls kk w.heap.size s key value false s2 w _ HI.out HB.out hG HPA.out).mono ?_); rintro e w2 ⟨rfl, hi, hb, hk⟩; have NB := Aside0.mk hb; clear hi hb hk)
          go_ret2
          exact ⟨_, rfl, Kd.R_nil _ _ _ _ _, NB.out⟩
        | true =>
          rw [if_pos rfl] at H
          cases b with
          | false =>
            rw [if_neg (by decide)] at H
            injection H with H
            injection H with H1 H2
            subst H1; subst H2
            go_wp2_with (go_at_call 20; (with_reducible refine (logfmt_reader_pair.calls kk w.heap.size s key value true s2 w _ HI.out HB.out hG HPA.out).mono ?_); rintro e w2 ⟨rfl, hi, hb, hk⟩; have NB := Aside0.mk hb; clear hi hb hk)
            go_ret2
            exact ⟨_, rfl, Kd.R_nil _ _ _ _ _, NB.out⟩
          | true =>
            rw [if_pos rfl] at H
            obtain ⟨nm, hc, H⟩ := Option.bind_eq_some_iff.1 H
            obtain ⟨out2, hst, H⟩ := Option.bind_eq_some_iff.1 H
            obtain ⟨⟨a, s3⟩, hsk, H⟩ := Option.bind_eq_some_iff.1 H
            have HC := Aside0.mk hc
            have HST := Aside0.mk hst
            have HSK := Aside0.mk hsk
            have H' := Aside0.mk H
            clear hc hst hsk H
            have HRA := Aside0.mk (HI.out.apart HR.out (by intro q hq; have e : q = 35 := (by simpa [k35, Kd.iso, Kd.pair, Kd.string, Kd.scalar] using hq); rw [e]; decide))
            go_wp2_with (first
              | (go_at_call 20; (with_reducible refine (logfmt_reader_pair.calls kk w.heap.size s key value true s2 w _ HI.out HB.out hG HPA.out).mono ?_); rintro e w2 ⟨rfl, hi, hb, hk⟩; have NB := Aside0.mk hb; have NI := Aside0.mk hi; have NR := Aside0.mk (Kd.R_keep HRA.out hk (fun k h => h.2)); clear HB HI HR HRA hi hb hk hcz)
              | (go_at_call 17; (with_reducible refine (labels_Clean.calls key nm _ HC.out).mono ?_); rintro e w3 ⟨rfl, hb⟩; have NB3 := Aside0.mk (below_step NB.out hb); have NI3 := Aside0.mk (NI.out.below hb); have NR3 := Aside0.mk (Kd.R_below NR.out hb); clear NB NI NR hb)
              | (obtain ⟨Ad, cd, hvd, hCd, hcd⟩ := lab_reads NR3.out; subst hvd; go_at_call 12; (with_reducible refine (labels_Set.calls Ad cd xs nm value out2 _ hCd hcd HST.out).mono ?_); rintro e w4 ⟨v4, rfl, hr, hb⟩; have NB4 := Aside0.mk (below_step NB3.out hb); have NI4 := Aside0.mk (NI3.out.below hb); have NR4 := Aside0.mk (Kd.R_lower hr (below_size NB3.out)); clear NB3 NI3 NR3 hr hb hCd hcd)
              | (go_at_call 19; (with_reducible refine (logfmt_reader_skip.calls kk w.heap.size s2 a s3 w _ NI4.out NB4.out HSK.out).mono ?_); have NRA := Aside0.mk (NI4.out.apart NR4.out (by intro q hq; have e : q = 35 := (by simpa [k35, Kd.iso, Kd.pair, Kd.string, Kd.scalar] using hq); rw [e]; decide)); rintro e w5 ⟨rfl, hi, hb, hk⟩; have NB5 := Aside0.mk hb; have NI5 := Aside0.mk hi; have NR5 := Aside0.mk (Kd.R_mono (ok' := fun _ => True) (Kd.R_keep NRA.out hk (fun k h => h.2)) (fun _ _ => trivial)); clear NB4 NI4 NR4 NRA hi hb hk))
            go_roundg kq
            case measure => omega
            case rel => exact ⟨a, out2, s3, rfl, H', NI5, NR5, NB5⟩
end Go.Proofs.YtnmofpefofkoeaaGreatDoor.P

/- Parts of the proof: the walks and laws that the last text of this claim rests on. No condition beyond each one's own. -/
import Derived.Test.YtioofhilohmfbaaGreatDoorBAll2
section
set_option linter.unusedVariables false
set_option linter.unusedSimpArgs false
namespace Go.Proofs.YtioofhilohmfbaaGreatDoor.P
open Go Go.RowKit Go.Proofs.YtioofhilohmfbaaGreatDoorW.PrintWords Go.Proofs.YtioofhilohmfbaaGreatDoorW.PrintLast Go.Proofs.YtioofhilohmfbaaGreatDoorW.PrintMore
attribute [local go_sem] max2_int min2_int
set_option maxRecDepth 100000 in
set_option maxHeartbeats 4000000 in
theorem divide_many (A0 : Option Addr) (c0 : Nat) (l0 : List Int) (A1 : Option Addr) (c1 : Nat) (l1 : List Int) (w : World) (hr0 : Kd.C (Kd.int .u32) w A0 l0.length l0) (hc0 : l0.length ≤ c0) (hr1 : Kd.C (Kd.int .u32) w A1 l1.length l1) (hc1 : l1.length ≤ c1) (hok : divOk l0 l1) (hle : lv l1 ≤ lv l0) (n : Nat) (hn1 : l1.length = n + 1) (hn : 0 < n) :
    Calls Tryz.prog 164 #[.slice A0 l0.length c0, .slice A1 l1.length c1] w (Two w (lim l0.length (lv l0 / lv l1)) (lim l1.length (lv l0 % lv l1))) := by
  obtain ⟨u0, t0, u1, t1, hne, b0, b1⟩ := hok
  -- the lengths
  have hmn : n + 1 ≤ l0.length := by
    rcases Nat.lt_or_ge l0.length l1.length with h | h
    · have := lv_lt_len u0 u1 t1 h; omega
    · omega
  -- what the calls answer
  obtain ⟨cc, hcc⟩ : ∃ cc, cmpI (lv l0) (lv l1) = cc := ⟨_, rfl⟩
  have hc := cmp_ge hle
  rw [hcc] at hc
  obtain ⟨kc, hkc⟩ := (compare_ev l0 l1 (by omega) (by omega) u0 t0 u1 t1).rounds
  rw [hcc] at hkc
  obtain ⟨x0, x1, x2⟩ := divisor_up l1 u1 t1 n hn1
  obtain ⟨x, hx⟩ : ∃ x, l1.getD n 0 = x := ⟨_, rfl⟩
  have hxU := (U_get u1 n).2
  rw [hx] at x0 x1 x2 hxU
  obtain ⟨s1, s2, s3, s4⟩ := up_lt x x0 hxU
  have hLZ : ∀ W : World, Calls Tryz.prog 189 #[.int .u32 x] W fun e w' => e = .returned (.int .i64 (upOf x : Nat)) ∧ w' = W := fun W => by
    have h := Tryz.bits_LeadingZeros32 x W (by omega) (by omega)
    rwa [show (32 - (Lib.bitLen x.toNat : Int)) = ((upOf x : Nat) : Int) by unfold upOf; omega] at h
  obtain ⟨s, hs⟩ : ∃ s, upOf x = s := ⟨_, rfl⟩
  rw [hs] at hLZ x1 x2 s1 s3 s4
  obtain ⟨La, hLa, la1, la2, la3⟩ := shifted_ev l0 s s1 u0 (by omega)
  obtain ⟨Lb, hLb, lb1, lb2, lb3⟩ := shifted_ev l1 s s1 u1 (by omega)
  obtain ⟨ka, hka⟩ := hLa.rounds
  obtain ⟨kb, hkb⟩ := hLb.rounds
  obtain ⟨kt, hkt⟩ := (trim_ev _ Lb rfl (by omega) lb2).rounds
  rw [lb3] at hkt
  obtain ⟨y1, y2, y3, y4⟩ := lim_full (n := n + 1) (k := Lb.length) x1 x2 (by omega) (by omega)
  obtain ⟨Y, hY⟩ : ∃ Y, lim Lb.length (lv l1 * 2 ^ s) = Y := ⟨_, rfl⟩
  rw [hY] at hkt y1 y2 y3 y4
  obtain ⟨Q0, hQ0⟩ : ∃ Q, Q = List.replicate (l0.length - n) (0 : Int) := ⟨_, rfl⟩
  have hst : DivSt (lv l0 * 2 ^ s) (lv l1 * 2 ^ s) l0.length (n + 1) (l0.length - n) La Q0 := by
    have := div_start (A0 := La) (Q := Q0) u0 u1 (m := l0.length) (n := n + 1) (s := s) rfl (by omega) hmn (by
      have := lv_lower u1 t1 hne
      rwa [hn1] at this) la1 la2 la3 (by rw [hQ0]; congr 1; omega)
    rwa [show l0.length - (n + 1) + 1 = l0.length - n by omega] at this
  -- the walk's numbers
  obtain ⟨j1, hj1⟩ : ∃ j_ : Int, (wrap64 ((l1.length : Int) - 1)) = j_ := ⟨_, rfl⟩
  have hj1w : IntKind.i64.wrap ((l1.length : Int) - 1) = j1 := (i64_w _).trans hj1
  have e1 : j1 = (n : Int) := by rw [← hj1]; unfold wrap64; omega
  obtain ⟨j2, hj2⟩ : ∃ j_ : Int, (wrap64 ((l0.length : Int) - (Y.length : Int))) = j_ := ⟨_, rfl⟩
  have hj2w : IntKind.i64.wrap ((l0.length : Int) - (Y.length : Int)) = j2 := (i64_w _).trans hj2
  have e2 : j2 = (l0.length : Int) - (n + 1) := by rw [← hj2]; unfold wrap64; omega
  obtain ⟨j3, hj3⟩ : ∃ j_ : Int, (wrap64 (j2 + 1)) = j_ := ⟨_, rfl⟩
  have hj3w : IntKind.i64.wrap (j2 + 1) = j3 := (i64_w _).trans hj3
  have e3 : j3 = (l0.length : Int) - n := by rw [← hj3]; unfold wrap64; omega
  have hq0 : Q0.length = l0.length - n := by rw [hQ0]; simp
  obtain ⟨j4, hj4⟩ : ∃ j_ : Int, (wrap64 ((Q0.length : Int) - 1)) = j_ := ⟨_, rfl⟩
  have hj4w : IntKind.i64.wrap ((Q0.length : Int) - 1) = j4 := (i64_w _).trans hj4
  have e4 : j4 = ((l0.length - n : Nat) : Int) - 1 := by rw [← hj4]; unfold wrap64; omega
  have hQ0' : Q0 = List.replicate j3.toNat (0 : Int) := by rw [hQ0]; congr 1; omega
  have c0b : decide (cc < 0) = false := decide_eq_false (by omega)
  have c2b0 : ((l1.length : Int) == 1) = false := beq_eq_false_iff_ne.mpr (by omega)
  have c2b1 : ((l1.length : Int) != 1) = true := bne_iff_ne.mpr (by omega)
  have c3b0 : decide (0 ≤ j3) = true := decide_eq_true (by omega)
  have c3b1 : (0 ≤ j3) = True := eq_true (by omega)
  have hj3b : j3.toNat ≤ 70368744177664 := by omega
  obtain ⟨ad, e, hx⟩ := Kd.at_int hr1 j1 (by omega) (by omega)
  cases e
  have hxx : rd l1 j1 = x := by rw [e1, rd_nat]; assumption
  rw [hxx] at hx
  have p1 : (0 ≤ j1) = True := eq_true (by omega)
  have q1 : (j1 < (l1.length : Int)) = True := eq_true (by omega)
  have KC := Aside0.mk hkc
  have KA := Aside0.mk hka
  have KB := Aside0.mk hkb
  have KT := Aside0.mk hkt
  have LZ := Aside0.mk hLZ
  have ST := Aside0.mk hst
  have NQ := Aside0.mk hQ0'
  have HR0 := Aside0.mk hr0
  have HC0 := Aside0.mk hc0
  have HR1 := Aside0.mk hr1
  have HC1 := Aside0.mk hc1
  have HX := Aside0.mk hx
  have B3 := Aside0.mk (And.intro c3b0 hj3b)
  have FN := Aside0.mk (And.intro hn1 (And.intro hn (And.intro hmn (And.intro b0 (And.intro u0 (And.intro u1 (And.intro t1 hle)))))))
  have FX := Aside0.mk (And.intro x0 (And.intro x1 (And.intro x2 s1)))
  have FY := Aside0.mk (And.intro y1 (And.intro y2 (And.intro y3 y4)))
  have FL := Aside0.mk (And.intro la1 lb1)
  have FQ := Aside0.mk hq0
  have E4 := Aside0.mk e4
  clear hr0 hc0 hr1 hc1 hkc hka hkb hkt hLZ hst hQ0' hn1 hn hmn b0 b1 u0 u1 t0 t1 hle x0 x1 x2 s1 s2 s3 s4 y1 y2 y3 y4 la1 la2 la3 lb1 lb2 lb3 hq0 e1 e2 e3 e4 hQ0 hY hs hcc hc hxU hLa hLb hne hxx hj1 hj2 hj3 hj4 hj3b hx
  go_enter Tryz.func164, Tryz.ntmps164
  go_wp2
  go_step3
  go_wp2_with (first
    | (go_at_call 187; (with_reducible refine (nat_compare.calls kc _ _ l0 _ _ l1 cc _ HR0.out HC0.out HR1.out HC1.out KC.out).mono ?_); rintro e w1 ⟨rfl, hb⟩; have HB := Aside0.mk hb; have hx := pw_cell_below hb HX.out; clear hb)
    | (go_at_call 189; (with_reducible refine (LZ.out _).mono ?_); rintro e w2 ⟨rfl, rfl⟩; clear hx)
    | (go_at_call 190; (with_reducible refine (nat_shifted.calls ka _ _ l0 _ La _ (Kd.C_below HR0.out HB.out) HC0.out KA.out).mono ?_); rintro e w3 ⟨v3, rfl, ho, hb⟩; have HO := Aside0.mk ho; have HB2 := Aside0.mk (below_step HB.out hb); have HS := Aside0.mk (below_size HB.out); clear ho hb)
    | (go_at_call 190; (with_reducible refine (nat_shifted.calls kb _ _ l1 _ Lb _ (Kd.C_below HR1.out HB2.out) HC1.out KB.out).mono ?_); rintro e w4 ⟨v4, rfl, ho, hb⟩; have HO1 := Aside0.mk (Kd.R_below HO.out hb); have HO2 := Aside0.mk ho; have HB3 := Aside0.mk (below_step HB2.out hb); have HS2 := Aside0.mk (below_size HB2.out); clear ho hb; obtain ⟨Ab, cb, eb⟩ := Kd.R_slice HO2.out; subst eb)
    | (go_at_call 167; (with_reducible refine (trim_same kt _ _ Lb Y _ (Kd.R_reads' HO2.out).2.2 (Kd.R_reads' HO2.out).2.1 KT.out).mono ?_); rintro e w5 ⟨m5, rfl, hm5, hb⟩; (obtain rfl : m5 = Y.length := by rw [hm5.2, List.length_take]; omega); have HO3 := Aside0.mk (Kd.R_below (R_cut HO2.out hm5) hb); have HO4 := Aside0.mk (Kd.R_below HO1.out hb); have HB4 := Aside0.mk (below_step HB3.out hb); have HS3 := Aside0.mk (below_size HB3.out); clear hm5 hb)
    | ((with_reducible refine gate_dst (N := 62) rfl ?_); refine Kd.R_make (Kd.int .u32) _ 109 rfl (N := 62) rfl 39 _ _ rfl j3 rfl rfl Tryz.underlying39 (.int .u32 0) 4 info109 rfl (by decide) (by omega) 0 (ok := fun _ => True) (okp := fun _ => True) rfl (fun _ hk => hk) trivial (of_decide_eq_true B3.out.1) (Nat.le_trans (Nat.mul_le_mul_right _ B3.out.2) (by omega)) (Below.refl _ _) (Nat.le_refl _) ?_; intro v6 w6 ho hb hg_ hnew_; clear hg_ hnew_; rw [← NQ.out] at ho; have HO5 := Aside0.mk ho; have HO6 := Aside0.mk (Kd.R_below HO3.out hb); have HO7 := Aside0.mk (Kd.R_below HO4.out hb); have HB5 := Aside0.mk (below_step HB4.out hb); have HS4 := Aside0.mk (below_size HB4.out); clear ho hb; obtain ⟨Aq, cq, eq⟩ := Kd.R_slice HO5.out; subst eq; obtain ⟨Al, cl, el⟩ := Kd.R_slice HO7.out; subst el))
  -- the three rows' blocks
  have hl7 : 0 < La.length := by rw [FL.out.1]; omega
  have hy7 : 0 < Y.length := by rw [FY.out.1]; omega
  have hq7 : 0 < Q0.length := by rw [FQ.out]; have := FN.out.2.2.1; omega
  obtain ⟨gl, _, el, _, _, _⟩ := Kd.R_form HO7.out hl7
  injection el with el1 _ el3
  subst el1 el3
  obtain ⟨gb, _, eb, _, _, _⟩ := Kd.R_form HO6.out hy7
  injection eb with eb1 _ eb3
  subst eb1 eb3
  obtain ⟨gq, _, eq, _, _, _⟩ := Kd.R_form HO5.out hq7
  injection eq with eq1 _ eq3
  subst eq1 eq3
  have hlb : gl < gb := Nat.lt_of_lt_of_le (Kd.R_lt HO.out gl rfl) (Kd.R_base HO2.out gb rfl)
  have hbq : gb < gq := Nat.lt_of_lt_of_le (Kd.R_lt HO3.out gb rfl) (Kd.R_base HO5.out gq rfl)
  have hwl : w.heap.size ≤ gl := Nat.le_trans HS.out (Kd.R_base HO.out gl rfl)
  have GG := Aside0.mk (And.intro hlb (And.intro hbq hwl))
  have RL := Aside0.mk (Kd.R_mono (Kd.R_lower HO7.out HS.out) (ok' := fun _ => True) (fun _ _ => trivial))
  have RY := Aside0.mk (Kd.R_mono (Kd.R_lower HO6.out HS2.out) (ok' := fun _ => True) (fun _ _ => trivial))
  have RQ := Aside0.mk (Kd.R_mono (Kd.R_lower HO5.out HS4.out) (ok' := fun _ => True) (fun _ _ => trivial))
  clear hlb hbq hwl hl7 hy7 hq7 HO HO1 HO2 HO3 HO4 HO5 HO6 HO7 HB HB2 HB3 HB4 HS HS2 HS3 HS4 KC KA KB KT LZ NQ HX c0b c2b0 c2b1 c3b0 c3b1 hj1w hj2w hj3w p1 q1 B3
  go_step3
  go_wp2
  go_loopg [12] (l0.length - n + 1) (fun kq v12 wr => ∃ (i : Int) (L Q : List Int), v12 = .int .i64 i ∧ Aside0 (∃ t : Nat, i = (t : Int) - 1 ∧ kq = t + 1 ∧ t ≤ l0.length - n ∧ DivSt (lv l0 * 2 ^ s) (lv l1 * 2 ^ s) l0.length (n + 1) t L Q) ∧
    Aside0 (Kd.R (Kd.int .u32) 109 wr w.heap.size (fun _ => True) (.slice (some ⟨gl, 0, none⟩) La.length cl) L) ∧ Aside0 (Kd.R (Kd.int .u32) 109 wr w.heap.size (fun _ => True) (.slice (some ⟨gb, 0, none⟩) Y.length cb) Y) ∧
    Aside0 (Kd.R (Kd.int .u32) 109 wr w.heap.size (fun _ => True) (.slice (some ⟨gq, 0, none⟩) Q0.length cq) Q) ∧ Aside0 (Below w.heap.size w wr))
  case atStart => exact ⟨_, La, Q0, rfl, ⟨_, E4.out, rfl, Nat.le_refl _, ST.out⟩, RL, RY, RQ, HB5⟩
  case round =>
    clear RL RY RQ HB5 E4 hj4w ST
    obtain ⟨i, L, Q, rfl, HD, HL, HY, HQ, HB⟩ := hrel
    obtain ⟨t, hi, hk, ht, hd⟩ := HD.out
    cases t with
    | zero =>
      obtain ⟨hn1, hn, hmn, b0, u0, u1, t1, hle⟩ := FN.out
      obtain ⟨x0, x1, x2, s1⟩ := FX.out
      obtain ⟨y1, y2, y3, y4⟩ := FY.out
      have cb0 : decide (0 ≤ i) = false := decide_eq_false (by omega)
      have hl1 : 0 < lv l1 := by have := lv_lower u1 t1 (fun e => by rw [e] at hn1; simp at hn1); have := pow_pos (l1.length - 1); omega
      obtain ⟨dq, dl⟩ := div_done hl1 hd
      obtain ⟨Z, hZ⟩ : ∃ Z, Z = List.replicate ((Y.length : Int)).toNat (0 : Int) := ⟨_, rfl⟩
      have hZl : Z.length = n + 1 := by rw [hZ, List.length_replicate]; omega
      have c0b0 : decide (0 ≤ (Y.length : Int)) = true := decide_eq_true (by omega)
      have c0b1 : (0 ≤ (Y.length : Int)) = True := eq_true (by omega)
      have BZ := Aside0.mk (show 0 ≤ (Y.length : Int) ∧ (Y.length : Int).toNat ≤ 70368744177664 by omega)
      have NZ := Aside0.mk hZ
      have hr0 := Int.emod_nonneg (lv l0) (show lv l1 ≠ 0 by omega)
      have hr1 := Int.emod_lt_of_pos (lv l0) hl1
      have hb1 := lv_lt u1
      have hp2 : (0 : Int) < 2 ^ s := Int.pow_pos (by decide)
      have FD := Aside0.mk (show lv L / 2 ^ s = lv l0 % lv l1 ∧ 0 ≤ lv l0 % lv l1 ∧ lv l0 % lv l1 < 4294967296 ^ l1.length from ⟨by rw [dl, Int.mul_ediv_cancel _ (by omega)], hr0, by omega⟩)
      have FZ := Aside0.mk (show Z.length = n + 1 ∧ Y.length = n + 1 ∧ s < 32 ∧ n + 1 < L.length ∧ U L ∧ l1.length = n + 1 ∧ n + 1 ≤ 1000 ∧ La.length = L.length ∧ lv Z = 0 ∧ U Z from ⟨hZl, y1, s1, by rw [hd.lL]; omega, hd.uL, hn1, by omega, by rw [hd.lL]; exact FL.out.1, by rw [hZ]; exact lv_rep _, by rw [hZ]; exact U_rep _⟩)
      have FE := Aside0.mk (show lv Q = lv l0 / lv l1 ∧ U Q ∧ Q.length ≤ l0.length ∧ Q.length = Q0.length from ⟨dq, hd.uQ, by rw [hd.lQ]; omega, by rw [hd.lQ, FQ.out]; omega⟩)
      have ZZ := Aside0.mk (show ∀ p, Z.getD p 0 = 0 from fun p => by rw [hZ]; exact getD_rep _ _)
      clear hn1 hn hmn b0 u0 u1 t1 hle x0 x1 x2 s1 y1 y2 y3 y4 hl1 dq dl hZ hZl hr0 hr1 hb1 hp2 hi hk ht hd HD
      go_wp2_with (first
        | ((with_reducible refine gate_dst (N := 132) rfl ?_); refine Kd.R_make (Kd.int .u32) _ 109 rfl (N := 132) rfl 39 _ _ rfl (Y.length : Int) rfl rfl Tryz.underlying39 (.int .u32 0) 4 info109 rfl (by decide) (by omega) 0 (ok := fun _ => True) (okp := fun _ => True) rfl (fun _ hk => hk) trivial BZ.out.1 (Nat.le_trans (Nat.mul_le_mul_right _ BZ.out.2) (by omega)) (Below.refl _ _) (Nat.le_refl _) ?_; intro v9 w9 ho hb hg_ hnew_; clear hg_ hnew_; rw [← NZ.out] at ho; have HZ := Aside0.mk ho; have n0_ := Aside0.mk (Kd.R_below HL.out hb); have n1_ := Aside0.mk (Kd.R_below HQ.out hb); have hlt := Kd.R_lt HQ.out gq rfl; have hltl := Kd.R_lt HL.out gl rfl; have hsz := below_size HB.out; have n2_ := Aside0.mk (below_step HB.out hb); clear HL HQ HY HB ho hb; have HL := n0_; have HQ := n1_; have HB := n2_; clear n0_ n1_ n2_; obtain ⟨Az, cz, ez⟩ := Kd.R_slice HZ.out; subst ez))
      obtain ⟨gz, _, ez, _, _, _⟩ := Kd.R_form HZ.out (by rw [FZ.out.1]; omega)
      injection ez with ez1 _ ez3
      subst ez1 ez3
      have gzb := Kd.R_base HZ.out gz rfl
      have GZ := Aside0.mk (show gq < gz ∧ gl < gz ∧ w.heap.size ≤ gz by omega)
      have RZ := Aside0.mk (Kd.R_lower HZ.out hsz)
      clear HZ gzb hlt hltl hsz
      go_loopg [134] (n + 2) (fun kq v134 wj => ∃ (c : Int) (T : List Int), v134 = .int .i64 c ∧ Aside0 (∃ k : Nat, c = (k : Int) ∧ kq + k = n + 2 ∧ k ≤ n + 1 ∧ T.length = n + 1 ∧ U T ∧ (∀ p, k ≤ p → T.getD p 0 = 0) ∧ lv T = lv L / 2 ^ s % 4294967296 ^ k) ∧
        Aside0 (Kd.R (Kd.int .u32) 109 wj w.heap.size (fun _ => True) (.slice (some ⟨gl, 0, none⟩) La.length cl) L) ∧ Aside0 (Kd.R (Kd.int .u32) 109 wj w.heap.size (fun _ => True) (.slice (some ⟨gq, 0, none⟩) Q0.length cq) Q) ∧
        Aside0 (Kd.R (Kd.int .u32) 109 wj w.heap.size (fun _ => True) (.slice (some ⟨gz, 0, none⟩) Z.length cz) T) ∧ Aside0 (Below w.heap.size w wj))
      case atStart => exact ⟨0, Z, rfl, ⟨0, rfl, rfl, by omega, FZ.out.1, FZ.out.2.2.2.2.2.2.2.2.2, fun p _ => ZZ.out p, by rw [Int.pow_zero, Int.emod_one]; exact FZ.out.2.2.2.2.2.2.2.2.1⟩, HL, HQ, RZ, HB⟩
      case round =>
        clear HL HQ HB RZ
        obtain ⟨c, T, rfl, HT, HL, HQ, HZ, HB⟩ := hrel
        obtain ⟨k, hc, hk, hk2, t1, t2, t3, t4⟩ := HT.out
        obtain ⟨z1, z2, z3, z4, z5, z6, z7, z8, _, _⟩ := FZ.out
        by_cases hlt : k < n + 1
        · have cc0 : decide (c < (Y.length : Int)) = true := decide_eq_true (by omega)
          obtain ⟨j11, hj11⟩ : ∃ j_ : Int, (wrap64 (c + 1)) = j_ := ⟨_, rfl⟩
          have hj11w : IntKind.i64.wrap (c + 1) = j11 := (i64_w _).trans hj11
          have e11 : j11 = ((k + 1 : Nat) : Int) := by rw [← hj11]; unfold wrap64; omega
          obtain ⟨hxa, _⟩ := Kd.R_celln 0 HL.out j11 (by omega) (by omega)
          obtain ⟨hxb, _⟩ := Kd.R_celln 0 HL.out c (by omega) (by omega)
          obtain ⟨hxz, hfz⟩ := Kd.R_celln 0 HZ.out c (by omega) (by omega)
          have p1 : (0 ≤ c) = True := eq_true (by omega)
          have q1 : (c < (La.length : Int)) = True := eq_true (by omega)
          have q2 : (c < (Z.length : Int)) = True := eq_true (by omega)
          have p3 : (0 ≤ j11) = True := eq_true (by omega)
          have q3 : (j11 < (La.length : Int)) = True := eq_true (by omega)
          obtain ⟨top, htop⟩ : ∃ top, Go.bits .or .u64 (IntKind.u64.wrap (IntKind.u64.wrap (rdOf 0 L j11) * 4294967296)) (IntKind.u64.wrap (rdOf 0 L c)) = top := ⟨_, rfl⟩
          have et : top = L.getD (k + 1) 0 * 4294967296 + L.getD k 0 := by
            rw [← htop]
            have h5 : rdOf 0 L j11 = L.getD (k + 1) 0 := by rw [e11]; rfl
            have h6 : rdOf 0 L c = L.getD k 0 := by rw [hc]; rfl
            rw [h5, h6]
            exact or64 _ _ (U_get z5 _) (U_get z5 _)
          obtain ⟨val, hval⟩ : ∃ val, IntKind.u32.wrap (top / 2 ^ min s 64) = val := ⟨_, rfl⟩
          have ev : val = lv (L.drop k) / 2 ^ s % 4294967296 := by
            rw [← hval, IntKind.wrap_u32, Nat.min_eq_left (by omega), et]
            exact down_limb z5 k s z3
          have hvU : 0 ≤ val ∧ val < 4294967296 := by rw [ev]; omega
          have HN : Aside0 (j11 = ((k + 1 : Nat) : Int) ∧ (gk - 1) + (k + 1) = n + 2 ∧ k + 1 ≤ n + 1 ∧ (T.set c.toNat val).length = n + 1 ∧ U (T.set c.toNat val) ∧ (∀ p, k + 1 ≤ p → (T.set c.toNat val).getD p 0 = 0) ∧ lv (T.set c.toNat val) = lv L / 2 ^ s % 4294967296 ^ (k + 1)) :=
            ⟨e11, by omega, by omega, by rw [List.length_set]; exact t1, U_set t2 _ _ hvU.1 hvU.2, fun p hp => by rw [getD_set _ _ _ _ (by omega), if_neg (by omega)]; exact t3 p (by omega), by
              rw [show c.toNat = k by omega, ev]
              exact down_step z5 z3 t1 hlt t3 t4 (by omega)⟩
          have HGK := Aside0.mk (show gk - 1 < gk by omega)
          have PC := Aside0.mk (show 0 ≤ c ∧ c < (Z.length : Int) by omega)
          have nzl : some gz ≠ some gl := fun h => by injection h with h; have := GZ.out; omega
          have nzq : some gz ≠ some gq := fun h => by injection h with h; have := GZ.out; omega
          have NE := Aside0.mk (show (some gz ≠ (Value.slice (some ⟨gl, 0, none⟩) La.length cl).ownBlock) ∧ (some gz ≠ (Value.slice (some ⟨gq, 0, none⟩) Q0.length cq).ownBlock) from ⟨nzl, nzq⟩)
          clear nzl nzq
          clear et ev hvU e11 hj11 hc hk hk2 t1 t2 t3 t4 z1 z2 z3 z4 z5 z6 z7 z8 hlt HT
          go_wp2
          go_still_tail 19, (by kernel_rfl)
          change wpList _ _ _ _ _ wr.drew
          generalize hq : wr.drew = w2
          have n0_ := Aside0.mk (show Kd.R (Kd.int .u32) 109 w2 w.heap.size (fun _ => True) (.slice (some ⟨gl, 0, none⟩) La.length cl) L from hq ▸ Kd.R_drew HL.out)
          have n1_ := Aside0.mk (show Kd.R (Kd.int .u32) 109 w2 w.heap.size (fun _ => True) (.slice (some ⟨gq, 0, none⟩) Q0.length cq) Q from hq ▸ Kd.R_drew HQ.out)
          have n2_ := Aside0.mk (show Kd.R (Kd.int .u32) 109 w2 w.heap.size (fun _ => True) (.slice (some ⟨gz, 0, none⟩) Z.length cz) T from hq ▸ Kd.R_drew HZ.out)
          have n3_ := Aside0.mk (show Below w.heap.size w w2 from hq ▸ below_drew HB.out)
          clear HL HQ HZ HB hq hxa hxb hxz hfz
          have HL := n0_
          have HQ := n1_
          have HZ := n2_
          have HB := n3_
          clear n0_ n1_ n2_ n3_
          obtain ⟨hx13, hf13⟩ := Kd.R_celln 0 HZ.out c PC.out.1 PC.out.2
          have HP13 := Kd.R_putg HZ.out c val
          go_wp2
          go_roundg (gk - 1)
          case measure => exact HGK.out
          case rel => exact ⟨j11, T.set c.toNat val, rfl, ⟨k + 1, HN.out⟩, ⟨Kd.R_grown1 HL.out rfl HP13.2 NE.out.1⟩, ⟨Kd.R_grown1 HQ.out rfl HP13.2 NE.out.2⟩, ⟨HP13.1⟩, ⟨below_set HB.out GZ.out.2.2⟩⟩
        · have cc0 : decide (c < (Y.length : Int)) = false := decide_eq_false (by omega)
          have hkn : k = n + 1 := by omega
          obtain ⟨d1, d2, d3⟩ := FD.out
          obtain ⟨q1, q2, q3, q4⟩ := FE.out
          rw [hkn, d1, ← z6, Int.emod_eq_of_lt d2 d3] at t4
          obtain ⟨ka, hka⟩ := (trim_ev Q.length Q rfl (by have := FN.out; omega) q2).rounds
          obtain ⟨kb, hkb⟩ := (trim_ev T.length T rfl (by omega) t2).rounds
          have n1 := lv_nonneg q2
          have n2 := lv_lt q2
          have eq1 : lim Q.length (lv Q) = lim l0.length (lv l0 / lv l1) := by
            rw [← q1]
            exact lim_more n1 n2 (Int.lt_of_lt_of_le n2 (pow_le q3))
          have eq2 : lim T.length (lv T) = lim l1.length (lv l0 % lv l1) := by rw [t4, t1, z6]
          rw [eq1] at hka
          rw [eq2] at hkb
          obtain ⟨r1, hr1⟩ : ∃ r, lim l0.length (lv l0 / lv l1) = r := ⟨_, rfl⟩
          obtain ⟨r2, hr2⟩ : ∃ r, lim l1.length (lv l0 % lv l1) = r := ⟨_, rfl⟩
          rw [hr1] at hka
          rw [hr2] at hkb
          have HR := Aside0.mk (And.intro hr1 hr2)
          have KA := Aside0.mk hka
          have KB := Aside0.mk hkb
          have QL := Aside0.mk (show Q.length = Q0.length ∧ T.length = Z.length by omega)
          clear hka hkb hr1 hr2 eq1 eq2 n1 n2 t1 t2 t3 t4 q1 q2 q3 q4 d1 d2 d3 hkn hc hk hk2 z1 z2 z3 z4 z5 z6 z7 z8 hlt HT
          go_wp2_with (first
            | (go_at_call 167; rw [← QL.out.1]; (with_reducible refine (trim_same ka _ _ Q r1 _ (Kd.R_reads' HQ.out).2.2 (by have := (Kd.R_reads' HQ.out).2.1; have := QL.out; omega) KA.out).mono ?_); rintro e w5 ⟨m5, rfl, hm5, hb⟩; have n0_ := Aside0.mk (Kd.R_below (R_cut HQ.out hm5) hb); have n1_ := Aside0.mk (Kd.R_below HZ.out hb); have n2_ := Aside0.mk (below_step HB.out hb); clear HQ HZ HB hb hm5; have HQ' := n0_; have HZ := n1_; have HB := n2_; clear n0_ n1_ n2_)
            | (go_at_call 167; rw [← QL.out.2]; (with_reducible refine (trim_same kb _ _ T r2 _ (Kd.R_reads' HZ.out).2.2 (by have := (Kd.R_reads' HZ.out).2.1; have := QL.out; omega) KB.out).mono ?_); rintro e w6 ⟨m6, rfl, hm6, hb⟩; have n0_ := Aside0.mk (Kd.R_below HQ'.out hb); have n1_ := Aside0.mk (Kd.R_below (R_cut HZ.out hm6) hb); have n2_ := Aside0.mk (below_step HB.out hb); clear HQ' HZ HB hb hm6; have HQ' := n0_; have HZ' := n1_; have HB := n2_; clear n0_ n1_ n2_))
          rw [Exit.noGoto_ret]
          go_ret2
          rw [HR.out.1, HR.out.2]
          exact two_mk HQ'.out HZ'.out (fun k hk he => by
            have h1 : some gq = some k := hk
            have h2 : some gz = some k := he
            injection h1 with h1
            injection h2 with h2
            have := GZ.out
            omega) HB.out
    | succ t =>
      obtain ⟨hn1, hn, hmn, b0, u0, u1, t1, hle⟩ := FN.out
      obtain ⟨x0, x1, x2, s1⟩ := FX.out
      obtain ⟨y1, y2, y3, y4⟩ := FY.out
      have hit : i = (t : Int) := by omega
      have htm : t + (n + 1) ≤ l0.length := by omega
      have hlaL := FL.out.1
      have hqq := FQ.out
      obtain ⟨j5, hj5⟩ : ∃ j_ : Int, (wrap64 (i + (Y.length : Int))) = j_ := ⟨_, rfl⟩
      have hj5w : IntKind.i64.wrap (i + (Y.length : Int)) = j5 := (i64_w _).trans hj5
      have e5 : j5 = ((t + n + 1 : Nat) : Int) := by rw [← hj5]; unfold wrap64; omega
      obtain ⟨j6, hj6⟩ : ∃ j_ : Int, (wrap64 (j5 - 1)) = j_ := ⟨_, rfl⟩
      have hj6w : IntKind.i64.wrap (j5 - 1) = j6 := (i64_w _).trans hj6
      have e6 : j6 = ((t + n : Nat) : Int) := by rw [← hj6]; unfold wrap64; omega
      obtain ⟨j7, hj7⟩ : ∃ j_ : Int, (wrap64 ((Y.length : Int) - 1)) = j_ := ⟨_, rfl⟩
      have hj7w : IntKind.i64.wrap ((Y.length : Int) - 1) = j7 := (i64_w _).trans hj7
      have e7 : j7 = (n : Int) := by rw [← hj7]; unfold wrap64; omega
      obtain ⟨j8, hj8⟩ : ∃ j_ : Int, (wrap64 (j5 + 1)) = j_ := ⟨_, rfl⟩
      have hj8w : IntKind.i64.wrap (j5 + 1) = j8 := (i64_w _).trans hj8
      have e8 : j8 = ((t + n + 2 : Nat) : Int) := by rw [← hj8]; unfold wrap64; omega
      obtain ⟨hx5, _⟩ := Kd.R_celln 0 HL.out j5 (by omega) (by omega)
      obtain ⟨hx6, _⟩ := Kd.R_celln 0 HL.out j6 (by omega) (by omega)
      obtain ⟨hx7, _⟩ := Kd.R_celln 0 HY.out j7 (by omega) (by omega)
      have cb0 : decide (0 ≤ i) = true := decide_eq_true (by omega)
      have p5 : (0 ≤ j5) = True := eq_true (by omega)
      have q5 : (j5 < (La.length : Int)) = True := eq_true (by omega)
      have p6 : (0 ≤ j6) = True := eq_true (by omega)
      have q6 : (j6 < (La.length : Int)) = True := eq_true (by omega)
      have p7 : (0 ≤ j7) = True := eq_true (by omega)
      have q7 : (j7 < (Y.length : Int)) = True := eq_true (by omega)
      have u5 := (U_rd hd.uL j5)
      have u6 := (U_rd hd.uL j6)
      obtain ⟨top, htop⟩ : ∃ top, Go.bits .or .u64 (IntKind.u64.wrap (IntKind.u64.wrap (rdOf 0 L j5) * 4294967296)) (IntKind.u64.wrap (rdOf 0 L j6)) = top := ⟨_, rfl⟩
      have et : top = L.getD (t + n + 1) 0 * 4294967296 + L.getD (t + n) 0 := by
        rw [← htop]
        have h5 : rdOf 0 L j5 = L.getD (t + n + 1) 0 := by rw [e5]; rfl
        have h6 : rdOf 0 L j6 = L.getD (t + n) 0 := by rw [e6]; rfl
        rw [h5, h6]
        exact or64 _ _ (U_get hd.uL _) (U_get hd.uL _)
      obtain ⟨yt, hyt⟩ : ∃ yt, IntKind.u64.wrap (rdOf 0 Y j7) = yt := ⟨_, rfl⟩
      have ey : yt = Y.getD n 0 ∧ 0 < yt := by
        have h7 : rdOf 0 Y j7 = Y.getD n 0 := by rw [e7]; rfl
        have hu := U_get y4 n
        rw [← hyt, h7, wrapu64 _ hu.1 (by omega)]
        have := (Tr_last y1).1 y3
        exact ⟨rfl, by omega⟩
      have hy0 : 0 < yt := ey.2
      have hyn : (yt == 0) = false := beq_eq_false_iff_ne.mpr (by omega)
      have hyf : (yt = 0) = False := eq_false (by omega)
      have ht0 : 0 ≤ top := by rw [et]; have := U_get hd.uL (t + n + 1); have := U_get hd.uL (t + n); omega
      obtain ⟨g0, hg0⟩ : ∃ g0, min (IntKind.u64.wrap (top.tdiv yt)) 4294967295 = g0 := ⟨_, rfl⟩
      have ET := Aside0.mk et
      have GU := Aside0.mk hg0
      have EY := Aside0.mk ey
      clear et ey u5 u6
      -- the part
      obtain ⟨P, hP⟩ : ∃ P, (L.take (t + (n + 1) + 1)).drop t = P := ⟨_, rfl⟩
      have hPl : P.length = n + 2 := by rw [← hP, List.length_drop, List.length_take, hd.lL]; omega
      have hcl : La.length ≤ cl := (Kd.R_reads' HL.out).2.1
      obtain ⟨i0, hi0, _, hsz, _⟩ := info_parts info109
      have hcut := cut_mid (P := Tryz.prog) 39 109 .i64 .i64 Tryz.underlying39 hi0 1 hsz (some ⟨gl, 0, none⟩) La.length cl i j8 (by omega) (by omega) (by omega) hcl
      rw [if_neg (by omega), Option.map_some, Nat.mul_one, add_plain, show j8.toNat - i.toNat = P.length by omega] at hcut
      clear hi0 hsz
      have hPC : Kd.C (Kd.int .u32) wr (some ⟨gl, i.toNat, none⟩) P.length P := by
        have := Kd.C_mid (c := cl) (lo := t) (hi := t + (n + 1) + 1) (Kd.R_reads' HL.out).2.2 (by omega) (by rw [hd.lL]; omega) (by rw [hd.lL]; omega)
        rw [if_neg (by omega), Option.map_some, hP, add_plain] at this
        have e : t * (Kd.int .u32).sz = i.toNat := by show t * 1 = _; omega
        rwa [e] at this
      have HPC := Aside0.mk hPC
      have HPl := Aside0.mk (And.intro hPl (And.intro hP hcl))
      clear hPC hPl hP hcl
      have HKO := Aside0.mk (show t + 1 < gk ∧ t ≤ l0.length - n by omega)
      have E5 := Aside0.mk (And.intro hit (And.intro e5 (And.intro e6 (And.intro e7 (And.intro e8 (And.intro htm hd))))))
      clear hn1 hn hmn b0 u0 u1 t1 hle x0 x1 x2 s1 y1 y2 y3 y4 hit htm hlaL hqq e5 e6 e7 e8 hi hk ht hd hj5 hj6 hj7 hj8
      go_wp2
      go_quiet (fail)
      go_wp2_with (fail)
      generalize hq : World.drewN wr _ = w2
      have HD := Aside0.mk (DW.mk (Kd.R_at hq HL.out) (Kd.R_at hq HY.out) (Kd.R_at hq HQ.out) (Kd.C_at hq HPC.out) (below_at hq HB.out))
      clear HL HY HQ HB HPC hq hx5 hx6 hx7 hcut p5 q5 p6 q6 p7 q7 hj6w hj7w hj8w hyn hyf htop hyt hg0 cb0
      obtain ⟨hit, e5, e6, e7, e8, htm, hd⟩ := E5.out
      obtain ⟨y1, y2, y3, y4⟩ := FY.out
      obtain ⟨f1, f2, f3, f4, f5, f6⟩ := part_facts hd (by have := FX.out.2.2.1; omega) (by have := FX.out.2.1; have := pow_pos n; omega) htm
      rw [HPl.out.2.1] at f1 f2 f3 f4
      obtain ⟨D, hD⟩ : ∃ D, lv P / lv Y = D := ⟨_, rfl⟩
      have hpn := lv_nonneg f2
      have hY0 : 0 < lv Y := by rw [y2]; have := FX.out.2.1; have := pow_pos n; omega
      have hD0 : 0 ≤ D := by rw [← hD]; exact Int.ediv_nonneg hpn (by omega)
      have hGG : D ≤ g0 ∧ g0 < 4294967296 := by
        rw [← hD]
        have hg := GU.out
        rw [ET.out, EY.out.1] at hg
        exact guess_ok hd.uL y4 y1 rfl (by have := EY.out; omega) (by rw [hd.lL]; omega) HPl.out.2.1 hY0 (by rw [y2]; exact f4) g0 hg
      have hDg := hGG.1
      have hg1 := hGG.2
      have HG := Aside0.mk (And.intro hD (And.intro hD0 (And.intro hY0 (And.intro f2 hpn))))
      have hki : ((g0 - D + 1).toNat : Int) = g0 - D + 1 := by omega
      have KI := Aside0.mk (And.intro hki (And.intro hDg hg1))
      clear hit e5 e6 e7 e8 htm hd y1 y2 y3 y4 f1 f2 f3 f4 f5 f6 hpn hY0 hD0 hDg hg1 hki hD ht0 hy0 hGG
      go_loopg [14] (g0 - D + 1).toNat (fun kg v14 wi => ∃ g : Int, v14 = .int .u64 g ∧ Aside0 (D ≤ g ∧ g < 4294967296 ∧ (kg : Int) = g - D + 1) ∧ Aside0 (DW w gl La.length cl gb cb gq Q0.length cq i.toNat L Y Q P wi))
      case atStart => exact ⟨g0, rfl, ⟨KI.out.2.1, KI.out.2.2, KI.out.1⟩, HD⟩
      case round =>
        clear KI HD
        obtain ⟨g, rfl, HI, HD⟩ := hrel
        obtain ⟨hD, hD0, hY0, hPU, hpn⟩ := HG.out
        obtain ⟨i1, i2, i3⟩ := HI.out
        obtain ⟨kq, rfl⟩ : ∃ m, gk = m + 1 := ⟨gk - 1, by omega⟩
        obtain ⟨ko, kt, kp, kc, G2, O, TP, hko, hkt, hkp, hkc, hmi⟩ := inner_pure g Y P FY.out.2.2.2 hPU (by omega) i2 (by have := FY.out.1; have := FN.out; omega) (by have := HPl.out.1; have := FN.out; omega)
        have KO := Aside0.mk hko
        have KT := Aside0.mk hkt
        have KP := Aside0.mk hkp
        have hKL : slices_Clone_uint32_uint32.f P = some P := by unfold slices_Clone_uint32_uint32.f; rw [if_pos (by have := HPl.out.1; have := FN.out; omega)]
        have KL := Aside0.mk hKL
        have hPc : P.length ≤ cl - i.toNat := by have := HPl.out; have := E5.out.1; have := FL.out.1; have := FN.out; have := E5.out.2.2.2.2.2.1; omega
        have PC := Aside0.mk hPc
        obtain ⟨c2, hc2⟩ : ∃ c, cmpI (g * lv Y) (lv P) = c := ⟨_, rfl⟩
        rw [hc2] at hkc
        have KC := Aside0.mk hkc
        have hdiv := mul_le_iff_div (V := lv P) (g := g) hY0
        rw [hD] at hdiv
        have hcl := cmp_le (a := g * lv Y) (b := lv P)
        rw [hc2] at hcl
        by_cases hgd : D < g
        · have hcc : c2 = 1 := hcl.2 (hdiv.1 hgd)
          have c4b : decide (c2 ≤ 0) = false := decide_eq_false (by omega)
          obtain ⟨g', hg'⟩ : ∃ g', IntKind.u64.wrap (g - 1) = g' := ⟨_, rfl⟩
          have eg' : g' = g - 1 := by rw [← hg', wrapu64 _ (by omega) (by omega)]
          have NX := Aside0.mk (show D ≤ g' ∧ g' < 4294967296 ∧ (kq : Int) = g' - D + 1 by omega)
          clear hdiv hcl hgd hcc hc2 hkc hKL hPc hko hkt hkp hmi hD hD0 hY0 hPU hpn i1 i2 i3 eg'
          go_wp2_with (first
            | (go_at_call 137; (with_reducible refine (nat_Of.rows ko g G2 _ KO.out).mono ?_); rintro e w3 ⟨v3, rfl, ho, hb⟩; have n0_ := Aside0.mk (HD.out.below hb); clear HD; have HD := n0_; have HO := Aside0.mk ho; clear n0_ ho hb; obtain ⟨Ao, co, eo⟩ := Kd.R_slice HO.out; subst eo)
            | (go_at_call 136; (with_reducible refine (nat_times.calls kt _ _ G2 _ _ Y O _ (Kd.R_reads' HO.out).2.2 (Kd.R_reads' HO.out).2.1 (Kd.R_reads' HD.out.y).2.2 (Kd.R_reads' HD.out.y).2.1 KT.out).mono ?_); rintro e w4 ⟨v4, rfl, ho, hb⟩; have n0_ := Aside0.mk (HD.out.below hb); clear HD HO; have HD := n0_; have HO := Aside0.mk ho; clear n0_ ho hb; obtain ⟨At, ct, et⟩ := Kd.V_slice HO.out; subst et)
            | (go_at_call 90; (with_reducible refine (slices_Clone_uint32_uint32.calls _ _ P P _ HD.out.p PC.out KL.out).mono ?_); rintro e w5 ⟨v5, rfl, ho, hb⟩; have n0_ := Aside0.mk (HD.out.below hb); have n1_ := Aside0.mk (Kd.V_below HO.out hb); clear HD HO; have HD := n0_; have HO := n1_; have HO5 := Aside0.mk ho; clear n0_ n1_ ho hb; obtain ⟨Ac, cc5, ec⟩ := Kd.R_slice HO5.out; subst ec)
            | (go_at_call 167; (with_reducible refine (trim_same kp _ _ P TP _ (Kd.R_reads' HO5.out).2.2 (Kd.R_reads' HO5.out).2.1 KP.out).mono ?_); rintro e w6 ⟨m6, rfl, hm6, hb⟩; (obtain rfl : m6 = TP.length := by rw [hm6.2, List.length_take]; omega); have n0_ := Aside0.mk (HD.out.below hb); have n1_ := Aside0.mk (Kd.V_below HO.out hb); have n2_ := Aside0.mk (Kd.R_below (R_cut HO5.out hm6) hb); clear HD HO HO5; have HD := n0_; have HO := n1_; have HO6 := n2_; clear n0_ n1_ n2_ hm6 hb)
            | (go_at_call 187; (with_reducible refine (nat_compare.calls kc _ _ O _ _ TP c2 _ (Kd.V_reads' HO.out).2.2 (Kd.V_reads' HO.out).2.1 (Kd.R_reads' HO6.out).2.2 (Kd.R_reads' HO6.out).2.1 KC.out).mono ?_); rintro e w7 ⟨rfl, hb⟩; have n0_ := Aside0.mk (HD.out.below hb); clear HD HO HO6; have HD := n0_; clear n0_ hb))
          go_roundg kq
          case measure => omega
          case rel => exact ⟨g', rfl, NX, HD⟩
        · have hge : g = D := by omega
          obtain ⟨km, R, hkm, hRU, hRl, hRv⟩ := hmi (hdiv.2 (by omega))
          have KM := Aside0.mk hkm
          have hcc : c2 ≤ 0 := hcl.1 (hdiv.2 (by omega))
          have c4b : decide (c2 ≤ 0) = true := decide_eq_true hcc
          obtain ⟨hn1, hn, hmn, b0, u0, u1, t1, hle⟩ := FN.out
          obtain ⟨hit, e5, e6, e7, e8, htm, hd⟩ := E5.out
          obtain ⟨y1, y2, y3, y4⟩ := FY.out
          obtain ⟨hPl, hP, hcl'⟩ := HPl.out
          obtain ⟨glb, gbq, wgl⟩ := GG.out
          obtain ⟨j9, hj9⟩ : ∃ j_ : Int, (wrap64 ((Y.length : Int) + 1)) = j_ := ⟨_, rfl⟩
          have hj9w : IntKind.i64.wrap ((Y.length : Int) + 1) = j9 := (i64_w _).trans hj9
          have e9 : j9 = ((n + 2 : Nat) : Int) := by rw [← hj9]; unfold wrap64; omega
          obtain ⟨Z, hZ⟩ : ∃ Z, Z = List.replicate j9.toNat (0 : Int) := ⟨_, rfl⟩
          have hZl : Z.length = n + 2 := by rw [hZ, List.length_replicate]; omega
          obtain ⟨L1, hL1⟩ : ∃ L1, L1 = L.take i.toNat ++ (Z.take (min Z.length P.length) ++ L.drop (i.toNat + min Z.length P.length)) := ⟨_, rfl⟩
          obtain ⟨L2, hL2⟩ : ∃ L2, L2 = L1.take i.toNat ++ (R.take (min R.length P.length) ++ L1.drop (i.toNat + min R.length P.length)) := ⟨_, rfl⟩
          have hLl := hd.lL
          have hin : i.toNat = t := by omega
          have hL2' : L2 = L.take t ++ ((R ++ Z.drop R.length) ++ L.drop (t + (n + 1) + 1)) := by
            rw [hL2, hL1, hin, hPl]
            exact copy_twice L Z R t (n + 2) hZl (by omega) (by omega)
          have hL1l : L1.length = L.length := by
            rw [hL1, List.length_append, List.length_append, List.length_take, List.length_take, List.length_drop]
            omega
          have NZ := Aside0.mk hZ
          have NL1 := Aside0.mk hL1
          have NL2 := Aside0.mk hL2
          have c5b0 : decide (0 ≤ j9) = true := decide_eq_true (by omega)
          have c5b1 : (0 ≤ j9) = True := eq_true (by omega)
          have B9 := Aside0.mk (show 0 ≤ j9 ∧ j9.toNat ≤ 70368744177664 by omega)
          have FIT := Aside0.mk (show i.toNat + P.length ≤ L.length ∧ i.toNat + P.length ≤ L1.length by omega)
          have KIN := Aside0.mk (show (Tryz.prog.info? 109).map (·.size) = some 1 by kernel_rfl)
          have nlb : some gl ≠ some gb := fun h => by injection h with h; omega
          have nlq : some gl ≠ some gq := fun h => by injection h with h; omega
          have nqb : some gq ≠ some gb := fun h => by injection h with h; omega
          have nql : some gq ≠ some gl := fun h => by injection h with h; omega
          have GN := Aside0.mk (show (some gl ≠ (Value.slice (some ⟨gb, 0, none⟩) Y.length cb).ownBlock) ∧ (some gl ≠ (Value.slice (some ⟨gq, 0, none⟩) Q0.length cq).ownBlock) ∧ (some gq ≠ (Value.slice (some ⟨gb, 0, none⟩) Y.length cb).ownBlock) ∧ (some gq ≠ (Value.slice (some ⟨gl, 0, none⟩) La.length cl).ownBlock) ∧ True ∧ w.heap.size ≤ gq from ⟨nlb, nlq, nqb, nql, trivial, by omega⟩)
          have hqq := FQ.out
          have p13 : (0 ≤ i) = True := eq_true (by omega)
          have q13 : (i < (Q0.length : Int)) = True := eq_true (by omega)
          have PI := Aside0.mk (show decide (0 ≤ i) = true ∧ decide (i < (Q0.length : Int)) = true from ⟨decide_eq_true (by omega), decide_eq_true (by omega)⟩)
          have hgm : g % 4294967296 = g := by omega
          obtain ⟨j10, hj10⟩ : ∃ j_ : Int, (wrap64 (i - 1)) = j_ := ⟨_, rfl⟩
          have hj10w : IntKind.i64.wrap (i - 1) = j10 := (i64_w _).trans hj10
          have e10 : j10 = (t : Int) - 1 := by rw [← hj10]; unfold wrap64; omega
          have E10 := Aside0.mk e10
          have HN : Aside0 (DivSt (lv l0 * 2 ^ s) (lv l1 * 2 ^ s) l0.length (n + 1) t L2 (Q.set i.toNat g)) := ⟨by
            have hr := round_end hd (by have := FX.out.2.2.1; omega) (by have := FX.out.2.1; have := pow_pos n; omega) htm (by omega) (R ++ Z.drop R.length) (by rw [List.length_append, List.length_drop]; omega)
              (U_app.2 ⟨hRU, by rw [hZ]; exact U_drop (U_rep _) _⟩) (by rw [hZ, List.drop_replicate, lv_app_rep, hRv, hP, ← y2, hge, ← hD, Int.emod_def, Int.mul_comm (lv Y)])
            rw [hP, ← y2, hD] at hr
            rw [hL2', hin, hge, ← y2]
            exact hr⟩
          clear hdiv hcl hgd hcc hc2 hkc hKL hPc hko hkt hkp hmi hD hD0 hY0 hPU hpn i1 i2 i3 hge hkm hRU hRl hRv hn1 hn hmn b0 u0 u1 t1 hle hit e5 e6 e7 e8 htm hd y1 y2 y3 y4 hPl hP hcl' glb gbq wgl hj9 e9 hZ hZl hL1 hL2 hLl hin hL2' hL1l nlb nlq nqb nql hqq hj10 e10
          go_wp2_with (first
            | (go_at_call 137; (with_reducible refine (nat_Of.rows ko g G2 _ KO.out).mono ?_); rintro e w3 ⟨v3, rfl, ho, hb⟩; have n0_ := Aside0.mk (HD.out.below hb); clear HD; have HD := n0_; have HO := Aside0.mk ho; clear n0_ ho hb; obtain ⟨Ao, co, eo⟩ := Kd.R_slice HO.out; subst eo)
            | (go_at_call 136; (with_reducible refine (nat_times.calls kt _ _ G2 _ _ Y O _ (Kd.R_reads' HO.out).2.2 (Kd.R_reads' HO.out).2.1 (Kd.R_reads' HD.out.y).2.2 (Kd.R_reads' HD.out.y).2.1 KT.out).mono ?_); rintro e w4 ⟨v4, rfl, ho, hb⟩; have n0_ := Aside0.mk (HD.out.below hb); clear HD HO; have HD := n0_; have HO := Aside0.mk ho; clear n0_ ho hb; obtain ⟨At, ct, et⟩ := Kd.V_slice HO.out; subst et)
            | (go_at_call 90; (with_reducible refine (slices_Clone_uint32_uint32.calls _ _ P P _ HD.out.p PC.out KL.out).mono ?_); rintro e w5 ⟨v5, rfl, ho, hb⟩; have n0_ := Aside0.mk (HD.out.below hb); have n1_ := Aside0.mk (Kd.V_below HO.out hb); clear HD HO; have HD := n0_; have HO := n1_; have HO5 := Aside0.mk ho; clear n0_ n1_ ho hb; obtain ⟨Ac, cc5, ec⟩ := Kd.R_slice HO5.out; subst ec)
            | (go_at_call 167; (with_reducible refine (trim_same kp _ _ P TP _ (Kd.R_reads' HO5.out).2.2 (Kd.R_reads' HO5.out).2.1 KP.out).mono ?_); rintro e w6 ⟨m6, rfl, hm6, hb⟩; (obtain rfl : m6 = TP.length := by rw [hm6.2, List.length_take]; omega); have n0_ := Aside0.mk (HD.out.below hb); have n1_ := Aside0.mk (Kd.V_below HO.out hb); have n2_ := Aside0.mk (Kd.R_below (R_cut HO5.out hm6) hb); clear HD HO HO5; have HD := n0_; have HO := n1_; have HO6 := n2_; clear n0_ n1_ n2_ hm6 hb)
            | (go_at_call 187; (with_reducible refine (nat_compare.calls kc _ _ O _ _ TP c2 _ (Kd.V_reads' HO.out).2.2 (Kd.V_reads' HO.out).2.1 (Kd.R_reads' HO6.out).2.2 (Kd.R_reads' HO6.out).2.1 KC.out).mono ?_); rintro e w7 ⟨rfl, hb⟩; have n0_ := Aside0.mk (HD.out.below hb); have n1_ := Aside0.mk (Kd.V_below HO.out hb); clear HD HO HO6; have HD := n0_; have HO := n1_; clear n0_ n1_ hb)
            | (go_at_call 191; (with_reducible refine (nat_minus.calls km _ _ P _ _ O R _ HD.out.p PC.out (Kd.V_reads' HO.out).2.2 (Kd.V_reads' HO.out).2.1 KM.out).mono ?_); rintro e w8 ⟨v8, rfl, ho, hb⟩; have hlt := Kd.R_lt HD.out.l gl rfl; have HR := Aside0.mk (Kd.V_mono (ok' := fun k => some k ≠ some gl) ho (fun k hk he => by injection he with he; omega)); have n0_ := Aside0.mk (HD.out.below hb); clear HD HO hlt; have HD := n0_; clear n0_ ho hb; obtain ⟨Ar, cr, er⟩ := Kd.V_slice HR.out; subst er)
            | ((with_reducible refine gate_dst (N := 119) rfl ?_); refine Kd.R_make (Kd.int .u32) _ 109 rfl (N := 119) rfl 39 _ _ rfl j9 rfl rfl Tryz.underlying39 (.int .u32 0) 4 info109 rfl (by decide) (by omega) 0 (ok := fun _ => True) (okp := fun _ => True) rfl (fun _ hk => hk) trivial B9.out.1 (Nat.le_trans (Nat.mul_le_mul_right _ B9.out.2) (by omega)) (Below.refl _ _) (Nat.le_refl _) ?_; intro v9 w9 ho hb hg_ hnew_; clear hg_ hnew_; rw [← NZ.out] at ho; have HZ := Aside0.mk ho; have n0_ := Aside0.mk (HD.out.below hb); have n1_ := Aside0.mk (Kd.V_below HR.out hb); clear HD HR; have HD := n0_; have HR := n1_; clear n0_ n1_ ho hb; obtain ⟨Az, cz, ez⟩ := Kd.R_slice HZ.out; subst ez)
            | ((with_reducible refine gate_builtin (b := .copy) (xs := #[.tmp 116, .tmp 119]) rfl ?_); refine R_copy_at (enc := Value.int .u32) (h1 := fun _ => rfl) (0 : Int) w.heap.size rfl (.tmp 116) (.tmp 119) 39 39 109 rfl Tryz.underlying39 KIN.out gl i.toNat P.length (cl - i.toNat) La.length cl L Z Az Z.length cz (fun _ => True) rfl rfl HD.out.l (Kd.R_reads' HZ.out).2.2 HD.out.b (below_size HD.out.b) FIT.out.1 ?_; intro w10 ho hb hg; rw [← NL1.out] at ho; have HL := Aside0.mk (ho : Kd.R (Kd.int .u32) 109 w10 w.heap.size (fun _ => True) (.slice (some ⟨gl, 0, none⟩) La.length cl) L1); have HB := Aside0.mk hb; have HY := Aside0.mk (Kd.R_grown1 HD.out.y rfl hg GN.out.1); have HQ := Aside0.mk (Kd.R_grown1 HD.out.q rfl hg GN.out.2.1); have n1_ := Aside0.mk (Kd.V_grown HR.out hg (fun _ hk => hk)); clear HD HR HZ; have HR := n1_; clear n1_ ho hb hg)
            | ((with_reducible refine gate_builtin (b := .copy) (xs := #[.tmp 121, .tmp 122]) rfl ?_); refine R_copy_at (enc := Value.int .u32) (h1 := fun _ => rfl) (0 : Int) w.heap.size rfl (.tmp 121) (.tmp 122) 39 39 109 rfl Tryz.underlying39 KIN.out gl i.toNat P.length (cl - i.toNat) La.length cl L1 R Ar R.length cr (fun _ => True) rfl rfl HL.out (Kd.V_reads' HR.out).2.2 HB.out (below_size HB.out) FIT.out.2 ?_; intro w11 ho hb hg; rw [← NL2.out] at ho; have n0_ := Aside0.mk (ho : Kd.R (Kd.int .u32) 109 w11 w.heap.size (fun _ => True) (.slice (some ⟨gl, 0, none⟩) La.length cl) L2); have n1_ := Aside0.mk hb; have n2_ := Aside0.mk (Kd.R_grown1 HY.out rfl hg GN.out.1); have n3_ := Aside0.mk (Kd.R_grown1 HQ.out rfl hg GN.out.2.1); clear HL HB HY HQ HR; have HL := n0_; have HB := n1_; have HY := n2_; have HQ := n3_; clear n0_ n1_ n2_ n3_ ho hb hg; obtain ⟨hx13, hf13⟩ := Kd.R_celln 0 HQ.out i (of_decide_eq_true PI.out.1) (of_decide_eq_true PI.out.2); have HP13 := Kd.R_putg HQ.out i g))
          go_roundg (t + 1)
          case measure => have := HKO.out; omega
          case rel => exact ⟨j10, L2, Q.set i.toNat g, rfl, ⟨t, E10.out, rfl, HKO.out.2, HN.out⟩, ⟨Kd.R_grown1 HL.out rfl HP13.2 GN.out.2.2.2.1⟩, ⟨Kd.R_grown1 HY.out rfl HP13.2 GN.out.2.2.1⟩, ⟨HP13.1⟩, ⟨below_set HB.out GN.out.2.2.2.2.2⟩⟩
theorem nat_divide.calls (A0 : Option Addr) (c0 : Nat) (l0 : List Int) (A1 : Option Addr) (c1 : Nat) (l1 : List Int) (r1 r2 : List Int) (w : World) (hr0 : Kd.C (Kd.int .u32) w A0 l0.length l0) (hc0 : l0.length ≤ c0) (hr1 : Kd.C (Kd.int .u32) w A1 l1.length l1) (hc1 : l1.length ≤ c1) (h : nat_divide.f l0 l1 = some (r1, r2)) :
    Calls Tryz.prog 164 #[.slice A0 l0.length c0, .slice A1 l1.length c1] w fun e w' => ∃ v0_ v1_ : Value, e = .returned (.tuple #[v0_, v1_]) ∧ Kd.R (Kd.int .u32) 109 w' w.heap.size (fun k_ => some k_ ≠ v1_.ownBlock) v0_ r1 ∧ Kd.R (Kd.int .u32) 109 w' w.heap.size (fun k_ => some k_ ≠ v0_.ownBlock) v1_ r2 ∧ Below w.heap.size w w' := by
  unfold nat_divide.f at h
  by_cases hok : divOk l0 l1
  case neg => rw [if_neg hok] at h; cases h
  rw [if_pos hok] at h
  injection h with h
  injection h with h1 h2
  subst h1 h2
  rcases Int.lt_or_le (lv l0) (lv l1) with hlt | hle
  · exact divide_less A0 c0 l0 A1 c1 l1 w hr0 hc0 hr1 hc1 hok hlt
  · rcases Nat.lt_or_ge 1 l1.length with hn | hn
    · exact divide_many A0 c0 l0 A1 c1 l1 w hr0 hc0 hr1 hc1 hok hle (l1.length - 1) (by omega) (by omega)
    · have hne : l1.length ≠ 0 := fun e => hok.2.2.2.2.1 (List.eq_nil_of_length_eq_zero e)
      exact divide_one A0 c0 l0 A1 c1 l1 w hr0 hc0 hr1 hc1 hok hle (by omega)
end Go.Proofs.YtioofhilohmfbaaGreatDoor.P
end
section
namespace Go.Proofs.YtioofhilohmfbaaGreatDoor.P
open Go.RowKit Go.Proofs.YtioofhilohmfbaaGreatDoorW.PrintWords Go.Proofs.YtioofhilohmfbaaGreatDoorW.PrintLast Go.Proofs.YtioofhilohmfbaaGreatDoorW.PrintMore
attribute [local go_sem] max2_int min2_int max_two min_two max_three min_three max_four min_four
set_option linter.unusedVariables false
set_option linter.unusedSimpArgs false
/-! ### bits_Add32: function 166 -/
def bits_Add32.f (a0 : Int) (a1 : Int) (a2 : Int) : Option (Int × Int) := some ((IntKind.u64.wrap ((IntKind.u64.wrap ((IntKind.u64.wrap (a0)) + (IntKind.u64.wrap (a1)))) + (IntKind.u64.wrap (a2)))) % 4294967296, ((IntKind.u64.wrap ((IntKind.u64.wrap ((IntKind.u64.wrap (a0)) + (IntKind.u64.wrap (a1)))) + (IntKind.u64.wrap (a2)))) / 4294967296) % 4294967296)
set_option maxHeartbeats 8000000 in
set_option maxRecDepth 100000 in
theorem bits_Add32.calls (a0 : Int) (a1 : Int) (a2 : Int) (r1 : Int) (r2 : Int) (w : World) (h : bits_Add32.f a0 a1 a2 = some (r1, r2)) :
    Calls Tryz.prog 166 #[.int .u32 a0, .int .u32 a1, .int .u32 a2] w fun e w' => e = .returned (.tuple #[.int .u32 r1, .int .u32 r2]) ∧ Drawn0 w w' := by
  have H : (some ((IntKind.u64.wrap ((IntKind.u64.wrap ((IntKind.u64.wrap (a0)) + (IntKind.u64.wrap (a1)))) + (IntKind.u64.wrap (a2)))) % 4294967296, ((IntKind.u64.wrap ((IntKind.u64.wrap ((IntKind.u64.wrap (a0)) + (IntKind.u64.wrap (a1)))) + (IntKind.u64.wrap (a2)))) / 4294967296) % 4294967296)) = some (r1, r2) := h
  clear h
  simp only [Option.some.injEq, Prod.mk.injEq] at H
  obtain ⟨rfl, rfl⟩ := H
  go_enter Tryz.func166, Tryz.ntmps166
  go_wp2
  go_ret2
  exact ⟨by first | rfl | (simp; done) | (simp [*]; done), by repeat (first | exact Drawn0.refl _ | apply Drawn0.step)⟩
end Go.Proofs.YtioofhilohmfbaaGreatDoor.P
end
section
namespace Go.Proofs.YtioofhilohmfbaaGreatDoor.P
open Go.RowKit Go.Proofs.YtioofhilohmfbaaGreatDoorW.PrintWords Go.Proofs.YtioofhilohmfbaaGreatDoorW.PrintLast Go.Proofs.YtioofhilohmfbaaGreatDoorW.PrintMore
attribute [local go_sem] max2_int min2_int max_two min_two max_three min_three max_four min_four
set_option linter.unusedVariables false
set_option linter.unusedSimpArgs false
/-! ### nat_plus: function 135 -/
def nat_plus.l0 : Nat → List Int → List Int → List Int → Int → Int → Int → Option (List Int)
  | 0, _, _, _, _, _, _ => none
  | k + 1, x0, x1, x5, x6, x21, x22 => if x22 < x21 then (if x22 < (x1.length : Int) then (if 0 ≤ x22 then (if x22 < (x0.length : Int) then ((bits_Add32.f (rd x0 x22) (rd x1 x22) x6).bind fun bt6 => (if x22 < (x5.length : Int) then (nat_plus.l0 k x0 x1 (x5.set (x22 : Int).toNat bt6.1) bt6.2 x21 (wrap64 (x22 + 1))) else (none))) else (none)) else (none)) else (if 0 ≤ x22 then (if x22 < (x0.length : Int) then ((bits_Add32.f (rd x0 x22) 0 x6).bind fun bt10 => (if x22 < (x5.length : Int) then (nat_plus.l0 k x0 x1 (x5.set (x22 : Int).toNat bt10.1) bt10.2 x21 (wrap64 (x22 + 1))) else (none))) else (none)) else (none))) else (if 0 ≤ (x0.length : Int) then (if (x0.length : Int) < (x5.length : Int) then ((nat_trim.f k (x5.set ((x0.length : Int) : Int).toNat x6)).bind fun t14 => (some t14)) else (none)) else (none))
def nat_plus.g (k : Nat) (l0 : List Int) (l1 : List Int) : Option (List Int) := if 0 ≤ (wrap64 ((l0.length : Int) + 1)) then (if (wrap64 ((l0.length : Int) + 1) : Int).toNat ≤ 70368744177664 then (nat_plus.l0 k l0 l1 (List.replicate (wrap64 ((l0.length : Int) + 1) : Int).toNat 0) 0 (l0.length : Int) 0) else (none)) else (none)
theorem nat_plus.mono_l : ∀ k, (∀ y0 y1 y2 y3 y4 y5, LeO (nat_plus.l0 k y0 y1 y2 y3 y4 y5) (nat_plus.l0 (k + 1) y0 y1 y2 y3 y4 y5))
  | 0 => fun _ _ _ _ _ _ r h => by simp [nat_plus.l0] at h
  | k + 1 => by
    have ih0 := nat_plus.mono_l k
    · intro y0 y1 y2 y3 y4 y5
      unfold nat_plus.l0
      repeat' first
      | (with_reducible exact ih0 _ _ _ _ _ _)
      | (with_reducible exact nat_trim.mono _ _)
      | (with_reducible exact LeO.refl _)
      | (with_reducible exact LeO.none _)
      | (with_reducible refine LeO.ite ?_ ?_)
      | (with_reducible refine LeO.bind ?_ (fun _ => ?_))
      | exact ih0 _ _ _ _ _ _
      | exact nat_trim.mono _ _
      | exact LeO.none _
      | refine LeO.ite ?_ ?_
      | refine LeO.bind ?_ (fun _ => ?_)
theorem nat_plus.gmono : ∀ a0 a1 k, LeO (nat_plus.g k a0 a1) (nat_plus.g (k + 1) a0 a1) := by
  intro a0 a1 k
  have ih0 := nat_plus.mono_l k
  unfold nat_plus.g
  repeat' first
      | (with_reducible exact ih0 _ _ _ _ _ _)
      | (with_reducible exact nat_trim.mono _ _)
      | (with_reducible exact LeO.refl _)
      | (with_reducible exact LeO.none _)
      | (with_reducible refine LeO.ite ?_ ?_)
      | (with_reducible refine LeO.bind ?_ (fun _ => ?_))
      | exact ih0 _ _ _ _ _ _
      | exact nat_trim.mono _ _
      | exact LeO.none _
      | refine LeO.ite ?_ ?_
      | refine LeO.bind ?_ (fun _ => ?_)
set_option maxHeartbeats 8000000 in
set_option maxRecDepth 100000 in
theorem nat_plus.calls_ge (k : Nat) (A0 : Option Addr) (c0 : Nat) (l0 : List Int) (A1 : Option Addr) (c1 : Nat) (l1 : List Int) (r : List Int) (w : World) (hr0 : Kd.C (Kd.int .u32) w A0 l0.length l0) (hc0 : l0.length ≤ c0) (hr1 : Kd.C (Kd.int .u32) w A1 l1.length l1) (hc1 : l1.length ≤ c1) (hsw : decide ((l0.length : Int) < (l1.length : Int)) = false) (h : nat_plus.g k l0 l1 = some r) :
    Calls Tryz.prog 135 #[.slice A0 l0.length c0, .slice A1 l1.length c1] w fun e w' => ∃ v0_ : Value, e = .returned (v0_) ∧ Kd.V (Kd.int .u32) 109 w' w.heap.size (fun k_ => (w.heap.size ≤ k_)) v0_ r ∧ Below w.heap.size w w' := by
  have hsw2 : decide (l0.length < l1.length) = false := by simpa using hsw
  have hsw3 : (l0.length < l1.length) = False := by simpa using hsw
  have HR0 := Aside0.mk hr0
  have HC0 := Aside0.mk hc0
  clear hr0 hc0
  have HR1 := Aside0.mk hr1
  have HC1 := Aside0.mk hc1
  clear hr1 hc1
  have HB := Aside0.mk (Below.refl w.heap.size w)
  have H : (if 0 ≤ (wrap64 ((l0.length : Int) + 1)) then (if (wrap64 ((l0.length : Int) + 1) : Int).toNat ≤ 70368744177664 then (nat_plus.l0 k l0 l1 (List.replicate (wrap64 ((l0.length : Int) + 1) : Int).toNat 0) 0 (l0.length : Int) 0) else (none)) else (none)) = some r := h
  clear h
  obtain ⟨ji3, hji3⟩ : ∃ j_ : Int, (wrap64 ((l0.length : Int) + 1)) = j_ := ⟨_, rfl⟩
  replace H : (if 0 ≤ (ji3) then (if (ji3 : Int).toNat ≤ 70368744177664 then (nat_plus.l0 k l0 l1 (List.replicate (ji3 : Int).toNat 0) 0 (l0.length : Int) 0) else (none)) else (none)) = some r := by first | (rw [hji3] at H; exact H) | (simp only [hji3] at H ⊢; exact H)
  have hji3w : (IntKind.i64.wrap ((l0.length : Int) + 1)) = ji3 := (i64_w _).trans hji3
  by_cases c4 : 0 ≤ (ji3)
  · rw [if_pos c4] at H
    have c4b0 := eq_true c4
    have c4b1 : decide (0 ≤ (ji3)) = true := decide_eq_true c4
    clear c4
    by_cases c5 : (ji3 : Int).toNat ≤ 70368744177664
    · rw [if_pos c5] at H
      have c5b0 := eq_true c5
      have c5b1 : decide ((ji3 : Int).toNat ≤ 70368744177664) = true := decide_eq_true c5
      clear c5
      obtain ⟨y1, hy1⟩ : ∃ y_ : List Int, y_ = (List.replicate (ji3 : Int).toNat 0) := ⟨_, rfl⟩
      replace H : (nat_plus.l0 k l0 l1 y1 0 (l0.length : Int) 0) = some r := by first | (rw [hy1]; with_reducible exact H) | (have H2_ := (Option.bind_some _ _).symm.trans H; rw [hy1]; with_reducible exact H2_) | (have H2_ := (Option.bind_some _ _).symm.trans H; with_reducible exact H2_) | with_reducible exact H | (rw [hy1]; exact H) | exact H
      have Ny1 := Aside0.mk hy1
      clear hy1
      have H' := Aside0.mk H
      clear H
      go_enter Tryz.func135, Tryz.ntmps135
      go_wp2_with (first | ((with_reducible refine gate_dst (N := 19) rfl ?_); refine Kd.R_make (Kd.int .u32) _ 109 rfl (N := 19) rfl 39 _ _ rfl ji3 rfl rfl Tryz.underlying39 (.int .u32 0) 4 info109 rfl (by decide) (by omega) 0 (ok := fun _ => True) (okp := fun _ => True) rfl (fun _ hk => hk) trivial (of_decide_eq_true (by first | (with_reducible assumption) | assumption)) (Nat.le_trans (Nat.mul_le_mul_right _ (of_decide_eq_true (by first | (with_reducible assumption) | assumption) : ji3.toNat ≤ 70368744177664)) (by omega)) (Below.refl _ _) (Nat.le_refl _) ?_; intro v2 w6 ho7 hb hg_ hnew_; clear hg_ hnew_; (first | rw [← Ny1.out] at ho7 | (simp only [Int.reduceToNat] at ho7; rw [← Ny1.out] at ho7)); have n0_ := Aside0.mk (Kd.R_lower (Kd.R_newM (M := fun k_ => (w.heap.size ≤ k_)) ho7 (below_size (lc HB.out)) (fun k_ h_ => h_)) (below_size (lc HB.out))); have n1_ := Aside0.mk (below_step (lc HB.out) hb); clear HB; have HO3 := n0_; have HB := n1_; clear n0_ n1_; clear hb ho7))
      go_loopg [6, 22] k (fun kq v6 v22 w' => ∃ (x5_1 : List Int) (x6_1 : Int) (x22_1 : Int), v6 = .int .u32 x6_1 ∧ v22 = .int .i64 x22_1 ∧ Aside0 (nat_plus.l0 kq l0 l1 x5_1 x6_1 (l0.length : Int) x22_1 = some r) ∧ Aside0 (kq ≤ k) ∧ Aside0 (Kd.R (Kd.int .u32) 109 w' w.heap.size (fun k_ => (w.heap.size ≤ k_)) v2 x5_1) ∧ Aside0 (Below w.heap.size w w'))
      case atStart => exact ⟨(y1), (0), (0), (by first | rfl | (simp; done) | (simp [*]; done)), (by first | rfl | (simp; done) | (simp [*]; done)), H', ⟨Nat.le_refl _⟩, ⟨by (with_reducible repeat (first | apply Kd.R_alloc | apply Kd.R_drewN | apply Kd.R_drew)); exact Kd.R_mono HO3.out (fun _ hk => hk.1)⟩, ⟨by exact lc HB.out⟩⟩
      case round =>
        clear H'
        try clear c1
        try clear p2
        try clear c4
        try clear c4b0
        try clear c4b1
        try clear c5
        try clear c5b0
        try clear c5b1
        try clear p6
        obtain ⟨x5_1, x6_1, x22_1, rfl, rfl, HA, HK1, HO_5, HB⟩ := hrel
        cases gk with
        | zero => exact absurd HA.out (by simp [nat_plus.l0])
        | succ k1 =>
          have H := HA.out
          clear HA
          simp only [nat_plus.l0] at H
          by_cases c8 : x22_1 < (l0.length : Int)
          · rw [if_pos c8] at H
            have c8b0 : decide (x22_1 < (l0.length : Int)) = true := decide_eq_true c8
            clear c8
            by_cases c9 : x22_1 < (l1.length : Int)
            · rw [if_pos c9] at H
              have c9b0 : decide (x22_1 < (l1.length : Int)) = true := decide_eq_true c9
              clear c9
              by_cases c10 : 0 ≤ x22_1
              · rw [if_pos c10] at H
                have c10b0 : decide (0 ≤ x22_1) = true := decide_eq_true c10
                clear c10
                by_cases c11 : x22_1 < (l0.length : Int)
                · rw [if_pos c11] at H
                  have c11b0 : decide (x22_1 < (l0.length : Int)) = true := decide_eq_true c11
                  clear c11
                  replace H := Option.bind_eq_some_iff.mp H
                  obtain ⟨⟨t6, t7⟩, A120, H⟩ := H
                  replace H : (if x22_1 < (x5_1.length : Int) then (nat_plus.l0 k1 l0 l1 (x5_1.set (x22_1 : Int).toNat t6) t7 (l0.length : Int) (wrap64 (x22_1 + 1))) else (none)) = some r := H
                  have A12 := Aside0.mk A120
                  clear A120
                  by_cases c13 : x22_1 < (x5_1.length : Int)
                  · rw [if_pos c13] at H
                    have c13b0 : decide (x22_1 < (x5_1.length : Int)) = true := decide_eq_true c13
                    clear c13
                    obtain ⟨y8, hy8⟩ : ∃ y_ : List Int, y_ = (x5_1.set (x22_1 : Int).toNat t6) := ⟨_, rfl⟩
                    replace H : (nat_plus.l0 k1 l0 l1 y8 t7 (l0.length : Int) (wrap64 (x22_1 + 1))) = some r := by first | (rw [hy8]; with_reducible exact H) | (have H2_ := (Option.bind_some _ _).symm.trans H; rw [hy8]; with_reducible exact H2_) | (have H2_ := (Option.bind_some _ _).symm.trans H; with_reducible exact H2_) | with_reducible exact H | (rw [hy8]; exact H) | exact H
                    have Ny8 := Aside0.mk hy8
                    clear hy8
                    have H' := Aside0.mk H
                    clear H
                    have p4 : 0 ≤ (x22_1 : Int) := of_decide_eq_true (by first | (with_reducible assumption) | assumption)
                    have q4 : x22_1 < (l1.length : Int) := of_decide_eq_true (by first | (with_reducible assumption) | assumption)
                    obtain ⟨ad4, e4, hx4_0⟩ := Kd.at_int HR1.out x22_1 p4 q4
                    cases e4
                    replace hx4_0 := (HB.out.cell (World.block_lt_of_cell? w _ hx4_0)).trans hx4_0
                    replace p4 := eq_true p4
                    replace q4 := eq_true q4
                    have p5 : 0 ≤ (x22_1 : Int) := of_decide_eq_true (by first | (with_reducible assumption) | assumption)
                    have q5 : x22_1 < (l0.length : Int) := of_decide_eq_true (by first | (with_reducible assumption) | assumption)
                    obtain ⟨ad5, e5, hx5_0⟩ := Kd.at_int HR0.out x22_1 p5 q5
                    cases e5
                    replace hx5_0 := (HB.out.cell (World.block_lt_of_cell? w _ hx5_0)).trans hx5_0
                    replace p5 := eq_true p5
                    replace q5 := eq_true q5
                    go_wp2_with (first | (go_at_call 166; (with_reducible refine (bits_Add32.calls (rd l0 x22_1) (rd l1 x22_1) x6_1 t6 t7 _ A12.out).mono ?_); rintro e w' ⟨rfl, ⟨nd, rfl⟩⟩; (try (rw [drewN_self wr]; generalize hq_ : World.drewN wr _ = wr; have n0_ : Aside0 (Kd.R (Kd.int .u32) 109 wr w.heap.size (fun k_ => (w.heap.size ≤ k_)) v2 x5_1) := ⟨by rw [← hq_]; exact (rc HO_5.out)⟩; have n1_ : Aside0 (Below w.heap.size w wr) := ⟨by rw [← hq_]; exact (lc HB.out)⟩; clear HO_5 HB hq_; have HO_5 := n0_; have HB := n1_; clear n0_ n1_)); have p14 : 0 ≤ (x22_1 : Int) := of_decide_eq_true (by first | (with_reducible assumption) | assumption); have q14 : (x22_1 : Int) < ((x5_1.length : Int) : Int) := of_decide_eq_true (by first | (with_reducible assumption) | assumption); obtain ⟨go14, co14, eo14, gb14, gl14, cl14, HG14⟩ := Kd.R_form HO_5.out (by omega); (first | cases eo14 | (injection eo14 with ea_ en_ ec_; (first | subst ea_ | (injection ea_ with ea_; subst ea_)); subst ec_; clear en_)); have GB14 := Aside0.mk gb14; have GG14 := Aside0.mk HG14; clear gb14 gl14 HG14; obtain ⟨hx14_0, hf14_0⟩ := Kd.R_celln 0 HO_5.out (x22_1 : Int) p14 q14; replace p14 := eq_true p14; replace q14 := eq_true q14; obtain ⟨hy15_, hz15_⟩ := Kd.R_celln 0 HO_5.out (x22_1 : Int) (of_decide_eq_true (by first | (with_reducible assumption) | assumption)) (of_decide_eq_true (by first | (with_reducible assumption) | assumption)); have HP15 := Kd.R_putg HO_5.out (x22_1 : Int) t6) | ((with_reducible refine gate_store (t := 109) (p := 45) rfl ?_); refine store_event (t := 109) (p := 45) (v := ?vo_w16) (w1 := (wr.setCell ⟨go14, (x22_1 : Int).toNat, none⟩ (.int .u32 t6))) ?hg ?ho ?hn ?hr ?_; (case ho => rfl); (case hg => rfl); (case hn => rfl); (case hr => first | (go_simp; done) | (go_simp; rfl)); intro w16 hw; have hg : wr.grownBy w16 (some go14) := (by rw [hw]; exact HP15.2); have hp_ : Kd.R (Kd.int .u32) 109 w16 w.heap.size (fun k_ => (w.heap.size ≤ k_)) (.slice (some ⟨go14, 0, none⟩) x5_1.length co14) y8 := (by rw [hw, Ny8.out]; exact HP15.1); clear HP15; have n0_ := Aside0.mk (hp_); have n1_ := Aside0.mk ((by rw [hw]; exact below_set (HB.out) GB14.out : Below w.heap.size w w16)); clear HO_5; clear HB; have HO_5 := n0_; have HB := n1_; clear n0_ n1_; clear hg hw hp_))
                    go_roundg k1
                    case measure => have := HK1.out; omega
                    case rel => exact ⟨(y8), (t7), (wrap64 (x22_1 + 1)), (by first | rfl | (simp; done) | (simp [*]; done)), (by first | rfl | (simp; done) | (simp [*]; done)), H', ⟨by have := HK1.out; omega⟩, ⟨by (with_reducible repeat (first | apply Kd.R_alloc | apply Kd.R_drewN | apply Kd.R_drew)); exact HO_5.out⟩, ⟨by exact lc HB.out⟩⟩
                  · rw [if_neg c13] at H
                    exact absurd H (by simp)
                · rw [if_neg c11] at H
                  exact absurd H (by simp)
              · rw [if_neg c10] at H
                exact absurd H (by simp)
            · rw [if_neg c9] at H
              have c9b0 : decide (x22_1 < (l1.length : Int)) = false := decide_eq_false c9
              clear c9
              by_cases c17 : 0 ≤ x22_1
              · rw [if_pos c17] at H
                have c17b0 : decide (0 ≤ x22_1) = true := decide_eq_true c17
                clear c17
                by_cases c18 : x22_1 < (l0.length : Int)
                · rw [if_pos c18] at H
                  have c18b0 : decide (x22_1 < (l0.length : Int)) = true := decide_eq_true c18
                  clear c18
                  replace H := Option.bind_eq_some_iff.mp H
                  obtain ⟨⟨t10, t11⟩, A190, H⟩ := H
                  replace H : (if x22_1 < (x5_1.length : Int) then (nat_plus.l0 k1 l0 l1 (x5_1.set (x22_1 : Int).toNat t10) t11 (l0.length : Int) (wrap64 (x22_1 + 1))) else (none)) = some r := H
                  have A19 := Aside0.mk A190
                  clear A190
                  by_cases c20 : x22_1 < (x5_1.length : Int)
                  · rw [if_pos c20] at H
                    have c20b0 : decide (x22_1 < (x5_1.length : Int)) = true := decide_eq_true c20
                    clear c20
                    obtain ⟨y12, hy12⟩ : ∃ y_ : List Int, y_ = (x5_1.set (x22_1 : Int).toNat t10) := ⟨_, rfl⟩
                    replace H : (nat_plus.l0 k1 l0 l1 y12 t11 (l0.length : Int) (wrap64 (x22_1 + 1))) = some r := by first | (rw [hy12]; with_reducible exact H) | (have H2_ := (Option.bind_some _ _).symm.trans H; rw [hy12]; with_reducible exact H2_) | (have H2_ := (Option.bind_some _ _).symm.trans H; with_reducible exact H2_) | with_reducible exact H | (rw [hy12]; exact H) | exact H
                    have Ny12 := Aside0.mk hy12
                    clear hy12
                    have H' := Aside0.mk H
                    clear H
                    have p9 : 0 ≤ (x22_1 : Int) := of_decide_eq_true (by first | (with_reducible assumption) | assumption)
                    have q9 : x22_1 < (l0.length : Int) := of_decide_eq_true (by first | (with_reducible assumption) | assumption)
                    obtain ⟨ad9, e9, hx9_0⟩ := Kd.at_int HR0.out x22_1 p9 q9
                    cases e9
                    replace hx9_0 := (HB.out.cell (World.block_lt_of_cell? w _ hx9_0)).trans hx9_0
                    replace p9 := eq_true p9
                    replace q9 := eq_true q9
                    go_wp2_with (first | (go_at_call 166; (with_reducible refine (bits_Add32.calls (rd l0 x22_1) 0 x6_1 t10 t11 _ A19.out).mono ?_); rintro e w' ⟨rfl, ⟨nd, rfl⟩⟩; (try (rw [drewN_self wr]; generalize hq_ : World.drewN wr _ = wr; have n0_ : Aside0 (Kd.R (Kd.int .u32) 109 wr w.heap.size (fun k_ => (w.heap.size ≤ k_)) v2 x5_1) := ⟨by rw [← hq_]; exact (rc HO_5.out)⟩; have n1_ : Aside0 (Below w.heap.size w wr) := ⟨by rw [← hq_]; exact (lc HB.out)⟩; clear HO_5 HB hq_; have HO_5 := n0_; have HB := n1_; clear n0_ n1_)); have p21 : 0 ≤ (x22_1 : Int) := of_decide_eq_true (by first | (with_reducible assumption) | assumption); have q21 : (x22_1 : Int) < ((x5_1.length : Int) : Int) := of_decide_eq_true (by first | (with_reducible assumption) | assumption); obtain ⟨go21, co21, eo21, gb21, gl21, cl21, HG21⟩ := Kd.R_form HO_5.out (by omega); (first | cases eo21 | (injection eo21 with ea_ en_ ec_; (first | subst ea_ | (injection ea_ with ea_; subst ea_)); subst ec_; clear en_)); have GB21 := Aside0.mk gb21; have GG21 := Aside0.mk HG21; clear gb21 gl21 HG21; obtain ⟨hx21_0, hf21_0⟩ := Kd.R_celln 0 HO_5.out (x22_1 : Int) p21 q21; replace p21 := eq_true p21; replace q21 := eq_true q21; obtain ⟨hy22_, hz22_⟩ := Kd.R_celln 0 HO_5.out (x22_1 : Int) (of_decide_eq_true (by first | (with_reducible assumption) | assumption)) (of_decide_eq_true (by first | (with_reducible assumption) | assumption)); have HP22 := Kd.R_putg HO_5.out (x22_1 : Int) t10) | ((with_reducible refine gate_store (t := 109) (p := 45) rfl ?_); refine store_event (t := 109) (p := 45) (v := ?vo_w23) (w1 := (wr.setCell ⟨go21, (x22_1 : Int).toNat, none⟩ (.int .u32 t10))) ?hg ?ho ?hn ?hr ?_; (case ho => rfl); (case hg => rfl); (case hn => rfl); (case hr => first | (go_simp; done) | (go_simp; rfl)); intro w23 hw; have hg : wr.grownBy w23 (some go21) := (by rw [hw]; exact HP22.2); have hp_ : Kd.R (Kd.int .u32) 109 w23 w.heap.size (fun k_ => (w.heap.size ≤ k_)) (.slice (some ⟨go21, 0, none⟩) x5_1.length co21) y12 := (by rw [hw, Ny12.out]; exact HP22.1); clear HP22; have n0_ := Aside0.mk (hp_); have n1_ := Aside0.mk ((by rw [hw]; exact below_set (HB.out) GB21.out : Below w.heap.size w w23)); clear HO_5; clear HB; have HO_5 := n0_; have HB := n1_; clear n0_ n1_; clear hg hw hp_))
                    go_roundg k1
                    case measure => have := HK1.out; omega
                    case rel => exact ⟨(y12), (t11), (wrap64 (x22_1 + 1)), (by first | rfl | (simp; done) | (simp [*]; done)), (by first | rfl | (simp; done) | (simp [*]; done)), H', ⟨by have := HK1.out; omega⟩, ⟨by (with_reducible repeat (first | apply Kd.R_alloc | apply Kd.R_drewN | apply Kd.R_drew)); exact HO_5.out⟩, ⟨by exact lc HB.out⟩⟩
                  · rw [if_neg c20] at H
                    exact absurd H (by simp)
                · rw [if_neg c18] at H
                  exact absurd H (by simp)
              · rw [if_neg c17] at H
                exact absurd H (by simp)
          · rw [if_neg c8] at H
            have c8b0 : decide (x22_1 < (l0.length : Int)) = false := decide_eq_false c8
            clear c8
            by_cases c24 : 0 ≤ (l0.length : Int)
            · rw [if_pos c24] at H
              have c24b0 : decide (0 ≤ (l0.length : Int)) = true := decide_eq_true c24
              have c24b1 : decide (0 ≤ l0.length) = true := decide_eq_true (by omega)
              clear c24
              by_cases c25 : (l0.length : Int) < (x5_1.length : Int)
              · rw [if_pos c25] at H
                have c25b0 : decide ((l0.length : Int) < (x5_1.length : Int)) = true := decide_eq_true c25
                have c25b1 : decide (l0.length < x5_1.length) = true := decide_eq_true (Int.ofNat_lt.mp c25)
                clear c25
                obtain ⟨y13, hy13⟩ : ∃ y_ : List Int, y_ = (x5_1.set ((l0.length : Int) : Int).toNat x6_1) := ⟨_, rfl⟩
                replace H : ((nat_trim.f k1 y13).bind fun t14 => (some t14)) = some r := by first | (rw [hy13]; with_reducible exact H) | (have H2_ := (Option.bind_some _ _).symm.trans H; rw [hy13]; with_reducible exact H2_) | (have H2_ := (Option.bind_some _ _).symm.trans H; with_reducible exact H2_) | with_reducible exact H | (rw [hy13]; exact H) | exact H
                have Ny13 := Aside0.mk hy13
                clear hy13
                replace H := Option.bind_eq_some_iff.mp H
                obtain ⟨t14, A270, H⟩ := H
                replace H : (some t14) = some r := H
                have A27 := Aside0.mk A270
                clear A270
                obtain rfl := Option.some.inj H
                have p26 : 0 ≤ ((l0.length : Int) : Int) := of_decide_eq_true (by first | (with_reducible assumption) | assumption)
                have q26 : ((l0.length : Int) : Int) < ((x5_1.length : Int) : Int) := of_decide_eq_true (by first | (with_reducible assumption) | assumption)
                obtain ⟨go26, co26, eo26, gb26, gl26, cl26, HG26⟩ := Kd.R_form HO_5.out (by omega)
                (first | cases eo26 | (injection eo26 with ea_ en_ ec_; (first | subst ea_ | (injection ea_ with ea_; subst ea_)); subst ec_; clear en_))
                have GB26 := Aside0.mk gb26
                have GG26 := Aside0.mk HG26
                clear gb26 gl26 HG26
                obtain ⟨hx26_0, hf26_0⟩ := Kd.R_celln 0 HO_5.out ((l0.length : Int) : Int) p26 q26
                have hx26n := hx26_0
                have hf26n := hf26_0
                simp only [Int.toNat_natCast] at hx26n hf26n
                replace p26 := eq_true p26
                replace q26 := eq_true q26
                have HP28 := Kd.R_putg HO_5.out ((l0.length : Int) : Int) x6_1
                go_wp2_with (first | ((with_reducible refine gate_store (t := 109) (p := 51) rfl ?_); refine store_event (t := 109) (p := 51) (v := ?vo_w29) (w1 := (wr.setCell ⟨go26, ((l0.length : Int) : Int).toNat, none⟩ (.int .u32 x6_1))) ?hg ?ho ?hn ?hr ?_; (case ho => rfl); (case hg => rfl); (case hn => rfl); (case hr => first | (go_simp; done) | (go_simp; rfl)); intro w29 hw; have hg : wr.grownBy w29 (some go26) := (by rw [hw]; exact HP28.2); have hp_ : Kd.R (Kd.int .u32) 109 w29 w.heap.size (fun k_ => (w.heap.size ≤ k_)) (.slice (some ⟨go26, 0, none⟩) x5_1.length co26) y13 := (by rw [hw, Ny13.out]; exact HP28.1); clear HP28; have n0_ := Aside0.mk (hp_); have n1_ := Aside0.mk ((by rw [hw]; exact below_set (HB.out) GB26.out : Below w.heap.size w w29)); clear HO_5; clear HB; have HO_5 := n0_; have HB := n1_; clear n0_ n1_; clear hg hw hp_) | ((with_reducible refine gate_callee (f := 167) rfl ?_); refine goesL_ (some 53) rfl rfl Tryz.func167 (by kernel_rfl) rfl #[.slice (some ⟨go26, 0, none⟩) y13.length co26] rfl (by (try simp only [List.map_toArray, List.map_cons, List.map_nil]); first | done | (rw [show y13.length = x5_1.length from (Kd.R_reads' HO_5.out).1.symm] <;> rfl) | rfl | (simp only [List.length_drop, List.length_take]; rfl)) ?_; (with_reducible refine (nat_trim.calls k1 (fun k_ => some k_ = (.slice (some ⟨go26, 0, none⟩) x5_1.length co26 : Value).ownBlock) _ _ y13 t14 _ ?side1 A27.out).mono ?_); (case side1 => rw [show y13.length = x5_1.length from (Kd.R_reads' HO_5.out).1.symm]; exact Kd.R_V (Kd.R_tight rfl (HO_5.out))); rintro e w30 ⟨v15, rfl, ho0, hb⟩; refine ⟨_, rfl, ?_⟩; have n0_ := Aside0.mk (Kd.R_below (rc HO_5.out) hb); have n1_ := Aside0.mk (Kd.V_lower (Kd.V_mono (ok' := fun k_ => (w.heap.size ≤ k_)) ho0 (fun k_ hk_ => Or.elim hk_ (fun hs_ => ((HO_5.out).1 k_ hs_.symm)) (fun hn_ => (Nat.le_trans (below_size (lc HB.out)) hn_)))) (below_size (lc HB.out))); have n2_ := Aside0.mk (below_step (lc HB.out) hb); clear HO_5; clear HB; have HO_5 := n0_; have HO16 := n1_; have HB := n2_; clear n0_ n1_ n2_; (try clear hb); (try clear hb2); (try clear hk); (try clear hi); (try clear ho0)))
                go_ret
                exact ⟨_, by first | rfl | (simp [errW_none, errW_some] <;> rfl) | (simp only [← hji3]; first | rfl | (simp [errW_none, errW_some] <;> rfl)) | (simp [*, errW_none, errW_some] <;> rfl), by (with_reducible repeat (first | apply Kd.V_alloc | apply Kd.V_drewN | apply Kd.V_drew)); exact HO16.out, by exact lc HB.out⟩
              · rw [if_neg c25] at H
                exact absurd H (by simp)
            · rw [if_neg c24] at H
              exact absurd H (by simp)
    · rw [if_neg c5] at H
      exact absurd H (by simp)
  · rw [if_neg c4] at H
    exact absurd H (by simp)
set_option maxHeartbeats 8000000 in
set_option maxRecDepth 100000 in
theorem nat_plus.calls_lt (k : Nat) (A0 : Option Addr) (c0 : Nat) (l0 : List Int) (A1 : Option Addr) (c1 : Nat) (l1 : List Int) (r : List Int) (w : World) (hr0 : Kd.C (Kd.int .u32) w A0 l0.length l0) (hc0 : l0.length ≤ c0) (hr1 : Kd.C (Kd.int .u32) w A1 l1.length l1) (hc1 : l1.length ≤ c1) (hsw : decide ((l0.length : Int) < (l1.length : Int)) = true) (h : nat_plus.g k l1 l0 = some r) :
    Calls Tryz.prog 135 #[.slice A0 l0.length c0, .slice A1 l1.length c1] w fun e w' => ∃ v0_ : Value, e = .returned (v0_) ∧ Kd.V (Kd.int .u32) 109 w' w.heap.size (fun k_ => (w.heap.size ≤ k_)) v0_ r ∧ Below w.heap.size w w' := by
  have hsw2 : decide (l0.length < l1.length) = true := by simpa using hsw
  have hsw3 : (l0.length < l1.length) = True := by simpa using hsw
  have HR1 := Aside0.mk hr1
  have HC1 := Aside0.mk hc1
  clear hr1 hc1
  have HR0 := Aside0.mk hr0
  have HC0 := Aside0.mk hc0
  clear hr0 hc0
  have HB := Aside0.mk (Below.refl w.heap.size w)
  have H : (if 0 ≤ (wrap64 ((l1.length : Int) + 1)) then (if (wrap64 ((l1.length : Int) + 1) : Int).toNat ≤ 70368744177664 then (nat_plus.l0 k l1 l0 (List.replicate (wrap64 ((l1.length : Int) + 1) : Int).toNat 0) 0 (l1.length : Int) 0) else (none)) else (none)) = some r := h
  clear h
  obtain ⟨ji3, hji3⟩ : ∃ j_ : Int, (wrap64 ((l1.length : Int) + 1)) = j_ := ⟨_, rfl⟩
  replace H : (if 0 ≤ (ji3) then (if (ji3 : Int).toNat ≤ 70368744177664 then (nat_plus.l0 k l1 l0 (List.replicate (ji3 : Int).toNat 0) 0 (l1.length : Int) 0) else (none)) else (none)) = some r := by first | (rw [hji3] at H; exact H) | (simp only [hji3] at H ⊢; exact H)
  have hji3w : (IntKind.i64.wrap ((l1.length : Int) + 1)) = ji3 := (i64_w _).trans hji3
  by_cases c4 : 0 ≤ (ji3)
  · rw [if_pos c4] at H
    have c4b0 := eq_true c4
    have c4b1 : decide (0 ≤ (ji3)) = true := decide_eq_true c4
    clear c4
    by_cases c5 : (ji3 : Int).toNat ≤ 70368744177664
    · rw [if_pos c5] at H
      have c5b0 := eq_true c5
      have c5b1 : decide ((ji3 : Int).toNat ≤ 70368744177664) = true := decide_eq_true c5
      clear c5
      obtain ⟨y1, hy1⟩ : ∃ y_ : List Int, y_ = (List.replicate (ji3 : Int).toNat 0) := ⟨_, rfl⟩
      replace H : (nat_plus.l0 k l1 l0 y1 0 (l1.length : Int) 0) = some r := by first | (rw [hy1]; with_reducible exact H) | (have H2_ := (Option.bind_some _ _).symm.trans H; rw [hy1]; with_reducible exact H2_) | (have H2_ := (Option.bind_some _ _).symm.trans H; with_reducible exact H2_) | with_reducible exact H | (rw [hy1]; exact H) | exact H
      have Ny1 := Aside0.mk hy1
      clear hy1
      have H' := Aside0.mk H
      clear H
      go_enter Tryz.func135, Tryz.ntmps135
      go_wp2_with (first | ((with_reducible refine gate_dst (N := 19) rfl ?_); refine Kd.R_make (Kd.int .u32) _ 109 rfl (N := 19) rfl 39 _ _ rfl ji3 rfl rfl Tryz.underlying39 (.int .u32 0) 4 info109 rfl (by decide) (by omega) 0 (ok := fun _ => True) (okp := fun _ => True) rfl (fun _ hk => hk) trivial (of_decide_eq_true (by first | (with_reducible assumption) | assumption)) (Nat.le_trans (Nat.mul_le_mul_right _ (of_decide_eq_true (by first | (with_reducible assumption) | assumption) : ji3.toNat ≤ 70368744177664)) (by omega)) (Below.refl _ _) (Nat.le_refl _) ?_; intro v2 w6 ho7 hb hg_ hnew_; clear hg_ hnew_; (first | rw [← Ny1.out] at ho7 | (simp only [Int.reduceToNat] at ho7; rw [← Ny1.out] at ho7)); have n0_ := Aside0.mk (Kd.R_lower (Kd.R_newM (M := fun k_ => (w.heap.size ≤ k_)) ho7 (below_size (lc HB.out)) (fun k_ h_ => h_)) (below_size (lc HB.out))); have n1_ := Aside0.mk (below_step (lc HB.out) hb); clear HB; have HO3 := n0_; have HB := n1_; clear n0_ n1_; clear hb ho7))
      go_loopg [6, 22] k (fun kq v6 v22 w' => ∃ (x5_1 : List Int) (x6_1 : Int) (x22_1 : Int), v6 = .int .u32 x6_1 ∧ v22 = .int .i64 x22_1 ∧ Aside0 (nat_plus.l0 kq l1 l0 x5_1 x6_1 (l1.length : Int) x22_1 = some r) ∧ Aside0 (kq ≤ k) ∧ Aside0 (Kd.R (Kd.int .u32) 109 w' w.heap.size (fun k_ => (w.heap.size ≤ k_)) v2 x5_1) ∧ Aside0 (Below w.heap.size w w'))
      case atStart => exact ⟨(y1), (0), (0), (by first | rfl | (simp; done) | (simp [*]; done)), (by first | rfl | (simp; done) | (simp [*]; done)), H', ⟨Nat.le_refl _⟩, ⟨by (with_reducible repeat (first | apply Kd.R_alloc | apply Kd.R_drewN | apply Kd.R_drew)); exact Kd.R_mono HO3.out (fun _ hk => hk.1)⟩, ⟨by exact lc HB.out⟩⟩
      case round =>
        clear H'
        try clear c0
        try clear p2
        try clear c4
        try clear c4b0
        try clear c4b1
        try clear c5
        try clear c5b0
        try clear c5b1
        try clear p6
        obtain ⟨x5_1, x6_1, x22_1, rfl, rfl, HA, HK1, HO_5, HB⟩ := hrel
        cases gk with
        | zero => exact absurd HA.out (by simp [nat_plus.l0])
        | succ k1 =>
          have H := HA.out
          clear HA
          simp only [nat_plus.l0] at H
          by_cases c8 : x22_1 < (l1.length : Int)
          · rw [if_pos c8] at H
            have c8b0 : decide (x22_1 < (l1.length : Int)) = true := decide_eq_true c8
            clear c8
            by_cases c9 : x22_1 < (l0.length : Int)
            · rw [if_pos c9] at H
              have c9b0 : decide (x22_1 < (l0.length : Int)) = true := decide_eq_true c9
              clear c9
              by_cases c10 : 0 ≤ x22_1
              · rw [if_pos c10] at H
                have c10b0 : decide (0 ≤ x22_1) = true := decide_eq_true c10
                clear c10
                by_cases c11 : x22_1 < (l1.length : Int)
                · rw [if_pos c11] at H
                  have c11b0 : decide (x22_1 < (l1.length : Int)) = true := decide_eq_true c11
                  clear c11
                  replace H := Option.bind_eq_some_iff.mp H
                  obtain ⟨⟨t6, t7⟩, A120, H⟩ := H
                  replace H : (if x22_1 < (x5_1.length : Int) then (nat_plus.l0 k1 l1 l0 (x5_1.set (x22_1 : Int).toNat t6) t7 (l1.length : Int) (wrap64 (x22_1 + 1))) else (none)) = some r := H
                  have A12 := Aside0.mk A120
                  clear A120
                  by_cases c13 : x22_1 < (x5_1.length : Int)
                  · rw [if_pos c13] at H
                    have c13b0 : decide (x22_1 < (x5_1.length : Int)) = true := decide_eq_true c13
                    clear c13
                    obtain ⟨y8, hy8⟩ : ∃ y_ : List Int, y_ = (x5_1.set (x22_1 : Int).toNat t6) := ⟨_, rfl⟩
                    replace H : (nat_plus.l0 k1 l1 l0 y8 t7 (l1.length : Int) (wrap64 (x22_1 + 1))) = some r := by first | (rw [hy8]; with_reducible exact H) | (have H2_ := (Option.bind_some _ _).symm.trans H; rw [hy8]; with_reducible exact H2_) | (have H2_ := (Option.bind_some _ _).symm.trans H; with_reducible exact H2_) | with_reducible exact H | (rw [hy8]; exact H) | exact H
                    have Ny8 := Aside0.mk hy8
                    clear hy8
                    have H' := Aside0.mk H
                    clear H
                    have p4 : 0 ≤ (x22_1 : Int) := of_decide_eq_true (by first | (with_reducible assumption) | assumption)
                    have q4 : x22_1 < (l0.length : Int) := of_decide_eq_true (by first | (with_reducible assumption) | assumption)
                    obtain ⟨ad4, e4, hx4_0⟩ := Kd.at_int HR0.out x22_1 p4 q4
                    cases e4
                    replace hx4_0 := (HB.out.cell (World.block_lt_of_cell? w _ hx4_0)).trans hx4_0
                    replace p4 := eq_true p4
                    replace q4 := eq_true q4
                    have p5 : 0 ≤ (x22_1 : Int) := of_decide_eq_true (by first | (with_reducible assumption) | assumption)
                    have q5 : x22_1 < (l1.length : Int) := of_decide_eq_true (by first | (with_reducible assumption) | assumption)
                    obtain ⟨ad5, e5, hx5_0⟩ := Kd.at_int HR1.out x22_1 p5 q5
                    cases e5
                    replace hx5_0 := (HB.out.cell (World.block_lt_of_cell? w _ hx5_0)).trans hx5_0
                    replace p5 := eq_true p5
                    replace q5 := eq_true q5
                    go_wp2_with (first | (go_at_call 166; (with_reducible refine (bits_Add32.calls (rd l1 x22_1) (rd l0 x22_1) x6_1 t6 t7 _ A12.out).mono ?_); rintro e w' ⟨rfl, ⟨nd, rfl⟩⟩; (try (rw [drewN_self wr]; generalize hq_ : World.drewN wr _ = wr; have n0_ : Aside0 (Kd.R (Kd.int .u32) 109 wr w.heap.size (fun k_ => (w.heap.size ≤ k_)) v2 x5_1) := ⟨by rw [← hq_]; exact (rc HO_5.out)⟩; have n1_ : Aside0 (Below w.heap.size w wr) := ⟨by rw [← hq_]; exact (lc HB.out)⟩; clear HO_5 HB hq_; have HO_5 := n0_; have HB := n1_; clear n0_ n1_)); have p14 : 0 ≤ (x22_1 : Int) := of_decide_eq_true (by first | (with_reducible assumption) | assumption); have q14 : (x22_1 : Int) < ((x5_1.length : Int) : Int) := of_decide_eq_true (by first | (with_reducible assumption) | assumption); obtain ⟨go14, co14, eo14, gb14, gl14, cl14, HG14⟩ := Kd.R_form HO_5.out (by omega); (first | cases eo14 | (injection eo14 with ea_ en_ ec_; (first | subst ea_ | (injection ea_ with ea_; subst ea_)); subst ec_; clear en_)); have GB14 := Aside0.mk gb14; have GG14 := Aside0.mk HG14; clear gb14 gl14 HG14; obtain ⟨hx14_0, hf14_0⟩ := Kd.R_celln 0 HO_5.out (x22_1 : Int) p14 q14; replace p14 := eq_true p14; replace q14 := eq_true q14; obtain ⟨hy15_, hz15_⟩ := Kd.R_celln 0 HO_5.out (x22_1 : Int) (of_decide_eq_true (by first | (with_reducible assumption) | assumption)) (of_decide_eq_true (by first | (with_reducible assumption) | assumption)); have HP15 := Kd.R_putg HO_5.out (x22_1 : Int) t6) | ((with_reducible refine gate_store (t := 109) (p := 45) rfl ?_); refine store_event (t := 109) (p := 45) (v := ?vo_w16) (w1 := (wr.setCell ⟨go14, (x22_1 : Int).toNat, none⟩ (.int .u32 t6))) ?hg ?ho ?hn ?hr ?_; (case ho => rfl); (case hg => rfl); (case hn => rfl); (case hr => first | (go_simp; done) | (go_simp; rfl)); intro w16 hw; have hg : wr.grownBy w16 (some go14) := (by rw [hw]; exact HP15.2); have hp_ : Kd.R (Kd.int .u32) 109 w16 w.heap.size (fun k_ => (w.heap.size ≤ k_)) (.slice (some ⟨go14, 0, none⟩) x5_1.length co14) y8 := (by rw [hw, Ny8.out]; exact HP15.1); clear HP15; have n0_ := Aside0.mk (hp_); have n1_ := Aside0.mk ((by rw [hw]; exact below_set (HB.out) GB14.out : Below w.heap.size w w16)); clear HO_5; clear HB; have HO_5 := n0_; have HB := n1_; clear n0_ n1_; clear hg hw hp_))
                    go_roundg k1
                    case measure => have := HK1.out; omega
                    case rel => exact ⟨(y8), (t7), (wrap64 (x22_1 + 1)), (by first | rfl | (simp; done) | (simp [*]; done)), (by first | rfl | (simp; done) | (simp [*]; done)), H', ⟨by have := HK1.out; omega⟩, ⟨by (with_reducible repeat (first | apply Kd.R_alloc | apply Kd.R_drewN | apply Kd.R_drew)); exact HO_5.out⟩, ⟨by exact lc HB.out⟩⟩
                  · rw [if_neg c13] at H
                    exact absurd H (by simp)
                · rw [if_neg c11] at H
                  exact absurd H (by simp)
              · rw [if_neg c10] at H
                exact absurd H (by simp)
            · rw [if_neg c9] at H
              have c9b0 : decide (x22_1 < (l0.length : Int)) = false := decide_eq_false c9
              clear c9
              by_cases c17 : 0 ≤ x22_1
              · rw [if_pos c17] at H
                have c17b0 : decide (0 ≤ x22_1) = true := decide_eq_true c17
                clear c17
                by_cases c18 : x22_1 < (l1.length : Int)
                · rw [if_pos c18] at H
                  have c18b0 : decide (x22_1 < (l1.length : Int)) = true := decide_eq_true c18
                  clear c18
                  replace H := Option.bind_eq_some_iff.mp H
                  obtain ⟨⟨t10, t11⟩, A190, H⟩ := H
                  replace H : (if x22_1 < (x5_1.length : Int) then (nat_plus.l0 k1 l1 l0 (x5_1.set (x22_1 : Int).toNat t10) t11 (l1.length : Int) (wrap64 (x22_1 + 1))) else (none)) = some r := H
                  have A19 := Aside0.mk A190
                  clear A190
                  by_cases c20 : x22_1 < (x5_1.length : Int)
                  · rw [if_pos c20] at H
                    have c20b0 : decide (x22_1 < (x5_1.length : Int)) = true := decide_eq_true c20
                    clear c20
                    obtain ⟨y12, hy12⟩ : ∃ y_ : List Int, y_ = (x5_1.set (x22_1 : Int).toNat t10) := ⟨_, rfl⟩
                    replace H : (nat_plus.l0 k1 l1 l0 y12 t11 (l1.length : Int) (wrap64 (x22_1 + 1))) = some r := by first | (rw [hy12]; with_reducible exact H) | (have H2_ := (Option.bind_some _ _).symm.trans H; rw [hy12]; with_reducible exact H2_) | (have H2_ := (Option.bind_some _ _).symm.trans H; with_reducible exact H2_) | with_reducible exact H | (rw [hy12]; exact H) | exact H
                    have Ny12 := Aside0.mk hy12
                    clear hy12
                    have H' := Aside0.mk H
                    clear H
                    have p9 : 0 ≤ (x22_1 : Int) := of_decide_eq_true (by first | (with_reducible assumption) | assumption)
                    have q9 : x22_1 < (l1.length : Int) := of_decide_eq_true (by first | (with_reducible assumption) | assumption)
                    obtain ⟨ad9, e9, hx9_0⟩ := Kd.at_int HR1.out x22_1 p9 q9
                    cases e9
                    replace hx9_0 := (HB.out.cell (World.block_lt_of_cell? w _ hx9_0)).trans hx9_0
                    replace p9 := eq_true p9
                    replace q9 := eq_true q9
                    go_wp2_with (first | (go_at_call 166; (with_reducible refine (bits_Add32.calls (rd l1 x22_1) 0 x6_1 t10 t11 _ A19.out).mono ?_); rintro e w' ⟨rfl, ⟨nd, rfl⟩⟩; (try (rw [drewN_self wr]; generalize hq_ : World.drewN wr _ = wr; have n0_ : Aside0 (Kd.R (Kd.int .u32) 109 wr w.heap.size (fun k_ => (w.heap.size ≤ k_)) v2 x5_1) := ⟨by rw [← hq_]; exact (rc HO_5.out)⟩; have n1_ : Aside0 (Below w.heap.size w wr) := ⟨by rw [← hq_]; exact (lc HB.out)⟩; clear HO_5 HB hq_; have HO_5 := n0_; have HB := n1_; clear n0_ n1_)); have p21 : 0 ≤ (x22_1 : Int) := of_decide_eq_true (by first | (with_reducible assumption) | assumption); have q21 : (x22_1 : Int) < ((x5_1.length : Int) : Int) := of_decide_eq_true (by first | (with_reducible assumption) | assumption); obtain ⟨go21, co21, eo21, gb21, gl21, cl21, HG21⟩ := Kd.R_form HO_5.out (by omega); (first | cases eo21 | (injection eo21 with ea_ en_ ec_; (first | subst ea_ | (injection ea_ with ea_; subst ea_)); subst ec_; clear en_)); have GB21 := Aside0.mk gb21; have GG21 := Aside0.mk HG21; clear gb21 gl21 HG21; obtain ⟨hx21_0, hf21_0⟩ := Kd.R_celln 0 HO_5.out (x22_1 : Int) p21 q21; replace p21 := eq_true p21; replace q21 := eq_true q21; obtain ⟨hy22_, hz22_⟩ := Kd.R_celln 0 HO_5.out (x22_1 : Int) (of_decide_eq_true (by first | (with_reducible assumption) | assumption)) (of_decide_eq_true (by first | (with_reducible assumption) | assumption)); have HP22 := Kd.R_putg HO_5.out (x22_1 : Int) t10) | ((with_reducible refine gate_store (t := 109) (p := 45) rfl ?_); refine store_event (t := 109) (p := 45) (v := ?vo_w23) (w1 := (wr.setCell ⟨go21, (x22_1 : Int).toNat, none⟩ (.int .u32 t10))) ?hg ?ho ?hn ?hr ?_; (case ho => rfl); (case hg => rfl); (case hn => rfl); (case hr => first | (go_simp; done) | (go_simp; rfl)); intro w23 hw; have hg : wr.grownBy w23 (some go21) := (by rw [hw]; exact HP22.2); have hp_ : Kd.R (Kd.int .u32) 109 w23 w.heap.size (fun k_ => (w.heap.size ≤ k_)) (.slice (some ⟨go21, 0, none⟩) x5_1.length co21) y12 := (by rw [hw, Ny12.out]; exact HP22.1); clear HP22; have n0_ := Aside0.mk (hp_); have n1_ := Aside0.mk ((by rw [hw]; exact below_set (HB.out) GB21.out : Below w.heap.size w w23)); clear HO_5; clear HB; have HO_5 := n0_; have HB := n1_; clear n0_ n1_; clear hg hw hp_))
                    go_roundg k1
                    case measure => have := HK1.out; omega
                    case rel => exact ⟨(y12), (t11), (wrap64 (x22_1 + 1)), (by first | rfl | (simp; done) | (simp [*]; done)), (by first | rfl | (simp; done) | (simp [*]; done)), H', ⟨by have := HK1.out; omega⟩, ⟨by (with_reducible repeat (first | apply Kd.R_alloc | apply Kd.R_drewN | apply Kd.R_drew)); exact HO_5.out⟩, ⟨by exact lc HB.out⟩⟩
                  · rw [if_neg c20] at H
                    exact absurd H (by simp)
                · rw [if_neg c18] at H
                  exact absurd H (by simp)
              · rw [if_neg c17] at H
                exact absurd H (by simp)
          · rw [if_neg c8] at H
            have c8b0 : decide (x22_1 < (l1.length : Int)) = false := decide_eq_false c8
            clear c8
            by_cases c24 : 0 ≤ (l1.length : Int)
            · rw [if_pos c24] at H
              have c24b0 : decide (0 ≤ (l1.length : Int)) = true := decide_eq_true c24
              have c24b1 : decide (0 ≤ l1.length) = true := decide_eq_true (by omega)
              clear c24
              by_cases c25 : (l1.length : Int) < (x5_1.length : Int)
              · rw [if_pos c25] at H
                have c25b0 : decide ((l1.length : Int) < (x5_1.length : Int)) = true := decide_eq_true c25
                have c25b1 : decide (l1.length < x5_1.length) = true := decide_eq_true (Int.ofNat_lt.mp c25)
                clear c25
                obtain ⟨y13, hy13⟩ : ∃ y_ : List Int, y_ = (x5_1.set ((l1.length : Int) : Int).toNat x6_1) := ⟨_, rfl⟩
                replace H : ((nat_trim.f k1 y13).bind fun t14 => (some t14)) = some r := by first | (rw [hy13]; with_reducible exact H) | (have H2_ := (Option.bind_some _ _).symm.trans H; rw [hy13]; with_reducible exact H2_) | (have H2_ := (Option.bind_some _ _).symm.trans H; with_reducible exact H2_) | with_reducible exact H | (rw [hy13]; exact H) | exact H
                have Ny13 := Aside0.mk hy13
                clear hy13
                replace H := Option.bind_eq_some_iff.mp H
                obtain ⟨t14, A270, H⟩ := H
                replace H : (some t14) = some r := H
                have A27 := Aside0.mk A270
                clear A270
                obtain rfl := Option.some.inj H
                have p26 : 0 ≤ ((l1.length : Int) : Int) := of_decide_eq_true (by first | (with_reducible assumption) | assumption)
                have q26 : ((l1.length : Int) : Int) < ((x5_1.length : Int) : Int) := of_decide_eq_true (by first | (with_reducible assumption) | assumption)
                obtain ⟨go26, co26, eo26, gb26, gl26, cl26, HG26⟩ := Kd.R_form HO_5.out (by omega)
                (first | cases eo26 | (injection eo26 with ea_ en_ ec_; (first | subst ea_ | (injection ea_ with ea_; subst ea_)); subst ec_; clear en_))
                have GB26 := Aside0.mk gb26
                have GG26 := Aside0.mk HG26
                clear gb26 gl26 HG26
                obtain ⟨hx26_0, hf26_0⟩ := Kd.R_celln 0 HO_5.out ((l1.length : Int) : Int) p26 q26
                have hx26n := hx26_0
                have hf26n := hf26_0
                simp only [Int.toNat_natCast] at hx26n hf26n
                replace p26 := eq_true p26
                replace q26 := eq_true q26
                have HP28 := Kd.R_putg HO_5.out ((l1.length : Int) : Int) x6_1
                go_wp2_with (first | ((with_reducible refine gate_store (t := 109) (p := 51) rfl ?_); refine store_event (t := 109) (p := 51) (v := ?vo_w29) (w1 := (wr.setCell ⟨go26, ((l1.length : Int) : Int).toNat, none⟩ (.int .u32 x6_1))) ?hg ?ho ?hn ?hr ?_; (case ho => rfl); (case hg => rfl); (case hn => rfl); (case hr => first | (go_simp; done) | (go_simp; rfl)); intro w29 hw; have hg : wr.grownBy w29 (some go26) := (by rw [hw]; exact HP28.2); have hp_ : Kd.R (Kd.int .u32) 109 w29 w.heap.size (fun k_ => (w.heap.size ≤ k_)) (.slice (some ⟨go26, 0, none⟩) x5_1.length co26) y13 := (by rw [hw, Ny13.out]; exact HP28.1); clear HP28; have n0_ := Aside0.mk (hp_); have n1_ := Aside0.mk ((by rw [hw]; exact below_set (HB.out) GB26.out : Below w.heap.size w w29)); clear HO_5; clear HB; have HO_5 := n0_; have HB := n1_; clear n0_ n1_; clear hg hw hp_) | ((with_reducible refine gate_callee (f := 167) rfl ?_); refine goesL_ (some 53) rfl rfl Tryz.func167 (by kernel_rfl) rfl #[.slice (some ⟨go26, 0, none⟩) y13.length co26] rfl (by (try simp only [List.map_toArray, List.map_cons, List.map_nil]); first | done | (rw [show y13.length = x5_1.length from (Kd.R_reads' HO_5.out).1.symm] <;> rfl) | rfl | (simp only [List.length_drop, List.length_take]; rfl)) ?_; (with_reducible refine (nat_trim.calls k1 (fun k_ => some k_ = (.slice (some ⟨go26, 0, none⟩) x5_1.length co26 : Value).ownBlock) _ _ y13 t14 _ ?side1 A27.out).mono ?_); (case side1 => rw [show y13.length = x5_1.length from (Kd.R_reads' HO_5.out).1.symm]; exact Kd.R_V (Kd.R_tight rfl (HO_5.out))); rintro e w30 ⟨v15, rfl, ho0, hb⟩; refine ⟨_, rfl, ?_⟩; have n0_ := Aside0.mk (Kd.R_below (rc HO_5.out) hb); have n1_ := Aside0.mk (Kd.V_lower (Kd.V_mono (ok' := fun k_ => (w.heap.size ≤ k_)) ho0 (fun k_ hk_ => Or.elim hk_ (fun hs_ => ((HO_5.out).1 k_ hs_.symm)) (fun hn_ => (Nat.le_trans (below_size (lc HB.out)) hn_)))) (below_size (lc HB.out))); have n2_ := Aside0.mk (below_step (lc HB.out) hb); clear HO_5; clear HB; have HO_5 := n0_; have HO16 := n1_; have HB := n2_; clear n0_ n1_ n2_; (try clear hb); (try clear hb2); (try clear hk); (try clear hi); (try clear ho0)))
                go_ret
                exact ⟨_, by first | rfl | (simp [errW_none, errW_some] <;> rfl) | (simp only [← hji3]; first | rfl | (simp [errW_none, errW_some] <;> rfl)) | (simp [*, errW_none, errW_some] <;> rfl), by (with_reducible repeat (first | apply Kd.V_alloc | apply Kd.V_drewN | apply Kd.V_drew)); exact HO16.out, by exact lc HB.out⟩
              · rw [if_neg c25] at H
                exact absurd H (by simp)
            · rw [if_neg c24] at H
              exact absurd H (by simp)
    · rw [if_neg c5] at H
      exact absurd H (by simp)
  · rw [if_neg c4] at H
    exact absurd H (by simp)
def nat_plus.f (k : Nat) (l0 : List Int) (l1 : List Int) : Option (List Int) := if (l0.length : Int) < (l1.length : Int) then nat_plus.g k l1 l0 else nat_plus.g k l0 l1
theorem nat_plus.mono : ∀ a0 a1 k, LeO (nat_plus.f k a0 a1) (nat_plus.f (k + 1) a0 a1) := by
  intro a0 a1 k
  unfold nat_plus.f
  split
  · exact nat_plus.gmono _ _ _
  · exact nat_plus.gmono _ _ _
set_option maxHeartbeats 8000000 in
set_option maxRecDepth 100000 in
theorem nat_plus.calls (k : Nat) (A0 : Option Addr) (c0 : Nat) (l0 : List Int) (A1 : Option Addr) (c1 : Nat) (l1 : List Int) (r : List Int) (w : World) (hr0 : Kd.C (Kd.int .u32) w A0 l0.length l0) (hc0 : l0.length ≤ c0) (hr1 : Kd.C (Kd.int .u32) w A1 l1.length l1) (hc1 : l1.length ≤ c1) (h : nat_plus.f k l0 l1 = some r) :
    Calls Tryz.prog 135 #[.slice A0 l0.length c0, .slice A1 l1.length c1] w fun e w' => ∃ v0_ : Value, e = .returned (v0_) ∧ Kd.V (Kd.int .u32) 109 w' w.heap.size (fun k_ => (w.heap.size ≤ k_)) v0_ r ∧ Below w.heap.size w w' := by
  unfold nat_plus.f at h
  by_cases hs : (l0.length : Int) < (l1.length : Int)
  · rw [if_pos hs] at h
    exact nat_plus.calls_lt k A0 c0 l0 A1 c1 l1 r w hr0 hc0 hr1 hc1 (decide_eq_true hs) h
  · rw [if_neg hs] at h
    exact nat_plus.calls_ge k A0 c0 l0 A1 c1 l1 r w hr0 hc0 hr1 hc1 (decide_eq_false hs) h
end Go.Proofs.YtioofhilohmfbaaGreatDoor.P
end
section
namespace Go.Proofs.YtioofhilohmfbaaGreatDoor.P
open Go.RowKit Go.Proofs.YtioofhilohmfbaaGreatDoorW.PrintWords Go.Proofs.YtioofhilohmfbaaGreatDoorW.PrintLast Go.Proofs.YtioofhilohmfbaaGreatDoorW.PrintMore
attribute [local go_sem] max2_int min2_int max_two min_two max_three min_three max_four min_four
set_option linter.unusedVariables false
set_option linter.unusedSimpArgs false
/-! ### nat_Check: function 138 -/
def nat_Check.f (l0 : List Int) : Option (Int) := if (l0.length : Int) > 64 then (some 5) else (if (l0.length : Int) > 0 then (if 0 ≤ (wrap64 ((l0.length : Int) - 1)) then (if (wrap64 ((l0.length : Int) - 1)) < (l0.length : Int) then (if (rd l0 (wrap64 ((l0.length : Int) - 1))) = 0 then (some 2) else (some 0)) else (none)) else (none)) else (some 0))
set_option maxHeartbeats 8000000 in
set_option maxRecDepth 100000 in
theorem nat_Check.calls (A0 : Option Addr) (c0 : Nat) (l0 : List Int) (r : Int) (w : World) (hr0 : Kd.C (Kd.int .u32) w A0 l0.length l0) (hc0 : l0.length ≤ c0) (h : nat_Check.f l0 = some r) :
    Calls Tryz.prog 138 #[.slice A0 l0.length c0] w fun e w' => e = .returned (.int .i64 r) ∧ Drawn0 w w' := by
  have HR0 := Aside0.mk hr0
  have HC0 := Aside0.mk hc0
  clear hr0 hc0
  have H : (if (l0.length : Int) > 64 then (some 5) else (if (l0.length : Int) > 0 then (if 0 ≤ (wrap64 ((l0.length : Int) - 1)) then (if (wrap64 ((l0.length : Int) - 1)) < (l0.length : Int) then (if (rd l0 (wrap64 ((l0.length : Int) - 1))) = 0 then (some 2) else (some 0)) else (none)) else (none)) else (some 0))) = some r := h
  clear h
  by_cases c2 : (l0.length : Int) > 64
  · rw [if_pos c2] at H
    have c2b0 : decide (64 < (l0.length : Int)) = true := decide_eq_true c2
    have c2b1 : decide (64 < l0.length) = true := decide_eq_true (by omega)
    clear c2
    obtain rfl := Option.some.inj H
    go_enter Tryz.func138, Tryz.ntmps138
    go_wp2
    go_ret
    exact ⟨by first | rfl | (simp; done) | (simp [*]; done), by repeat (first | exact Drawn0.refl _ | apply Drawn0.step)⟩
  · rw [if_neg c2] at H
    have c2b0 : decide (64 < (l0.length : Int)) = false := decide_eq_false c2
    have c2b1 : decide (64 < l0.length) = false := decide_eq_false (by omega)
    clear c2
    by_cases c3 : (l0.length : Int) > 0
    · rw [if_pos c3] at H
      have c3b0 : decide (0 < (l0.length : Int)) = true := decide_eq_true c3
      have c3b1 : decide (0 < l0.length) = true := decide_eq_true (by omega)
      clear c3
      obtain ⟨ji4, hji4⟩ : ∃ j_ : Int, (wrap64 ((l0.length : Int) - 1)) = j_ := ⟨_, rfl⟩
      replace H : (if 0 ≤ (ji4) then (if (ji4) < (l0.length : Int) then (if (rd l0 (ji4)) = 0 then (some 2) else (some 0)) else (none)) else (none)) = some r := by first | (rw [hji4] at H; exact H) | (simp only [hji4] at H ⊢; exact H)
      have hji4w : (IntKind.i64.wrap ((l0.length : Int) - 1)) = ji4 := (i64_w _).trans hji4
      by_cases c5 : 0 ≤ (ji4)
      · rw [if_pos c5] at H
        have c5b0 : decide (0 ≤ (ji4)) = true := decide_eq_true c5
        clear c5
        by_cases c6 : (ji4) < (l0.length : Int)
        · rw [if_pos c6] at H
          have c6b0 : decide ((ji4) < (l0.length : Int)) = true := decide_eq_true c6
          clear c6
          by_cases c7 : (rd l0 (ji4)) = 0
          · rw [if_pos c7] at H
            have c7b0 : ((rd l0 (ji4)) == 0) = true := beq_iff_eq.mpr c7
            have c7b1 : ((rd l0 (ji4)) != 0) = false := bne_eq_false_iff_eq.mpr c7
            clear c7
            obtain rfl := Option.some.inj H
            have p1 : 0 ≤ ((ji4) : Int) := of_decide_eq_true (by first | (with_reducible assumption) | assumption)
            have q1 : (ji4) < (l0.length : Int) := of_decide_eq_true (by first | (with_reducible assumption) | assumption)
            obtain ⟨ad1, e1, hx1_0⟩ := Kd.at_int HR0.out (ji4) p1 q1
            cases e1
            replace p1 := eq_true p1
            replace q1 := eq_true q1
            go_enter Tryz.func138, Tryz.ntmps138
            go_wp2
            go_ret
            exact ⟨by first | rfl | (simp; done) | (simp only [← hji4] <;> (first | rfl | simp)) | (simp [*]; done), by repeat (first | exact Drawn0.refl _ | apply Drawn0.step)⟩
          · rw [if_neg c7] at H
            have c7b0 : ((rd l0 (ji4)) == 0) = false := beq_eq_false_iff_ne.mpr c7
            have c7b1 : ((rd l0 (ji4)) != 0) = true := bne_iff_ne.mpr c7
            obtain rfl := Option.some.inj H
            have p1 : 0 ≤ ((ji4) : Int) := of_decide_eq_true (by first | (with_reducible assumption) | assumption)
            have q1 : (ji4) < (l0.length : Int) := of_decide_eq_true (by first | (with_reducible assumption) | assumption)
            obtain ⟨ad1, e1, hx1_0⟩ := Kd.at_int HR0.out (ji4) p1 q1
            cases e1
            replace p1 := eq_true p1
            replace q1 := eq_true q1
            go_enter Tryz.func138, Tryz.ntmps138
            go_wp2
            go_ret
            exact ⟨by first | rfl | (simp; done) | (simp only [← hji4] <;> (first | rfl | simp)) | (simp [*]; done), by repeat (first | exact Drawn0.refl _ | apply Drawn0.step)⟩
        · rw [if_neg c6] at H
          exact absurd H (by simp)
      · rw [if_neg c5] at H
        exact absurd H (by simp)
    · rw [if_neg c3] at H
      have c3b0 : decide (0 < (l0.length : Int)) = false := decide_eq_false c3
      have c3b1 : decide (0 < l0.length) = false := decide_eq_false (by omega)
      clear c3
      obtain rfl := Option.some.inj H
      go_enter Tryz.func138, Tryz.ntmps138
      go_wp2
      go_ret
      exact ⟨by first | rfl | (simp; done) | (simp [*]; done), by repeat (first | exact Drawn0.refl _ | apply Drawn0.step)⟩
end Go.Proofs.YtioofhilohmfbaaGreatDoor.P
end
section
namespace Go.Proofs.YtioofhilohmfbaaGreatDoor.P
open Go.RowKit Go.Proofs.YtioofhilohmfbaaGreatDoorW.PrintWords Go.Proofs.YtioofhilohmfbaaGreatDoorW.PrintLast Go.Proofs.YtioofhilohmfbaaGreatDoorW.PrintMore
attribute [local go_sem] max2_int min2_int max_two min_two max_three min_three max_four min_four
set_option linter.unusedVariables false
set_option linter.unusedSimpArgs false
/-! ### nat_both: function 163 -/
def nat_both.f (l0 : List Int) (l1 : List Int) : Option (Int) := (nat_Check.f l0).bind fun t1 => (if t1 = 0 then ((nat_Check.f l1).bind fun t2 => (some t2)) else (some t1))
set_option maxHeartbeats 8000000 in
set_option maxRecDepth 100000 in
theorem nat_both.calls (A0 : Option Addr) (c0 : Nat) (l0 : List Int) (A1 : Option Addr) (c1 : Nat) (l1 : List Int) (r : Int) (w : World) (hr0 : Kd.C (Kd.int .u32) w A0 l0.length l0) (hc0 : l0.length ≤ c0) (hr1 : Kd.C (Kd.int .u32) w A1 l1.length l1) (hc1 : l1.length ≤ c1) (h : nat_both.f l0 l1 = some r) :
    Calls Tryz.prog 163 #[.slice A0 l0.length c0, .slice A1 l1.length c1] w fun e w' => e = .returned (.int .i64 r) ∧ Drawn0 w w' := by
  have HR0 := Aside0.mk hr0
  have HC0 := Aside0.mk hc0
  clear hr0 hc0
  have HR1 := Aside0.mk hr1
  have HC1 := Aside0.mk hc1
  clear hr1 hc1
  have H : ((nat_Check.f l0).bind fun t1 => (if t1 = 0 then ((nat_Check.f l1).bind fun t2 => (some t2)) else (some t1))) = some r := h
  clear h
  replace H := Option.bind_eq_some_iff.mp H
  obtain ⟨t1, A30, H⟩ := H
  replace H : (if t1 = 0 then ((nat_Check.f l1).bind fun t2 => (some t2)) else (some t1)) = some r := H
  have A3 := Aside0.mk A30
  clear A30
  by_cases c4 : t1 = 0
  · rw [if_pos c4] at H
    have c4b0 : (t1 == 0) = true := beq_iff_eq.mpr c4
    have c4b1 : (t1 != 0) = false := bne_eq_false_iff_eq.mpr c4
    clear c4
    replace H := Option.bind_eq_some_iff.mp H
    obtain ⟨t2, A50, H⟩ := H
    replace H : (some t2) = some r := H
    have A5 := Aside0.mk A50
    clear A50
    obtain rfl := Option.some.inj H
    go_enter Tryz.func163, Tryz.ntmps163
    go_wp2_with (first | (go_at_call 138; (with_reducible refine (nat_Check.calls _ _ l0 t1 _ ?side1 ?side2 A3.out).mono ?_); (case side1 => exact cc HR0.out); (case side2 => exact HC0.out); rintro e w' ⟨rfl, ⟨nd, rfl⟩⟩) | (go_at_call 138; (with_reducible refine (nat_Check.calls _ _ l1 t2 _ ?side1 ?side2 A5.out).mono ?_); (case side1 => exact cc HR1.out); (case side2 => exact HC1.out); rintro e w' ⟨rfl, ⟨nd, rfl⟩⟩))
    go_ret
    exact ⟨by first | rfl | (simp; done) | (simp [*]; done), by repeat (first | exact Drawn0.refl _ | apply Drawn0.step)⟩
  · rw [if_neg c4] at H
    have c4b0 : (t1 == 0) = false := beq_eq_false_iff_ne.mpr c4
    have c4b1 : (t1 != 0) = true := bne_iff_ne.mpr c4
    obtain rfl := Option.some.inj H
    go_enter Tryz.func163, Tryz.ntmps163
    go_wp2_with (first | (go_at_call 138; (with_reducible refine (nat_Check.calls _ _ l0 t1 _ ?side1 ?side2 A3.out).mono ?_); (case side1 => exact cc HR0.out); (case side2 => exact HC0.out); rintro e w' ⟨rfl, ⟨nd, rfl⟩⟩))
    go_ret
    exact ⟨by first | rfl | (simp; done) | (simp [*]; done), by repeat (first | exact Drawn0.refl _ | apply Drawn0.step)⟩
end Go.Proofs.YtioofhilohmfbaaGreatDoor.P
end
section
namespace Go.Proofs.YtioofhilohmfbaaGreatDoor.P
open Go.RowKit Go.Proofs.YtioofhilohmfbaaGreatDoorW.PrintWords Go.Proofs.YtioofhilohmfbaaGreatDoorW.PrintLast Go.Proofs.YtioofhilohmfbaaGreatDoorW.PrintMore
attribute [local go_sem] max2_int min2_int max_two min_two max_three min_three max_four min_four
set_option linter.unusedVariables false
set_option linter.unusedSimpArgs false
/-! ### nat_Gcd: function 130 -/
def nat_Gcd.l0 : Nat → List Int → List Int → Option (List Int × Int)
  | 0, _, _ => none
  | k + 1, x7, x8 => if (x8.length : Int) > 0 then ((nat_divide.f x7 x8).bind fun bt8 => (nat_Gcd.l0 k x8 bt8.2)) else (some (x7, 0))
def nat_Gcd.f (k : Nat) (l0 : List Int) (l1 : List Int) : Option (List Int × Int) := (nat_both.f l0 l1).bind fun t1 => (if t1 = 0 then ((slices_Clone_uint32_uint32.f l0).bind fun t2 => ((slices_Clone_uint32_uint32.f l1).bind fun t5 => (nat_Gcd.l0 k t2 t5))) else (some (([] : List Int), t1)))
theorem nat_Gcd.mono_l : ∀ k, (∀ y0 y1, LeO (nat_Gcd.l0 k y0 y1) (nat_Gcd.l0 (k + 1) y0 y1))
  | 0 => fun _ _ r h => by simp [nat_Gcd.l0] at h
  | k + 1 => by
    have ih0 := nat_Gcd.mono_l k
    · intro y0 y1
      unfold nat_Gcd.l0
      repeat' first
      | (with_reducible exact ih0 _ _)
      | (with_reducible exact LeO.refl _)
      | (with_reducible exact LeO.none _)
      | (with_reducible refine LeO.ite ?_ ?_)
      | (with_reducible refine LeO.bind ?_ (fun _ => ?_))
      | exact ih0 _ _
      | exact LeO.none _
      | refine LeO.ite ?_ ?_
      | refine LeO.bind ?_ (fun _ => ?_)
theorem nat_Gcd.mono : ∀ a0 a1 k, LeO (nat_Gcd.f k a0 a1) (nat_Gcd.f (k + 1) a0 a1) := by
  intro a0 a1 k
  have ih0 := nat_Gcd.mono_l k
  unfold nat_Gcd.f
  repeat' first
      | (with_reducible exact ih0 _ _)
      | (with_reducible exact LeO.refl _)
      | (with_reducible exact LeO.none _)
      | (with_reducible refine LeO.ite ?_ ?_)
      | (with_reducible refine LeO.bind ?_ (fun _ => ?_))
      | exact ih0 _ _
      | exact LeO.none _
      | refine LeO.ite ?_ ?_
      | refine LeO.bind ?_ (fun _ => ?_)
set_option maxHeartbeats 8000000 in
set_option maxRecDepth 100000 in
theorem nat_Gcd.calls (k : Nat) (A0 : Option Addr) (c0 : Nat) (l0 : List Int) (A1 : Option Addr) (c1 : Nat) (l1 : List Int) (r1 : List Int) (r2 : Int) (w : World) (hr0 : Kd.C (Kd.int .u32) w A0 l0.length l0) (hc0 : l0.length ≤ c0) (hr1 : Kd.C (Kd.int .u32) w A1 l1.length l1) (hc1 : l1.length ≤ c1) (h : nat_Gcd.f k l0 l1 = some (r1, r2)) :
    Calls Tryz.prog 130 #[.slice A0 l0.length c0, .slice A1 l1.length c1] w fun e w' => ∃ v0_ : Value, e = .returned (.tuple #[v0_, .int .i64 r2]) ∧ Kd.R (Kd.int .u32) 109 w' w.heap.size (fun _ => True) v0_ r1 ∧ Below w.heap.size w w' := by
  have HR0 := Aside0.mk hr0
  have HC0 := Aside0.mk hc0
  clear hr0 hc0
  have HR1 := Aside0.mk hr1
  have HC1 := Aside0.mk hc1
  clear hr1 hc1
  have HB := Aside0.mk (Below.refl w.heap.size w)
  have H : ((nat_both.f l0 l1).bind fun t1 => (if t1 = 0 then ((slices_Clone_uint32_uint32.f l0).bind fun t2 => ((slices_Clone_uint32_uint32.f l1).bind fun t5 => (nat_Gcd.l0 k t2 t5))) else (some (([] : List Int), t1)))) = some (r1, r2) := h
  clear h
  replace H := Option.bind_eq_some_iff.mp H
  obtain ⟨t1, A30, H⟩ := H
  replace H : (if t1 = 0 then ((slices_Clone_uint32_uint32.f l0).bind fun t2 => ((slices_Clone_uint32_uint32.f l1).bind fun t5 => (nat_Gcd.l0 k t2 t5))) else (some (([] : List Int), t1))) = some (r1, r2) := H
  have A3 := Aside0.mk A30
  clear A30
  by_cases c4 : t1 = 0
  · rw [if_pos c4] at H
    have c4b0 : (t1 == 0) = true := beq_iff_eq.mpr c4
    have c4b1 : (t1 != 0) = false := bne_eq_false_iff_eq.mpr c4
    clear c4
    replace H := Option.bind_eq_some_iff.mp H
    obtain ⟨t2, A50, H⟩ := H
    replace H : ((slices_Clone_uint32_uint32.f l1).bind fun t5 => (nat_Gcd.l0 k t2 t5)) = some (r1, r2) := H
    have A5 := Aside0.mk A50
    clear A50
    replace H := Option.bind_eq_some_iff.mp H
    obtain ⟨t5, A60, H⟩ := H
    replace H : (nat_Gcd.l0 k t2 t5) = some (r1, r2) := H
    have A6 := Aside0.mk A60
    clear A60
    have H' := Aside0.mk H
    clear H
    go_enter Tryz.func130, Tryz.ntmps130
    go_wp2_with (first | (go_at_call 163; (with_reducible refine (nat_both.calls _ _ l0 _ _ l1 t1 _ ?side1 ?side2 ?side3 ?side4 A3.out).mono ?_); (case side1 => exact cc HR0.out); (case side2 => exact HC0.out); (case side3 => exact cc HR1.out); (case side4 => exact HC1.out); rintro e w' ⟨rfl, ⟨nd, rfl⟩⟩) | (go_at_call 90; (with_reducible refine (slices_Clone_uint32_uint32.calls _ _ l0 t2 _ ?side1 ?side2 A5.out).mono ?_); (case side1 => exact cc HR0.out); (case side2 => exact HC0.out); rintro e w7 ⟨v3, rfl, ho0, hb⟩; have n0_ := Aside0.mk (Kd.R_lower ho0 (below_size (lc HB.out))); have n1_ := Aside0.mk (below_step (lc HB.out) hb); clear HB; have HO4 := n0_; have HB := n1_; clear n0_ n1_; (try clear hb); (try clear hb2); (try clear hk); (try clear hi); (try clear ho0)) | (go_at_call 90; (with_reducible refine (slices_Clone_uint32_uint32.calls _ _ l1 t5 _ ?side1 ?side2 A6.out).mono ?_); (case side1 => exact cc (Kd.C_below HR1.out HB.out)); (case side2 => exact HC1.out); rintro e w8 ⟨v6, rfl, ho0, hb⟩; have n0_ := Aside0.mk (Kd.R_elder' (rc HO4.out) (Kd.R_base ho0) hb); have n1_ := Aside0.mk (Kd.R_lower (Kd.R_new' ho0 (Kd.R_lt (rc HO4.out))) (below_size (lc HB.out))); have n2_ := Aside0.mk (below_step (lc HB.out) hb); clear HO4; clear HB; have HO4 := n0_; have HO7 := n1_; have HB := n2_; clear n0_ n1_ n2_; (try clear hb); (try clear hb2); (try clear hk); (try clear hi); (try clear ho0)))
    go_loopg [7, 8] k (fun kq v7 v8 w' => ∃ (x7_1 : List Int) (x8_1 : List Int), Aside0 (nat_Gcd.l0 kq x7_1 x8_1 = some (r1, r2)) ∧ Aside0 (kq ≤ k) ∧ Aside0 (Kd.R (Kd.int .u32) 109 w' w.heap.size (fun k_ => some k_ ≠ (v8 : Value).ownBlock) v7 x7_1) ∧ Aside0 (Kd.R (Kd.int .u32) 109 w' w.heap.size (fun k_ => some k_ ≠ (v7 : Value).ownBlock) v8 x8_1) ∧ Aside0 (Below w.heap.size w w'))
    case atStart => exact ⟨(t2), (t5), H', ⟨Nat.le_refl _⟩, ⟨by (with_reducible repeat (first | apply Kd.R_alloc | apply Kd.R_drewN | apply Kd.R_drew)); exact Kd.R_mono HO4.out (fun _ hk => hk.2)⟩, ⟨by (with_reducible repeat (first | apply Kd.R_alloc | apply Kd.R_drewN | apply Kd.R_drew)); exact Kd.R_mono HO7.out (fun _ hk => hk.2)⟩, ⟨by exact lc HB.out⟩⟩
    case round =>
      clear H'
      try clear c1
      try clear p2
      try clear c4
      try clear c4b0
      try clear c4b1
      obtain ⟨x7_1, x8_1, HA, HK1, HO_7, HO_8, HB⟩ := hrel
      cases gk with
      | zero => exact absurd HA.out (by simp [nat_Gcd.l0])
      | succ k1 =>
        have H := HA.out
        clear HA
        simp only [nat_Gcd.l0] at H
        by_cases c9 : (x8_1.length : Int) > 0
        · rw [if_pos c9] at H
          have c9b0 : decide (0 < (x8_1.length : Int)) = true := decide_eq_true c9
          have c9b1 : decide (0 < x8_1.length) = true := decide_eq_true (by omega)
          clear c9
          replace H := Option.bind_eq_some_iff.mp H
          obtain ⟨⟨t8, t9⟩, A100, H⟩ := H
          replace H : (nat_Gcd.l0 k1 x8_1 t9) = some (r1, r2) := H
          have A10 := Aside0.mk A100
          clear A100
          have H' := Aside0.mk H
          clear H
          obtain ⟨Ao11, co11, eo11⟩ := Kd.R_slice HO_8.out
          subst eo11
          obtain ⟨Ao12, co12, eo12⟩ := Kd.R_slice HO_7.out
          subst eo12
          go_wp2_with (first | (go_at_call 164; (with_reducible refine (nat_divide.calls _ _ x7_1 _ _ x8_1 t8 t9 _ ?side1 ?side2 ?side3 ?side4 A10.out).mono ?_); (case side1 => exact cc (Kd.R_reads' HO_7.out).2.2); (case side2 => exact (Kd.R_reads' HO_7.out).2.1); (case side3 => exact cc (Kd.R_reads' HO_8.out).2.2); (case side4 => exact (Kd.R_reads' HO_8.out).2.1); rintro e w13 ⟨v10, v12, rfl, ho0, ho1, hb⟩; have n0_ := Aside0.mk (Kd.R_mono (Kd.R_told (Kd.R_told (Kd.R_old (rc HO_7.out) hb) (Kd.R_base ho0)) (Kd.R_base ho1)) (fun _ h_ => h_.1)); have n1_ := Aside0.mk (Kd.R_mono (Kd.R_told (Kd.R_told (Kd.R_old (rc HO_8.out) hb) (Kd.R_base ho0)) (Kd.R_base ho1)) (fun _ h_ => h_.1)); have n2_ := Aside0.mk (Kd.R_lower (Kd.R_new' (Kd.R_new' ho0 (Kd.R_lt (rc HO_7.out))) (Kd.R_lt (rc HO_8.out))) (below_size (lc HB.out))); have n3_ := Aside0.mk (Kd.R_lower (Kd.R_new' (Kd.R_new' ho1 (Kd.R_lt (rc HO_7.out))) (Kd.R_lt (rc HO_8.out))) (below_size (lc HB.out))); have n4_ := Aside0.mk (below_step (lc HB.out) hb); clear HO_7; clear HO_8; clear HB; have HO_7 := n0_; have HO_8 := n1_; have HO11 := n2_; have HO13 := n3_; have HB := n4_; clear n0_ n1_ n2_ n3_ n4_; (try clear hb); (try clear hb2); (try clear hk); (try clear hi); (try clear ho0); (try clear ho1)))
          go_roundg k1
          case measure => have := HK1.out; omega
          case rel => exact ⟨(x8_1), (t9), H', ⟨by have := HK1.out; omega⟩, ⟨by (with_reducible repeat (first | apply Kd.R_alloc | apply Kd.R_drewN | apply Kd.R_drew)); exact Kd.R_mono HO_8.out (fun _ hk => hk.2)⟩, ⟨by (with_reducible repeat (first | apply Kd.R_alloc | apply Kd.R_drewN | apply Kd.R_drew)); exact Kd.R_mono HO13.out (fun _ hk => hk.2)⟩, ⟨by exact lc HB.out⟩⟩
        · rw [if_neg c9] at H
          have c9b0 : decide (0 < (x8_1.length : Int)) = false := decide_eq_false c9
          have c9b1 : decide (0 < x8_1.length) = false := decide_eq_false (by omega)
          clear c9
          simp only [Option.some.injEq, Prod.mk.injEq] at H
          obtain ⟨rfl, rfl⟩ := H
          obtain ⟨Ao14, co14, eo14⟩ := Kd.R_slice HO_8.out
          subst eo14
          go_wp2
          go_ret2
          exact ⟨_, by first | rfl | (simp [errW_none, errW_some] <;> rfl) | (simp [*, errW_none, errW_some] <;> rfl), by (with_reducible repeat (first | apply Kd.R_alloc | apply Kd.R_drewN | apply Kd.R_drew)); exact Kd.R_mono HO_7.out (fun _ hk => trivial), by exact lc HB.out⟩
  · rw [if_neg c4] at H
    have c4b0 : (t1 == 0) = false := beq_eq_false_iff_ne.mpr c4
    have c4b1 : (t1 != 0) = true := bne_iff_ne.mpr c4
    simp only [Option.some.injEq, Prod.mk.injEq] at H
    obtain ⟨rfl, rfl⟩ := H
    go_enter Tryz.func130, Tryz.ntmps130
    go_wp2_with (first | (go_at_call 163; (with_reducible refine (nat_both.calls _ _ l0 _ _ l1 t1 _ ?side1 ?side2 ?side3 ?side4 A3.out).mono ?_); (case side1 => exact cc HR0.out); (case side2 => exact HC0.out); (case side3 => exact cc HR1.out); (case side4 => exact HC1.out); rintro e w' ⟨rfl, ⟨nd, rfl⟩⟩))
    go_ret2
    exact ⟨_, by first | rfl | (simp [errW_none, errW_some] <;> rfl) | (simp [*, errW_none, errW_some] <;> rfl), by first | exact Kd.R_nil _ _ _ _ _ | exact Kd.N_nil _ _ _ _ _ | exact Kd.V_nil _ _ _ _ _ | exact Kd.Q_nil _ _ _ _ _ | exact Kd.S_nil _ _ _ _ _, by exact lc HB.out⟩
end Go.Proofs.YtioofhilohmfbaaGreatDoor.P
end
section
namespace Go.Proofs.YtioofhilohmfbaaGreatDoor.P
open Go.RowKit Go.Proofs.YtioofhilohmfbaaGreatDoorW.PrintWords Go.Proofs.YtioofhilohmfbaaGreatDoorW.PrintLast Go.Proofs.YtioofhilohmfbaaGreatDoorW.PrintMore
attribute [local go_sem] max2_int min2_int max_two min_two max_three min_three max_four min_four
set_option linter.unusedVariables false
set_option linter.unusedSimpArgs false
/-! ### nat_Div: function 168 -/
def nat_Div.f (l0 : List Int) (l1 : List Int) : Option (List Int × List Int × Int) := (nat_both.f l0 l1).bind fun t1 => (if t1 = 0 then (if (l1.length : Int) = 0 then (some (([] : List Int), ([] : List Int), 21)) else ((nat_divide.f l0 l1).bind fun bt2 => (some (bt2.1, bt2.2, 0)))) else (some (([] : List Int), ([] : List Int), t1)))
set_option maxHeartbeats 8000000 in
set_option maxRecDepth 100000 in
theorem nat_Div.calls (A0 : Option Addr) (c0 : Nat) (l0 : List Int) (A1 : Option Addr) (c1 : Nat) (l1 : List Int) (r1 : List Int) (r2 : List Int) (r3 : Int) (w : World) (hr0 : Kd.C (Kd.int .u32) w A0 l0.length l0) (hc0 : l0.length ≤ c0) (hr1 : Kd.C (Kd.int .u32) w A1 l1.length l1) (hc1 : l1.length ≤ c1) (h : nat_Div.f l0 l1 = some (r1, r2, r3)) :
    Calls Tryz.prog 168 #[.slice A0 l0.length c0, .slice A1 l1.length c1] w fun e w' => ∃ v0_ v1_ : Value, e = .returned (.tuple #[v0_, v1_, .int .i64 r3]) ∧ Kd.R (Kd.int .u32) 109 w' w.heap.size (fun k_ => some k_ ≠ (v1_ : Value).ownBlock) v0_ r1 ∧ Kd.R (Kd.int .u32) 109 w' w.heap.size (fun k_ => some k_ ≠ (v0_ : Value).ownBlock) v1_ r2 ∧ Below w.heap.size w w' := by
  have HR0 := Aside0.mk hr0
  have HC0 := Aside0.mk hc0
  clear hr0 hc0
  have HR1 := Aside0.mk hr1
  have HC1 := Aside0.mk hc1
  clear hr1 hc1
  have HB := Aside0.mk (Below.refl w.heap.size w)
  have H : ((nat_both.f l0 l1).bind fun t1 => (if t1 = 0 then (if (l1.length : Int) = 0 then (some (([] : List Int), ([] : List Int), 21)) else ((nat_divide.f l0 l1).bind fun bt2 => (some (bt2.1, bt2.2, 0)))) else (some (([] : List Int), ([] : List Int), t1)))) = some (r1, r2, r3) := h
  clear h
  replace H := Option.bind_eq_some_iff.mp H
  obtain ⟨t1, A30, H⟩ := H
  replace H : (if t1 = 0 then (if (l1.length : Int) = 0 then (some (([] : List Int), ([] : List Int), 21)) else ((nat_divide.f l0 l1).bind fun bt2 => (some (bt2.1, bt2.2, 0)))) else (some (([] : List Int), ([] : List Int), t1))) = some (r1, r2, r3) := H
  have A3 := Aside0.mk A30
  clear A30
  by_cases c4 : t1 = 0
  · rw [if_pos c4] at H
    have c4b0 : (t1 == 0) = true := beq_iff_eq.mpr c4
    have c4b1 : (t1 != 0) = false := bne_eq_false_iff_eq.mpr c4
    clear c4
    by_cases c5 : (l1.length : Int) = 0
    · rw [if_pos c5] at H
      have c5b0 : ((l1.length : Int) == 0) = true := beq_iff_eq.mpr c5
      have c5b1 : ((l1.length : Int) != 0) = false := bne_eq_false_iff_eq.mpr c5
      clear c5
      simp only [Option.some.injEq, Prod.mk.injEq] at H
      obtain ⟨rfl, rfl, rfl⟩ := H
      go_enter Tryz.func168, Tryz.ntmps168
      go_wp2_with (first | (go_at_call 163; (with_reducible refine (nat_both.calls _ _ l0 _ _ l1 t1 _ ?side1 ?side2 ?side3 ?side4 A3.out).mono ?_); (case side1 => exact cc HR0.out); (case side2 => exact HC0.out); (case side3 => exact cc HR1.out); (case side4 => exact HC1.out); rintro e w' ⟨rfl, ⟨nd, rfl⟩⟩))
      go_ret3
      exact ⟨_, _, by first | rfl | (simp [errW_none, errW_some] <;> rfl) | (simp [*, errW_none, errW_some] <;> rfl), by first | exact Kd.R_nil _ _ _ _ _ | exact Kd.N_nil _ _ _ _ _ | exact Kd.V_nil _ _ _ _ _ | exact Kd.Q_nil _ _ _ _ _ | exact Kd.S_nil _ _ _ _ _, by first | exact Kd.R_nil _ _ _ _ _ | exact Kd.N_nil _ _ _ _ _ | exact Kd.V_nil _ _ _ _ _ | exact Kd.Q_nil _ _ _ _ _ | exact Kd.S_nil _ _ _ _ _, by exact lc HB.out⟩
    · rw [if_neg c5] at H
      have c5b0 : ((l1.length : Int) == 0) = false := beq_eq_false_iff_ne.mpr c5
      have c5b1 : ((l1.length : Int) != 0) = true := bne_iff_ne.mpr c5
      have c5b2 : ¬ (l1 = []) := fun h_ => c5 (by rw [h_]; rfl)
      replace H := Option.bind_eq_some_iff.mp H
      obtain ⟨⟨t2, t3⟩, A60, H⟩ := H
      replace H : (some (t2, t3, 0)) = some (r1, r2, r3) := H
      have A6 := Aside0.mk A60
      clear A60
      simp only [Option.some.injEq, Prod.mk.injEq] at H
      obtain ⟨rfl, rfl, rfl⟩ := H
      go_enter Tryz.func168, Tryz.ntmps168
      go_wp2_with (first | (go_at_call 163; (with_reducible refine (nat_both.calls _ _ l0 _ _ l1 t1 _ ?side1 ?side2 ?side3 ?side4 A3.out).mono ?_); (case side1 => exact cc HR0.out); (case side2 => exact HC0.out); (case side3 => exact cc HR1.out); (case side4 => exact HC1.out); rintro e w' ⟨rfl, ⟨nd, rfl⟩⟩) | (go_at_call 164; (with_reducible refine (nat_divide.calls _ _ l0 _ _ l1 t2 t3 _ ?side1 ?side2 ?side3 ?side4 A6.out).mono ?_); (case side1 => exact cc HR0.out); (case side2 => exact HC0.out); (case side3 => exact cc HR1.out); (case side4 => exact HC1.out); rintro e w7 ⟨v4, v6, rfl, ho0, ho1, hb⟩; have n0_ := Aside0.mk (Kd.R_lower ho0 (below_size (lc HB.out))); have n1_ := Aside0.mk (Kd.R_lower ho1 (below_size (lc HB.out))); have n2_ := Aside0.mk (below_step (lc HB.out) hb); clear HB; have HO5 := n0_; have HO7 := n1_; have HB := n2_; clear n0_ n1_ n2_; (try clear hb); (try clear hb2); (try clear hk); (try clear hi); (try clear ho0); (try clear ho1)))
      go_ret3
      exact ⟨_, _, by first | rfl | (simp [errW_none, errW_some] <;> rfl) | (simp [*, errW_none, errW_some] <;> rfl), by (with_reducible repeat (first | apply Kd.R_alloc | apply Kd.R_drewN | apply Kd.R_drew)); exact HO5.out, by (with_reducible repeat (first | apply Kd.R_alloc | apply Kd.R_drewN | apply Kd.R_drew)); exact HO7.out, by exact lc HB.out⟩
  · rw [if_neg c4] at H
    have c4b0 : (t1 == 0) = false := beq_eq_false_iff_ne.mpr c4
    have c4b1 : (t1 != 0) = true := bne_iff_ne.mpr c4
    simp only [Option.some.injEq, Prod.mk.injEq] at H
    obtain ⟨rfl, rfl, rfl⟩ := H
    go_enter Tryz.func168, Tryz.ntmps168
    go_wp2_with (first | (go_at_call 163; (with_reducible refine (nat_both.calls _ _ l0 _ _ l1 t1 _ ?side1 ?side2 ?side3 ?side4 A3.out).mono ?_); (case side1 => exact cc HR0.out); (case side2 => exact HC0.out); (case side3 => exact cc HR1.out); (case side4 => exact HC1.out); rintro e w' ⟨rfl, ⟨nd, rfl⟩⟩))
    go_ret3
    exact ⟨_, _, by first | rfl | (simp [errW_none, errW_some] <;> rfl) | (simp [*, errW_none, errW_some] <;> rfl), by first | exact Kd.R_nil _ _ _ _ _ | exact Kd.N_nil _ _ _ _ _ | exact Kd.V_nil _ _ _ _ _ | exact Kd.Q_nil _ _ _ _ _ | exact Kd.S_nil _ _ _ _ _, by first | exact Kd.R_nil _ _ _ _ _ | exact Kd.N_nil _ _ _ _ _ | exact Kd.V_nil _ _ _ _ _ | exact Kd.Q_nil _ _ _ _ _ | exact Kd.S_nil _ _ _ _ _, by exact lc HB.out⟩
end Go.Proofs.YtioofhilohmfbaaGreatDoor.P
end
section
namespace Go.Proofs.YtioofhilohmfbaaGreatDoor.P
open Go.RowKit Go.Proofs.YtioofhilohmfbaaGreatDoorW.PrintWords Go.Proofs.YtioofhilohmfbaaGreatDoorW.PrintLast Go.Proofs.YtioofhilohmfbaaGreatDoorW.PrintMore
attribute [local go_sem] max2_int min2_int max_two min_two max_three min_three max_four min_four
set_option linter.unusedVariables false
set_option linter.unusedSimpArgs false
/-! ### rat_one: function 132 -/
def rat_one.f (k : Nat)  : Option (List Int) := (nat_Of.f k 1).bind fun t1 => (some t1)
theorem rat_one.mono : ∀ k, LeO (rat_one.f k ) (rat_one.f (k + 1) ) := by
  intro  k
  unfold rat_one.f
  repeat' first
      | (with_reducible exact nat_Of.mono _ _)
      | (with_reducible exact LeO.refl _)
      | (with_reducible exact LeO.none _)
      | (with_reducible refine LeO.ite ?_ ?_)
      | (with_reducible refine LeO.bind ?_ (fun _ => ?_))
      | exact nat_Of.mono _ _
      | exact LeO.none _
      | refine LeO.ite ?_ ?_
      | refine LeO.bind ?_ (fun _ => ?_)
set_option maxHeartbeats 8000000 in
set_option maxRecDepth 100000 in
theorem rat_one.calls (k : Nat)  (r : List Int) (w : World) (h : rat_one.f k  = some r) :
    Calls Tryz.prog 132 #[] w fun e w' => ∃ v0_ : Value, e = .returned (v0_) ∧ Kd.V (Kd.int .u32) 109 w' w.heap.size (fun k_ => (w.heap.size ≤ k_)) v0_ r ∧ Below w.heap.size w w' := by
  have HB := Aside0.mk (Below.refl w.heap.size w)
  have H : ((nat_Of.f k 1).bind fun t1 => (some t1)) = some r := h
  clear h
  replace H := Option.bind_eq_some_iff.mp H
  obtain ⟨t1, A10, H⟩ := H
  replace H : (some t1) = some r := H
  have A1 := Aside0.mk A10
  clear A10
  obtain rfl := Option.some.inj H
  go_enter Tryz.func132, Tryz.ntmps132
  go_wp2_with (first | (go_at_call 137; (with_reducible refine (nat_Of.calls k 1 t1 _ A1.out).mono ?_); rintro e w2 ⟨v2, rfl, ho0, hb⟩; have n0_ := Aside0.mk (Kd.V_lower (Kd.V_mono (ok' := fun k_ => (w.heap.size ≤ k_)) ho0 (fun k_ hk_ => (Nat.le_trans (below_size (lc HB.out)) hk_))) (below_size (lc HB.out))); have n1_ := Aside0.mk (below_step (lc HB.out) hb); clear HB; have HO3 := n0_; have HB := n1_; clear n0_ n1_; (try clear hb); (try clear hb2); (try clear hk); (try clear hi); (try clear ho0)))
  go_ret
  exact ⟨_, by first | rfl | (simp [errW_none, errW_some] <;> rfl) | (simp [*, errW_none, errW_some] <;> rfl), by (with_reducible repeat (first | apply Kd.V_alloc | apply Kd.V_drewN | apply Kd.V_drew)); exact HO3.out, by exact lc HB.out⟩
end Go.Proofs.YtioofhilohmfbaaGreatDoor.P
end
section
namespace Go.Proofs.YtioofhilohmfbaaGreatDoor.P
open Go.RowKit Go.Proofs.YtioofhilohmfbaaGreatDoorW.PrintWords Go.Proofs.YtioofhilohmfbaaGreatDoorW.PrintLast Go.Proofs.YtioofhilohmfbaaGreatDoorW.PrintMore
attribute [local go_sem] max2_int min2_int max_two min_two max_three min_three max_four min_four
set_option linter.unusedVariables false
set_option linter.unusedSimpArgs false
/-! ### slices_Equal_uint32_uint32: function 131 -/
def slices_Equal_uint32_uint32.l0 : Nat → List Int → List Int → Int → Int → Option (Bool)
  | 0, _, _, _, _ => none
  | k + 1, x0, x1, x12, x13 => if x13 < x12 then (if 0 ≤ x13 then (if x13 < (x0.length : Int) then (if x13 < (x1.length : Int) then (if (rd x0 x13) = (rd x1 x13) then (slices_Equal_uint32_uint32.l0 k x0 x1 x12 (wrap64 (x13 + 1))) else (some false)) else (none)) else (none)) else (none)) else (some true)
def slices_Equal_uint32_uint32.f (k : Nat) (l0 : List Int) (l1 : List Int) : Option (Bool) := if (l0.length : Int) = (l1.length : Int) then (slices_Equal_uint32_uint32.l0 k l0 l1 (l0.length : Int) 0) else (some false)
theorem slices_Equal_uint32_uint32.mono_l : ∀ k, (∀ y0 y1 y2 y3, LeO (slices_Equal_uint32_uint32.l0 k y0 y1 y2 y3) (slices_Equal_uint32_uint32.l0 (k + 1) y0 y1 y2 y3))
  | 0 => fun _ _ _ _ r h => by simp [slices_Equal_uint32_uint32.l0] at h
  | k + 1 => by
    have ih0 := slices_Equal_uint32_uint32.mono_l k
    · intro y0 y1 y2 y3
      unfold slices_Equal_uint32_uint32.l0
      repeat' first
      | (with_reducible exact ih0 _ _ _ _)
      | (with_reducible exact LeO.refl _)
      | (with_reducible exact LeO.none _)
      | (with_reducible refine LeO.ite ?_ ?_)
      | (with_reducible refine LeO.bind ?_ (fun _ => ?_))
      | exact ih0 _ _ _ _
      | exact LeO.none _
      | refine LeO.ite ?_ ?_
      | refine LeO.bind ?_ (fun _ => ?_)
theorem slices_Equal_uint32_uint32.mono : ∀ a0 a1 k, LeO (slices_Equal_uint32_uint32.f k a0 a1) (slices_Equal_uint32_uint32.f (k + 1) a0 a1) := by
  intro a0 a1 k
  have ih0 := slices_Equal_uint32_uint32.mono_l k
  unfold slices_Equal_uint32_uint32.f
  repeat' first
      | (with_reducible exact ih0 _ _ _ _)
      | (with_reducible exact LeO.refl _)
      | (with_reducible exact LeO.none _)
      | (with_reducible refine LeO.ite ?_ ?_)
      | (with_reducible refine LeO.bind ?_ (fun _ => ?_))
      | exact ih0 _ _ _ _
      | exact LeO.none _
      | refine LeO.ite ?_ ?_
      | refine LeO.bind ?_ (fun _ => ?_)
set_option maxHeartbeats 8000000 in
set_option maxRecDepth 100000 in
theorem slices_Equal_uint32_uint32.calls (k : Nat) (A0 : Option Addr) (c0 : Nat) (l0 : List Int) (A1 : Option Addr) (c1 : Nat) (l1 : List Int) (r : Bool) (w : World) (hr0 : Kd.C (Kd.int .u32) w A0 l0.length l0) (hc0 : l0.length ≤ c0) (hr1 : Kd.C (Kd.int .u32) w A1 l1.length l1) (hc1 : l1.length ≤ c1) (h : slices_Equal_uint32_uint32.f k l0 l1 = some r) :
    Calls Tryz.prog 131 #[.slice A0 l0.length c0, .slice A1 l1.length c1] w fun e w' => e = .returned (.bool r) ∧ Drawn0 w w' := by
  have HR0 := Aside0.mk hr0
  have HC0 := Aside0.mk hc0
  clear hr0 hc0
  have HR1 := Aside0.mk hr1
  have HC1 := Aside0.mk hc1
  clear hr1 hc1
  have H : (if (l0.length : Int) = (l1.length : Int) then (slices_Equal_uint32_uint32.l0 k l0 l1 (l0.length : Int) 0) else (some false)) = some r := h
  clear h
  by_cases c3 : (l0.length : Int) = (l1.length : Int)
  · rw [if_pos c3] at H
    have c3b0 : ((l0.length : Int) == (l1.length : Int)) = true := beq_iff_eq.mpr c3
    have c3b1 : ((l0.length : Int) != (l1.length : Int)) = false := bne_eq_false_iff_eq.mpr c3
    have c3b2 : (l0.length == l1.length) = true := by first | simpa using c3 | (simp at c3 ⊢; omega)
    clear c3
    have H' := Aside0.mk H
    clear H
    go_enter Tryz.func131, Tryz.ntmps131
    go_wp2
    repeat (go_quiet (fail); try go_wp2)
    go_loopg [13] k (fun kq v13 w' => ∃ (x13_1 : Int), v13 = .int .i64 x13_1 ∧ Aside0 (slices_Equal_uint32_uint32.l0 kq l0 l1 (l0.length : Int) x13_1 = some r) ∧ Aside0 (kq ≤ k) ∧ Drawn0 w w')
    case atStart => exact ⟨(0), (by first | rfl | (simp; done) | (simp [*]; done)), H', ⟨Nat.le_refl _⟩, by repeat (first | exact Drawn0.refl _ | apply Drawn0.step)⟩
    case round =>
      clear H'
      try clear c1
      try clear p2
      try clear c3
      try clear c3b0
      try clear c3b1
      try clear c3b2
      obtain ⟨x13_1, rfl, HA, HK1, ⟨m1, rfl⟩⟩ := hrel
      cases gk with
      | zero => exact absurd HA.out (by simp [slices_Equal_uint32_uint32.l0])
      | succ k1 =>
        have H := HA.out
        clear HA
        simp only [slices_Equal_uint32_uint32.l0] at H
        by_cases c4 : x13_1 < (l0.length : Int)
        · rw [if_pos c4] at H
          have c4b0 : decide (x13_1 < (l0.length : Int)) = true := decide_eq_true c4
          clear c4
          by_cases c5 : 0 ≤ x13_1
          · rw [if_pos c5] at H
            have c5b0 : decide (0 ≤ x13_1) = true := decide_eq_true c5
            clear c5
            by_cases c6 : x13_1 < (l0.length : Int)
            · rw [if_pos c6] at H
              have c6b0 : decide (x13_1 < (l0.length : Int)) = true := decide_eq_true c6
              clear c6
              by_cases c7 : x13_1 < (l1.length : Int)
              · rw [if_pos c7] at H
                have c7b0 : decide (x13_1 < (l1.length : Int)) = true := decide_eq_true c7
                clear c7
                by_cases c8 : (rd l0 x13_1) = (rd l1 x13_1)
                · rw [if_pos c8] at H
                  have c8b0 : ((rd l0 x13_1) == (rd l1 x13_1)) = true := beq_iff_eq.mpr c8
                  have c8b1 : ((rd l0 x13_1) != (rd l1 x13_1)) = false := bne_eq_false_iff_eq.mpr c8
                  clear c8
                  have H' := Aside0.mk H
                  clear H
                  have p1 : 0 ≤ (x13_1 : Int) := of_decide_eq_true (by first | (with_reducible assumption) | assumption)
                  have q1 : x13_1 < (l0.length : Int) := of_decide_eq_true (by first | (with_reducible assumption) | assumption)
                  obtain ⟨ad1, e1, hx1_0⟩ := Kd.at_int HR0.out x13_1 p1 q1
                  cases e1
                  replace p1 := eq_true p1
                  replace q1 := eq_true q1
                  have p2 : 0 ≤ (x13_1 : Int) := of_decide_eq_true (by first | (with_reducible assumption) | assumption)
                  have q2 : x13_1 < (l1.length : Int) := of_decide_eq_true (by first | (with_reducible assumption) | assumption)
                  obtain ⟨ad2, e2, hx2_0⟩ := Kd.at_int HR1.out x13_1 p2 q2
                  cases e2
                  replace p2 := eq_true p2
                  replace q2 := eq_true q2
                  go_wp2
                  repeat (go_quiet (fail); try go_wp2)
                  go_roundg k1
                  case measure => have := HK1.out; omega
                  case rel => exact ⟨(wrap64 (x13_1 + 1)), (by first | rfl | (simp; done) | (simp [*]; done)), H', ⟨by have := HK1.out; omega⟩, by repeat (first | exact Drawn0.refl _ | apply Drawn0.step)⟩
                · rw [if_neg c8] at H
                  have c8b0 : ((rd l0 x13_1) == (rd l1 x13_1)) = false := beq_eq_false_iff_ne.mpr c8
                  have c8b1 : ((rd l0 x13_1) != (rd l1 x13_1)) = true := bne_iff_ne.mpr c8
                  obtain rfl := Option.some.inj H
                  have p1 : 0 ≤ (x13_1 : Int) := of_decide_eq_true (by first | (with_reducible assumption) | assumption)
                  have q1 : x13_1 < (l0.length : Int) := of_decide_eq_true (by first | (with_reducible assumption) | assumption)
                  obtain ⟨ad1, e1, hx1_0⟩ := Kd.at_int HR0.out x13_1 p1 q1
                  cases e1
                  replace p1 := eq_true p1
                  replace q1 := eq_true q1
                  have p2 : 0 ≤ (x13_1 : Int) := of_decide_eq_true (by first | (with_reducible assumption) | assumption)
                  have q2 : x13_1 < (l1.length : Int) := of_decide_eq_true (by first | (with_reducible assumption) | assumption)
                  obtain ⟨ad2, e2, hx2_0⟩ := Kd.at_int HR1.out x13_1 p2 q2
                  cases e2
                  replace p2 := eq_true p2
                  replace q2 := eq_true q2
                  go_wp2
                  repeat (go_quiet (fail); try go_wp2)
                  go_ret
                  exact ⟨by first | rfl | (simp; done) | (simp [*]; done), by repeat (first | exact Drawn0.refl _ | apply Drawn0.step)⟩
              · rw [if_neg c7] at H
                exact absurd H (by simp)
            · rw [if_neg c6] at H
              exact absurd H (by simp)
          · rw [if_neg c5] at H
            exact absurd H (by simp)
        · rw [if_neg c4] at H
          have c4b0 : decide (x13_1 < (l0.length : Int)) = false := decide_eq_false c4
          clear c4
          obtain rfl := Option.some.inj H
          go_wp2
          repeat (go_quiet (fail); try go_wp2)
          go_ret
          exact ⟨by first | rfl | (simp; done) | (simp [*]; done), by repeat (first | exact Drawn0.refl _ | apply Drawn0.step)⟩
  · rw [if_neg c3] at H
    have c3b0 : ((l0.length : Int) == (l1.length : Int)) = false := beq_eq_false_iff_ne.mpr c3
    have c3b1 : ((l0.length : Int) != (l1.length : Int)) = true := bne_iff_ne.mpr c3
    have c3b2 : (l0.length == l1.length) = false := by first | simpa using c3 | (simp at c3 ⊢; omega)
    obtain rfl := Option.some.inj H
    go_enter Tryz.func131, Tryz.ntmps131
    go_wp2
    repeat (go_quiet (fail); try go_wp2)
    go_ret
    exact ⟨by first | rfl | (simp; done) | (simp [*]; done), by repeat (first | exact Drawn0.refl _ | apply Drawn0.step)⟩
end Go.Proofs.YtioofhilohmfbaaGreatDoor.P
end
section
namespace Go.Proofs.YtioofhilohmfbaaGreatDoor.P
open Go.RowKit Go.Proofs.YtioofhilohmfbaaGreatDoorW.PrintWords Go.Proofs.YtioofhilohmfbaaGreatDoorW.PrintLast Go.Proofs.YtioofhilohmfbaaGreatDoorW.PrintMore
attribute [local go_sem] max2_int min2_int max_two min_two max_three min_three max_four min_four
set_option linter.unusedVariables false
set_option linter.unusedSimpArgs false
/-! ### rat_Check: function 89 -/
mutual
def rat_Check.j0 : Nat → Bool → Bool → List Int → List Int → Option (Int)
  | 0, _, _, _, _ => none
  | k + 1, x14, x2000, x2001, x2002 => if x14 = true then (some 20) else ((nat_Gcd.f k x2001 x2002).bind fun bt2 => (if bt2.2 = 0 then (rat_Check.j1 k bt2.1 ((x2002.length : Int) == 0) x2000 x2001 x2002) else (rat_Check.j1 k bt2.1 true x2000 x2001 x2002)))
def rat_Check.j1 : Nat → List Int → Bool → Bool → List Int → List Int → Option (Int)
  | 0, _, _, _, _, _ => none
  | k + 1, x3, x23, x2000, x2001, x2002 => if x23 = true then (some 2) else (if x2000 = true then (rat_Check.j2 k x3 ((x2001.length : Int) == 0)) else (rat_Check.j2 k x3 false))
def rat_Check.j2 : Nat → List Int → Bool → Option (Int)
  | 0, _, _ => none
  | k + 1, x3, x32 => if x32 = true then (some 2) else ((rat_one.f k).bind fun t6 => ((slices_Equal_uint32_uint32.f k x3 t6).bind fun t9 => (if t9 = true then (some 0) else (some 2))))
end
def rat_Check.f (k : Nat) (a0_0 : Bool) (l0_1 : List Int) (l0_2 : List Int) : Option (Int) := if (l0_1.length : Int) > 16 then (rat_Check.j0 k true a0_0 l0_1 l0_2) else (rat_Check.j0 k (decide ((l0_2.length : Int) > 16)) a0_0 l0_1 l0_2)
theorem rat_Check.mono_l : ∀ k, (∀ y0 y1 y2 y3, LeO (rat_Check.j0 k y0 y1 y2 y3) (rat_Check.j0 (k + 1) y0 y1 y2 y3)) ∧ (∀ y0 y1 y2 y3 y4, LeO (rat_Check.j1 k y0 y1 y2 y3 y4) (rat_Check.j1 (k + 1) y0 y1 y2 y3 y4)) ∧ (∀ y0 y1, LeO (rat_Check.j2 k y0 y1) (rat_Check.j2 (k + 1) y0 y1))
  | 0 => ⟨fun _ _ _ _ r h => by simp [rat_Check.j0] at h, fun _ _ _ _ _ r h => by simp [rat_Check.j1] at h, fun _ _ r h => by simp [rat_Check.j2] at h⟩
  | k + 1 => by
    obtain ⟨ih0, ih1, ih2⟩ := rat_Check.mono_l k
    refine ⟨?_, ?_, ?_⟩
    · intro y0 y1 y2 y3
      unfold rat_Check.j0
      repeat' first
      | (with_reducible exact ih0 _ _ _ _)
      | (with_reducible exact ih1 _ _ _ _ _)
      | (with_reducible exact ih2 _ _)
      | (with_reducible exact nat_Gcd.mono _ _ _)
      | (with_reducible exact rat_one.mono _)
      | (with_reducible exact slices_Equal_uint32_uint32.mono _ _ _)
      | (with_reducible exact LeO.refl _)
      | (with_reducible exact LeO.none _)
      | (with_reducible refine LeO.ite ?_ ?_)
      | (with_reducible refine LeO.bind ?_ (fun _ => ?_))
      | exact ih0 _ _ _ _
      | exact ih1 _ _ _ _ _
      | exact ih2 _ _
      | exact nat_Gcd.mono _ _ _
      | exact rat_one.mono _
      | exact slices_Equal_uint32_uint32.mono _ _ _
      | exact LeO.none _
      | refine LeO.ite ?_ ?_
      | refine LeO.bind ?_ (fun _ => ?_)
    · intro y0 y1 y2 y3 y4
      unfold rat_Check.j1
      repeat' first
      | (with_reducible exact ih0 _ _ _ _)
      | (with_reducible exact ih1 _ _ _ _ _)
      | (with_reducible exact ih2 _ _)
      | (with_reducible exact nat_Gcd.mono _ _ _)
      | (with_reducible exact rat_one.mono _)
      | (with_reducible exact slices_Equal_uint32_uint32.mono _ _ _)
      | (with_reducible exact LeO.refl _)
      | (with_reducible exact LeO.none _)
      | (with_reducible refine LeO.ite ?_ ?_)
      | (with_reducible refine LeO.bind ?_ (fun _ => ?_))
      | exact ih0 _ _ _ _
      | exact ih1 _ _ _ _ _
      | exact ih2 _ _
      | exact nat_Gcd.mono _ _ _
      | exact rat_one.mono _
      | exact slices_Equal_uint32_uint32.mono _ _ _
      | exact LeO.none _
      | refine LeO.ite ?_ ?_
      | refine LeO.bind ?_ (fun _ => ?_)
    · intro y0 y1
      unfold rat_Check.j2
      repeat' first
      | (with_reducible exact ih0 _ _ _ _)
      | (with_reducible exact ih1 _ _ _ _ _)
      | (with_reducible exact ih2 _ _)
      | (with_reducible exact nat_Gcd.mono _ _ _)
      | (with_reducible exact rat_one.mono _)
      | (with_reducible exact slices_Equal_uint32_uint32.mono _ _ _)
      | (with_reducible exact LeO.refl _)
      | (with_reducible exact LeO.none _)
      | (with_reducible refine LeO.ite ?_ ?_)
      | (with_reducible refine LeO.bind ?_ (fun _ => ?_))
      | exact ih0 _ _ _ _
      | exact ih1 _ _ _ _ _
      | exact ih2 _ _
      | exact nat_Gcd.mono _ _ _
      | exact rat_one.mono _
      | exact slices_Equal_uint32_uint32.mono _ _ _
      | exact LeO.none _
      | refine LeO.ite ?_ ?_
      | refine LeO.bind ?_ (fun _ => ?_)
theorem rat_Check.mono : ∀ a0 a1 a2 k, LeO (rat_Check.f k a0 a1 a2) (rat_Check.f (k + 1) a0 a1 a2) := by
  intro a0 a1 a2 k
  obtain ⟨ih0, ih1, ih2⟩ := rat_Check.mono_l k
  unfold rat_Check.f
  repeat' first
      | (with_reducible exact ih0 _ _ _ _)
      | (with_reducible exact ih1 _ _ _ _ _)
      | (with_reducible exact ih2 _ _)
      | (with_reducible exact nat_Gcd.mono _ _ _)
      | (with_reducible exact rat_one.mono _)
      | (with_reducible exact slices_Equal_uint32_uint32.mono _ _ _)
      | (with_reducible exact LeO.refl _)
      | (with_reducible exact LeO.none _)
      | (with_reducible refine LeO.ite ?_ ?_)
      | (with_reducible refine LeO.bind ?_ (fun _ => ?_))
      | exact ih0 _ _ _ _
      | exact ih1 _ _ _ _ _
      | exact ih2 _ _
      | exact nat_Gcd.mono _ _ _
      | exact rat_one.mono _
      | exact slices_Equal_uint32_uint32.mono _ _ _
      | exact LeO.none _
      | refine LeO.ite ?_ ?_
      | refine LeO.bind ?_ (fun _ => ?_)
set_option maxHeartbeats 8000000 in
set_option maxRecDepth 100000 in
theorem rat_Check.calls (k : Nat) (a0_0 : Bool) (A0_1 : Option Addr) (c0_1 : Nat) (l0_1 : List Int) (A0_2 : Option Addr) (c0_2 : Nat) (l0_2 : List Int) (r : Int) (w : World) (hr0_1 : Kd.C (Kd.int .u32) w A0_1 l0_1.length l0_1) (hc0_1 : l0_1.length ≤ c0_1) (hr0_2 : Kd.C (Kd.int .u32) w A0_2 l0_2.length l0_2) (hc0_2 : l0_2.length ≤ c0_2) (h : rat_Check.f k a0_0 l0_1 l0_2 = some r) :
    Calls Tryz.prog 89 #[.agg #[.bool a0_0, .slice A0_1 l0_1.length c0_1, .slice A0_2 l0_2.length c0_2]] w fun e w' => e = .returned (.int .i64 r) ∧ Below w.heap.size w w' := by
  have hu41 := Tryz.underlying41
  have HR0_1 := Aside0.mk hr0_1
  have HC0_1 := Aside0.mk hc0_1
  clear hr0_1 hc0_1
  have HR0_2 := Aside0.mk hr0_2
  have HC0_2 := Aside0.mk hc0_2
  clear hr0_2 hc0_2
  have HB := Aside0.mk (Below.refl w.heap.size w)
  have H : (if (l0_1.length : Int) > 16 then (rat_Check.j0 k true a0_0 l0_1 l0_2) else (rat_Check.j0 k (decide ((l0_2.length : Int) > 16)) a0_0 l0_1 l0_2)) = some r := h
  clear h
  have HC2 := Aside0.mk H
  clear H
  go_enter Tryz.func89, Tryz.ntmps89
  go_upto_region 1 with (first | ((with_reducible refine gate_dst (N := 1) rfl ?_); (try (refine gate_guard (by rfl) ?_; dsimp only)); refine box_event ?hg (N := 1) ?hd (cs := #[.bool a0_0, .slice A0_1 l0_1.length c0_1, .slice A0_2 l0_2.length c0_2]) (t := 41) ?hr ?_; (case hd => rfl); (case hg => rfl); (case hr => first | (go_simp; done) | (go_simp; rfl)); intro gb1 hg w3 hbox hb; have n0_ := Aside0.mk (below_step (lc HB.out) hb); have n1_ := Aside0.mk (hbox); have n2_ := Aside0.mk ((by rw [hg]; exact (below_size (lc HB.out)) : w.heap.size ≤ gb1)); have n3_ := Aside0.mk ((by rw [hg]; exact (below_size (lc HB.out)) : w.heap.size ≤ gb1)); clear HB; have HB := n0_; have BK1 := n1_; have GW1 := n2_; have GE1 := n3_; clear n0_ n1_ n2_ n3_; clear hb hbox hg))
  (try simp only [Act.put, List.setIfInBounds_toArray, List.set_cons_zero, List.set_cons_succ])
  go_cut [14] (fun v14 wc => ∃ (kq : Nat) (x14_1 : Bool), v14 = .bool x14_1 ∧ Aside0 (rat_Check.j0 kq x14_1 a0_0 l0_1 l0_2 = some r) ∧ Aside0 (kq ≤ k) ∧ Aside0 (wc.heap[gb1]? = some (.cells #[.bool a0_0, (.slice A0_1 l0_1.length c0_1), (.slice A0_2 l0_2.length c0_2)] 41 (0, 0))) ∧ Aside0 (Below w.heap.size w wc))
  case first =>
    have H := HC2.out
    clear HC2
    by_cases c4 : (l0_1.length : Int) > 16
    · rw [if_pos c4] at H
      have c4b0 : decide (16 < (l0_1.length : Int)) = true := decide_eq_true c4
      have c4b1 : decide (16 < l0_1.length) = true := decide_eq_true (by omega)
      clear c4
      (first | rw [c4b0] | (simp only [i64_w, i32_w]; rw [c4b0]) | skip)
      have H' := Aside0.mk H
      clear H
      have hcz5_0 : w3.cell? ⟨gb1, 0, none⟩ = some (.bool a0_0) := (blk_cell BK1.out 0).trans rfl
      have hcz5_1 : w3.cell? ⟨gb1, 1, none⟩ = some (.slice A0_1 l0_1.length c0_1) := (blk_cell BK1.out 1).trans rfl
      have hcz5_2 : w3.cell? ⟨gb1, 2, none⟩ = some (.slice A0_2 l0_2.length c0_2) := (blk_cell BK1.out 2).trans rfl
      have hfz5_0 := blk_frozen BK1.out 0
      have hfz5_1 := blk_frozen BK1.out 1
      have hfz5_2 := blk_frozen BK1.out 2
      go_wp2
      go_meet
      case rel => exact ⟨_, (true), (by first | rfl | (simp; done) | (simp [*]; done)), H', ⟨by first | omega | exact Nat.le_refl _⟩, ⟨by (with_reducible repeat (first | refine blk_drewN ?_ _ | refine blk_drew ?_ | refine blk_alloc ?_ _)); exact BK1.out⟩, ⟨by repeat (first | (with_reducible first | exact HB.out | apply below_alloc | apply pw_below_drewN | apply below_drew1 | refine below_set ?_ GE1.out) | exact HB.out)⟩⟩
    · rw [if_neg c4] at H
      have c4b0 : decide (16 < (l0_1.length : Int)) = false := decide_eq_false c4
      have c4b1 : decide (16 < l0_1.length) = false := decide_eq_false (by omega)
      clear c4
      (first | rw [c4b0] | (simp only [i64_w, i32_w]; rw [c4b0]) | skip)
      have H' := Aside0.mk H
      clear H
      have hcz6_0 : w3.cell? ⟨gb1, 0, none⟩ = some (.bool a0_0) := (blk_cell BK1.out 0).trans rfl
      have hcz6_1 : w3.cell? ⟨gb1, 1, none⟩ = some (.slice A0_1 l0_1.length c0_1) := (blk_cell BK1.out 1).trans rfl
      have hcz6_2 : w3.cell? ⟨gb1, 2, none⟩ = some (.slice A0_2 l0_2.length c0_2) := (blk_cell BK1.out 2).trans rfl
      have hfz6_0 := blk_frozen BK1.out 0
      have hfz6_1 := blk_frozen BK1.out 1
      have hfz6_2 := blk_frozen BK1.out 2
      go_wp2
      go_meet
      case rel => exact ⟨_, (decide ((l0_2.length : Int) > 16)), (by first | rfl | (simp; done) | (simp [*]; done)), H', ⟨by first | omega | exact Nat.le_refl _⟩, ⟨by (with_reducible repeat (first | refine blk_drewN ?_ _ | refine blk_drew ?_ | refine blk_alloc ?_ _)); exact BK1.out⟩, ⟨by repeat (first | (with_reducible first | exact HB.out | apply below_alloc | apply pw_below_drewN | apply below_drew1 | refine below_set ?_ GE1.out) | exact HB.out)⟩⟩
  case rest =>
    clear HC2
    try clear p2
    try clear c4
    try clear c4b0
    try clear c4b1
    try clear hcz5_0
    try clear hcz5_1
    try clear hcz5_2
    try clear hcz6_0
    try clear hcz6_1
    try clear hcz6_2
    try clear hfz5_0
    try clear hfz5_1
    try clear hfz5_2
    try clear hfz6_0
    try clear hfz6_1
    try clear hfz6_2
    obtain ⟨kq, x14_1, rfl, HA, HJ1, BK1, HB⟩ := hcut
    cases kq with
    | zero => exact absurd HA.out (by simp [rat_Check.j0])
    | succ kj1 =>
      have H := HA.out
      clear HA
      simp only [rat_Check.j0] at H
      by_cases c7 : x14_1 = true
      · subst c7
        have H1 : (some 20) = some r := by rw [if_pos rfl] at H; exact H
        clear H
        have H := H1
        clear H1
        obtain rfl := Option.some.inj H
        go_wp2
        go_ret
        exact ⟨by first | rfl | (simp [errW_none, errW_some] <;> rfl) | (simp [*, errW_none, errW_some] <;> rfl), by repeat (first | (with_reducible first | exact HB.out | apply below_alloc | apply pw_below_drewN | apply below_drew1 | refine below_set ?_ GE1.out) | exact HB.out)⟩
      · replace c7 := Bool.eq_false_iff.mpr c7
        subst c7
        have H1 : ((nat_Gcd.f kj1 l0_1 l0_2).bind fun bt2 => (if bt2.2 = 0 then (rat_Check.j1 kj1 bt2.1 ((l0_2.length : Int) == 0) a0_0 l0_1 l0_2) else (rat_Check.j1 kj1 bt2.1 true a0_0 l0_1 l0_2))) = some r := by rw [if_neg (show ¬ (false = true) by decide)] at H; exact H
        clear H
        have H := H1
        clear H1
        replace H := Option.bind_eq_some_iff.mp H
        obtain ⟨⟨t2, t3⟩, A80, H⟩ := H
        replace H : (if t3 = 0 then (rat_Check.j1 kj1 t2 ((l0_2.length : Int) == 0) a0_0 l0_1 l0_2) else (rat_Check.j1 kj1 t2 true a0_0 l0_1 l0_2)) = some r := H
        have A8 := Aside0.mk A80
        clear A80
        have HC9 := Aside0.mk H
        clear H
        have hcz10_0 : wc.cell? ⟨gb1, 0, none⟩ = some (.bool a0_0) := (blk_cell BK1.out 0).trans rfl
        have hcz10_1 : wc.cell? ⟨gb1, 1, none⟩ = some (.slice A0_1 l0_1.length c0_1) := (blk_cell BK1.out 1).trans rfl
        have hcz10_2 : wc.cell? ⟨gb1, 2, none⟩ = some (.slice A0_2 l0_2.length c0_2) := (blk_cell BK1.out 2).trans rfl
        have hfz10_0 := blk_frozen BK1.out 0
        have hfz10_1 := blk_frozen BK1.out 1
        have hfz10_2 := blk_frozen BK1.out 2
        go_upto_region 4 with (first | (go_at_call 130; (with_reducible refine (nat_Gcd.calls kj1 _ _ l0_1 _ _ l0_2 t2 t3 _ ?side1 ?side2 ?side3 ?side4 A8.out).mono ?_); (case side1 => exact cc (Kd.C_below HR0_1.out HB.out)); (case side2 => exact HC0_1.out); (case side3 => exact cc (Kd.C_below HR0_2.out HB.out)); (case side4 => exact HC0_2.out); rintro e w11 ⟨v4, rfl, ho0, hb⟩; have n0_ := Aside0.mk (Kd.R_lower ho0 (below_size (by repeat (first | (with_reducible first | exact HB.out | apply below_alloc | apply pw_below_drewN | apply below_drew1 | refine below_set ?_ GE1.out) | exact HB.out)))); have n1_ := Aside0.mk (blk_below (g := gb1) (o := .cells #[.bool a0_0, .slice A0_1 l0_1.length c0_1, .slice A0_2 l0_2.length c0_2] 41 (0, 0)) (bc BK1.out) hb); have n2_ := Aside0.mk (below_step (by repeat (first | (with_reducible first | exact HB.out | apply below_alloc | apply pw_below_drewN | apply below_drew1 | refine below_set ?_ GE1.out) | exact HB.out)) hb); clear BK1; clear HB; have HO5 := n0_; have BK1 := n1_; have HB := n2_; clear n0_ n1_ n2_; (try clear hb); (try clear hb2); (try clear hk); (try clear hi); (try clear ho0)))
        (try simp only [Act.put, List.setIfInBounds_toArray, List.set_cons_zero, List.set_cons_succ])
        go_cut [23] (fun v23 wc => ∃ (kq : Nat) (x23_8 : Bool), v23 = .bool x23_8 ∧ Aside0 (rat_Check.j1 kq t2 x23_8 a0_0 l0_1 l0_2 = some r) ∧ Aside0 (kq ≤ kj1) ∧ Aside0 (Kd.R (Kd.int .u32) 109 wc w.heap.size (fun _ => True) v4 t2) ∧ Aside0 (wc.heap[gb1]? = some (.cells #[.bool a0_0, (.slice A0_1 l0_1.length c0_1), (.slice A0_2 l0_2.length c0_2)] 41 (0, 0))) ∧ Aside0 (Below w.heap.size w wc))
        case first =>
          have H := HC9.out
          clear HC9
          by_cases c12 : t3 = 0
          · rw [if_pos c12] at H
            have c12b0 : (t3 == 0) = true := beq_iff_eq.mpr c12
            have c12b1 : (t3 != 0) = false := bne_eq_false_iff_eq.mpr c12
            clear c12
            (first | rw [c12b0] | (simp only [i64_w, i32_w]; rw [c12b0]) | skip)
            have H' := Aside0.mk H
            clear H
            have hcz13_0 : w11.cell? ⟨gb1, 0, none⟩ = some (.bool a0_0) := (blk_cell BK1.out 0).trans rfl
            have hcz13_1 : w11.cell? ⟨gb1, 1, none⟩ = some (.slice A0_1 l0_1.length c0_1) := (blk_cell BK1.out 1).trans rfl
            have hcz13_2 : w11.cell? ⟨gb1, 2, none⟩ = some (.slice A0_2 l0_2.length c0_2) := (blk_cell BK1.out 2).trans rfl
            have hfz13_0 := blk_frozen BK1.out 0
            have hfz13_1 := blk_frozen BK1.out 1
            have hfz13_2 := blk_frozen BK1.out 2
            go_wp2
            go_meet
            case rel => exact ⟨_, (((l0_2.length : Int) == 0)), (by first | rfl | (simp; done) | (simp [*]; done)), H', ⟨by have := HJ1.out; first | omega | exact Nat.le_refl _⟩, ⟨by (with_reducible repeat (first | apply Kd.R_alloc | apply Kd.R_drewN | apply Kd.R_drew)); exact HO5.out⟩, ⟨by (with_reducible repeat (first | refine blk_drewN ?_ _ | refine blk_drew ?_ | refine blk_alloc ?_ _)); exact BK1.out⟩, ⟨by repeat (first | (with_reducible first | exact HB.out | apply below_alloc | apply pw_below_drewN | apply below_drew1 | refine below_set ?_ GE1.out) | exact HB.out)⟩⟩
          · rw [if_neg c12] at H
            have c12b0 : (t3 == 0) = false := beq_eq_false_iff_ne.mpr c12
            have c12b1 : (t3 != 0) = true := bne_iff_ne.mpr c12
            (first | rw [c12b0] | (simp only [i64_w, i32_w]; rw [c12b0]) | skip)
            have H' := Aside0.mk H
            clear H
            go_wp2
            go_meet
            case rel => exact ⟨_, (true), (by first | rfl | (simp; done) | (simp [*]; done)), H', ⟨by have := HJ1.out; first | omega | exact Nat.le_refl _⟩, ⟨by (with_reducible repeat (first | apply Kd.R_alloc | apply Kd.R_drewN | apply Kd.R_drew)); exact HO5.out⟩, ⟨by (with_reducible repeat (first | refine blk_drewN ?_ _ | refine blk_drew ?_ | refine blk_alloc ?_ _)); exact BK1.out⟩, ⟨by repeat (first | (with_reducible first | exact HB.out | apply below_alloc | apply pw_below_drewN | apply below_drew1 | refine below_set ?_ GE1.out) | exact HB.out)⟩⟩
        case rest =>
          clear HC9
          try clear c1
          try clear p2
          try clear c4
          try clear c4b0
          try clear c4b1
          try clear c7
          try clear c8
          try clear c12
          try clear c12b0
          try clear c12b1
          try clear c13
          try clear hcz10_0
          try clear hcz10_1
          try clear hcz10_2
          try clear hcz13_0
          try clear hcz13_1
          try clear hcz13_2
          try clear hcz5_0
          try clear hcz5_1
          try clear hcz5_2
          try clear hcz6_0
          try clear hcz6_1
          try clear hcz6_2
          try clear hfz10_0
          try clear hfz10_1
          try clear hfz10_2
          try clear hfz13_0
          try clear hfz13_1
          try clear hfz13_2
          try clear hfz5_0
          try clear hfz5_1
          try clear hfz5_2
          try clear hfz6_0
          try clear hfz6_1
          try clear hfz6_2
          try clear p2
          obtain ⟨kq, x23_8, rfl, HA, HJ8, HO_3, BK1, HB⟩ := hcut
          cases kq with
          | zero => exact absurd HA.out (by simp [rat_Check.j1])
          | succ kj8 =>
            have H := HA.out
            clear HA
            simp only [rat_Check.j1] at H
            by_cases c14 : x23_8 = true
            · subst c14
              have H1 : (some 2) = some r := by rw [if_pos rfl] at H; exact H
              clear H
              have H := H1
              clear H1
              obtain rfl := Option.some.inj H
              go_wp2
              go_ret
              exact ⟨by first | rfl | (simp [errW_none, errW_some] <;> rfl) | (simp [*, errW_none, errW_some] <;> rfl), by repeat (first | (with_reducible first | exact HB.out | apply below_alloc | apply pw_below_drewN | apply below_drew1 | refine below_set ?_ GE1.out) | exact HB.out)⟩
            · replace c14 := Bool.eq_false_iff.mpr c14
              subst c14
              have H1 : (if a0_0 = true then (rat_Check.j2 kj8 t2 ((l0_1.length : Int) == 0)) else (rat_Check.j2 kj8 t2 false)) = some r := by rw [if_neg (show ¬ (false = true) by decide)] at H; exact H
              clear H
              have H := H1
              clear H1
              have HC15 := Aside0.mk H
              clear H
              go_upto_region 5 with (fail)
              go_cut [32] (fun v32 wc => ∃ (kq : Nat) (x32_14 : Bool), v32 = .bool x32_14 ∧ Aside0 (rat_Check.j2 kq t2 x32_14 = some r) ∧ Aside0 (kq ≤ kj8) ∧ Aside0 (Kd.R (Kd.int .u32) 109 wc w.heap.size (fun _ => True) v4 t2) ∧ Aside0 (wc.heap[gb1]? = some (.cells #[.bool a0_0, (.slice A0_1 l0_1.length c0_1), (.slice A0_2 l0_2.length c0_2)] 41 (0, 0))) ∧ Aside0 (Below w.heap.size w wc))
              case first =>
                have H := HC15.out
                clear HC15
                by_cases c16 : a0_0 = true
                · subst c16
                  have H1 : (rat_Check.j2 kj8 t2 ((l0_1.length : Int) == 0)) = some r := by rw [if_pos rfl] at H; exact H
                  clear H
                  have H := H1
                  clear H1
                  have H' := Aside0.mk H
                  clear H
                  have hcz17_0 : wc.cell? ⟨gb1, 0, none⟩ = some (.bool true) := (blk_cell BK1.out 0).trans rfl
                  have hcz17_1 : wc.cell? ⟨gb1, 1, none⟩ = some (.slice A0_1 l0_1.length c0_1) := (blk_cell BK1.out 1).trans rfl
                  have hcz17_2 : wc.cell? ⟨gb1, 2, none⟩ = some (.slice A0_2 l0_2.length c0_2) := (blk_cell BK1.out 2).trans rfl
                  have hfz17_0 := blk_frozen BK1.out 0
                  have hfz17_1 := blk_frozen BK1.out 1
                  have hfz17_2 := blk_frozen BK1.out 2
                  go_wp2
                  go_meet
                  case rel => exact ⟨_, (((l0_1.length : Int) == 0)), (by first | rfl | (simp; done) | (simp [*]; done)), H', ⟨by have := HJ1.out; have := HJ8.out; first | omega | exact Nat.le_refl _⟩, ⟨by (with_reducible repeat (first | apply Kd.R_alloc | apply Kd.R_drewN | apply Kd.R_drew)); exact HO_3.out⟩, ⟨by (with_reducible repeat (first | refine blk_drewN ?_ _ | refine blk_drew ?_ | refine blk_alloc ?_ _)); exact BK1.out⟩, ⟨by repeat (first | (with_reducible first | exact HB.out | apply below_alloc | apply pw_below_drewN | apply below_drew1 | refine below_set ?_ GE1.out) | exact HB.out)⟩⟩
                · replace c16 := Bool.eq_false_iff.mpr c16
                  subst c16
                  have H1 : (rat_Check.j2 kj8 t2 false) = some r := by rw [if_neg (show ¬ (false = true) by decide)] at H; exact H
                  clear H
                  have H := H1
                  clear H1
                  have H' := Aside0.mk H
                  clear H
                  have hcz18_0 : wc.cell? ⟨gb1, 0, none⟩ = some (.bool false) := (blk_cell BK1.out 0).trans rfl
                  have hcz18_1 : wc.cell? ⟨gb1, 1, none⟩ = some (.slice A0_1 l0_1.length c0_1) := (blk_cell BK1.out 1).trans rfl
                  have hcz18_2 : wc.cell? ⟨gb1, 2, none⟩ = some (.slice A0_2 l0_2.length c0_2) := (blk_cell BK1.out 2).trans rfl
                  have hfz18_0 := blk_frozen BK1.out 0
                  have hfz18_1 := blk_frozen BK1.out 1
                  have hfz18_2 := blk_frozen BK1.out 2
                  go_wp2
                  go_meet
                  case rel => exact ⟨_, (false), (by first | rfl | (simp; done) | (simp [*]; done)), H', ⟨by have := HJ1.out; have := HJ8.out; first | omega | exact Nat.le_refl _⟩, ⟨by (with_reducible repeat (first | apply Kd.R_alloc | apply Kd.R_drewN | apply Kd.R_drew)); exact HO_3.out⟩, ⟨by (with_reducible repeat (first | refine blk_drewN ?_ _ | refine blk_drew ?_ | refine blk_alloc ?_ _)); exact BK1.out⟩, ⟨by repeat (first | (with_reducible first | exact HB.out | apply below_alloc | apply pw_below_drewN | apply below_drew1 | refine below_set ?_ GE1.out) | exact HB.out)⟩⟩
              case rest =>
                clear HC15
                try clear c1
                try clear p2
                try clear c4
                try clear c4b0
                try clear c4b1
                try clear c7
                try clear c8
                try clear c12
                try clear c12b0
                try clear c12b1
                try clear c13
                try clear c14
                try clear c16
                try clear hcz10_0
                try clear hcz10_1
                try clear hcz10_2
                try clear hcz13_0
                try clear hcz13_1
                try clear hcz13_2
                try clear hcz17_0
                try clear hcz17_1
                try clear hcz17_2
                try clear hcz18_0
                try clear hcz18_1
                try clear hcz18_2
                try clear hcz5_0
                try clear hcz5_1
                try clear hcz5_2
                try clear hcz6_0
                try clear hcz6_1
                try clear hcz6_2
                try clear hfz10_0
                try clear hfz10_1
                try clear hfz10_2
                try clear hfz13_0
                try clear hfz13_1
                try clear hfz13_2
                try clear hfz17_0
                try clear hfz17_1
                try clear hfz17_2
                try clear hfz18_0
                try clear hfz18_1
                try clear hfz18_2
                try clear hfz5_0
                try clear hfz5_1
                try clear hfz5_2
                try clear hfz6_0
                try clear hfz6_1
                try clear hfz6_2
                try clear p2
                obtain ⟨kq, x32_14, rfl, HA, HJ14, HO_3, BK1, HB⟩ := hcut
                cases kq with
                | zero => exact absurd HA.out (by simp [rat_Check.j2])
                | succ kj14 =>
                  have H := HA.out
                  clear HA
                  simp only [rat_Check.j2] at H
                  by_cases c19 : x32_14 = true
                  · subst c19
                    have H1 : (some 2) = some r := by rw [if_pos rfl] at H; exact H
                    clear H
                    have H := H1
                    clear H1
                    obtain rfl := Option.some.inj H
                    go_wp2
                    go_ret
                    exact ⟨by first | rfl | (simp [errW_none, errW_some] <;> rfl) | (simp [*, errW_none, errW_some] <;> rfl), by repeat (first | (with_reducible first | exact HB.out | apply below_alloc | apply pw_below_drewN | apply below_drew1 | refine below_set ?_ GE1.out) | exact HB.out)⟩
                  · replace c19 := Bool.eq_false_iff.mpr c19
                    subst c19
                    have H1 : ((rat_one.f kj14).bind fun t6 => ((slices_Equal_uint32_uint32.f kj14 t2 t6).bind fun t9 => (if t9 = true then (some 0) else (some 2)))) = some r := by rw [if_neg (show ¬ (false = true) by decide)] at H; exact H
                    clear H
                    have H := H1
                    clear H1
                    replace H := Option.bind_eq_some_iff.mp H
                    obtain ⟨t6, A200, H⟩ := H
                    replace H : ((slices_Equal_uint32_uint32.f kj14 t2 t6).bind fun t9 => (if t9 = true then (some 0) else (some 2))) = some r := H
                    have A20 := Aside0.mk A200
                    clear A200
                    replace H := Option.bind_eq_some_iff.mp H
                    obtain ⟨t9, A210, H⟩ := H
                    replace H : (if t9 = true then (some 0) else (some 2)) = some r := H
                    have A21 := Aside0.mk A210
                    clear A210
                    by_cases c22 : t9 = true
                    · subst c22
                      have H1 : (some 0) = some r := by rw [if_pos rfl] at H; exact H
                      clear H
                      have H := H1
                      clear H1
                      obtain rfl := Option.some.inj H
                      go_wp2_with (first | (go_at_call 132; (with_reducible refine (rat_one.calls kj14  t6 _ A20.out).mono ?_); rintro e w23 ⟨v7, rfl, ho0, hb⟩; have n0_ := Aside0.mk (Kd.R_below (rc HO_3.out) hb); have n1_ := Aside0.mk (Kd.V_lower (Kd.V_mono (ok' := fun k_ => some k_ ≠ (v4 : Value).ownBlock ∧ k_ ≠ gb1) ho0 (fun k_ hk_ => ⟨(Kd.fresh' (Kd.R_lt (rc HO_3.out)) k_ hk_), (Kd.freshB (g := gb1) (o := .cells #[.bool a0_0, .slice A0_1 l0_1.length c0_1, .slice A0_2 l0_2.length c0_2] 41 (0, 0)) (bc BK1.out) k_ hk_)⟩)) (below_size (by repeat (first | (with_reducible first | exact HB.out | apply below_alloc | apply pw_below_drewN | apply below_drew1 | refine below_set ?_ GE1.out) | exact HB.out)))); have n2_ := Aside0.mk (blk_below (g := gb1) (o := .cells #[.bool a0_0, .slice A0_1 l0_1.length c0_1, .slice A0_2 l0_2.length c0_2] 41 (0, 0)) (bc BK1.out) hb); have n3_ := Aside0.mk (below_step (by repeat (first | (with_reducible first | exact HB.out | apply below_alloc | apply pw_below_drewN | apply below_drew1 | refine below_set ?_ GE1.out) | exact HB.out)) hb); clear HO_3; clear BK1; clear HB; have HO_3 := n0_; have HO8 := n1_; have BK1 := n2_; have HB := n3_; clear n0_ n1_ n2_ n3_; (try clear hb); (try clear hb2); (try clear hk); (try clear hi); (try clear ho0); obtain ⟨Ao24, co24, eo24⟩ := Kd.R_slice HO_3.out; subst eo24; obtain ⟨Ao25, co25, eo25⟩ := Kd.V_slice HO8.out; subst eo25) | (go_at_call 131; (with_reducible refine (slices_Equal_uint32_uint32.calls kj14 _ _ t2 _ _ t6 true _ ?side1 ?side2 ?side3 ?side4 A21.out).mono ?_); (case side1 => exact cc (Kd.R_reads' HO_3.out).2.2); (case side2 => exact (Kd.R_reads' HO_3.out).2.1); (case side3 => exact cc (Kd.V_reads' HO8.out).2.2); (case side4 => exact (Kd.V_reads' HO8.out).2.1); rintro e w' ⟨rfl, ⟨nd, rfl⟩⟩))
                      go_ret
                      exact ⟨by first | rfl | (simp [errW_none, errW_some] <;> rfl) | (simp [*, errW_none, errW_some] <;> rfl), by repeat (first | (with_reducible first | exact HB.out | apply below_alloc | apply pw_below_drewN | apply below_drew1 | refine below_set ?_ GE1.out) | exact HB.out)⟩
                    · replace c22 := Bool.eq_false_iff.mpr c22
                      subst c22
                      have H1 : (some 2) = some r := by rw [if_neg (show ¬ (false = true) by decide)] at H; exact H
                      clear H
                      have H := H1
                      clear H1
                      obtain rfl := Option.some.inj H
                      go_wp2_with (first | (go_at_call 132; (with_reducible refine (rat_one.calls kj14  t6 _ A20.out).mono ?_); rintro e w26 ⟨v7, rfl, ho0, hb⟩; have n0_ := Aside0.mk (Kd.R_below (rc HO_3.out) hb); have n1_ := Aside0.mk (Kd.V_lower (Kd.V_mono (ok' := fun k_ => some k_ ≠ (v4 : Value).ownBlock ∧ k_ ≠ gb1) ho0 (fun k_ hk_ => ⟨(Kd.fresh' (Kd.R_lt (rc HO_3.out)) k_ hk_), (Kd.freshB (g := gb1) (o := .cells #[.bool a0_0, .slice A0_1 l0_1.length c0_1, .slice A0_2 l0_2.length c0_2] 41 (0, 0)) (bc BK1.out) k_ hk_)⟩)) (below_size (by repeat (first | (with_reducible first | exact HB.out | apply below_alloc | apply pw_below_drewN | apply below_drew1 | refine below_set ?_ GE1.out) | exact HB.out)))); have n2_ := Aside0.mk (blk_below (g := gb1) (o := .cells #[.bool a0_0, .slice A0_1 l0_1.length c0_1, .slice A0_2 l0_2.length c0_2] 41 (0, 0)) (bc BK1.out) hb); have n3_ := Aside0.mk (below_step (by repeat (first | (with_reducible first | exact HB.out | apply below_alloc | apply pw_below_drewN | apply below_drew1 | refine below_set ?_ GE1.out) | exact HB.out)) hb); clear HO_3; clear BK1; clear HB; have HO_3 := n0_; have HO8 := n1_; have BK1 := n2_; have HB := n3_; clear n0_ n1_ n2_ n3_; (try clear hb); (try clear hb2); (try clear hk); (try clear hi); (try clear ho0); obtain ⟨Ao27, co27, eo27⟩ := Kd.R_slice HO_3.out; subst eo27; obtain ⟨Ao28, co28, eo28⟩ := Kd.V_slice HO8.out; subst eo28) | (go_at_call 131; (with_reducible refine (slices_Equal_uint32_uint32.calls kj14 _ _ t2 _ _ t6 false _ ?side1 ?side2 ?side3 ?side4 A21.out).mono ?_); (case side1 => exact cc (Kd.R_reads' HO_3.out).2.2); (case side2 => exact (Kd.R_reads' HO_3.out).2.1); (case side3 => exact cc (Kd.V_reads' HO8.out).2.2); (case side4 => exact (Kd.V_reads' HO8.out).2.1); rintro e w' ⟨rfl, ⟨nd, rfl⟩⟩))
                      go_ret
                      exact ⟨by first | rfl | (simp [errW_none, errW_some] <;> rfl) | (simp [*, errW_none, errW_some] <;> rfl), by repeat (first | (with_reducible first | exact HB.out | apply below_alloc | apply pw_below_drewN | apply below_drew1 | refine below_set ?_ GE1.out) | exact HB.out)⟩
end Go.Proofs.YtioofhilohmfbaaGreatDoor.P
end
section
namespace Go.Proofs.YtioofhilohmfbaaGreatDoor.P
open Go.RowKit Go.Proofs.YtioofhilohmfbaaGreatDoorW.PrintWords Go.Proofs.YtioofhilohmfbaaGreatDoorW.PrintLast Go.Proofs.YtioofhilohmfbaaGreatDoorW.PrintMore
attribute [local go_sem] max2_int min2_int max_two min_two max_three min_three max_four min_four
set_option linter.unusedVariables false
set_option linter.unusedSimpArgs false
/-! ### rat_both: function 143 -/
def rat_both.f (k : Nat) (a0_0 : Bool) (l0_1 : List Int) (l0_2 : List Int) (a1_0 : Bool) (l1_1 : List Int) (l1_2 : List Int) : Option (Int) := (rat_Check.f k a0_0 l0_1 l0_2).bind fun t3 => (if t3 = 0 then ((rat_Check.f k a1_0 l1_1 l1_2).bind fun t4 => (some t4)) else (some t3))
theorem rat_both.mono : ∀ a0 a1 a2 a3 a4 a5 k, LeO (rat_both.f k a0 a1 a2 a3 a4 a5) (rat_both.f (k + 1) a0 a1 a2 a3 a4 a5) := by
  intro a0 a1 a2 a3 a4 a5 k
  unfold rat_both.f
  repeat' first
      | (with_reducible exact rat_Check.mono _ _ _ _)
      | (with_reducible exact LeO.refl _)
      | (with_reducible exact LeO.none _)
      | (with_reducible refine LeO.ite ?_ ?_)
      | (with_reducible refine LeO.bind ?_ (fun _ => ?_))
      | exact rat_Check.mono _ _ _ _
      | exact LeO.none _
      | refine LeO.ite ?_ ?_
      | refine LeO.bind ?_ (fun _ => ?_)
set_option maxHeartbeats 8000000 in
set_option maxRecDepth 100000 in
theorem rat_both.calls (k : Nat) (a0_0 : Bool) (A0_1 : Option Addr) (c0_1 : Nat) (l0_1 : List Int) (A0_2 : Option Addr) (c0_2 : Nat) (l0_2 : List Int) (a1_0 : Bool) (A1_1 : Option Addr) (c1_1 : Nat) (l1_1 : List Int) (A1_2 : Option Addr) (c1_2 : Nat) (l1_2 : List Int) (r : Int) (w : World) (hr0_1 : Kd.C (Kd.int .u32) w A0_1 l0_1.length l0_1) (hc0_1 : l0_1.length ≤ c0_1) (hr0_2 : Kd.C (Kd.int .u32) w A0_2 l0_2.length l0_2) (hc0_2 : l0_2.length ≤ c0_2) (hr1_1 : Kd.C (Kd.int .u32) w A1_1 l1_1.length l1_1) (hc1_1 : l1_1.length ≤ c1_1) (hr1_2 : Kd.C (Kd.int .u32) w A1_2 l1_2.length l1_2) (hc1_2 : l1_2.length ≤ c1_2) (h : rat_both.f k a0_0 l0_1 l0_2 a1_0 l1_1 l1_2 = some r) :
    Calls Tryz.prog 143 #[.agg #[.bool a0_0, .slice A0_1 l0_1.length c0_1, .slice A0_2 l0_2.length c0_2], .agg #[.bool a1_0, .slice A1_1 l1_1.length c1_1, .slice A1_2 l1_2.length c1_2]] w fun e w' => e = .returned (.int .i64 r) ∧ Below w.heap.size w w' := by
  have hu41 := Tryz.underlying41
  have HR0_1 := Aside0.mk hr0_1
  have HC0_1 := Aside0.mk hc0_1
  clear hr0_1 hc0_1
  have HR0_2 := Aside0.mk hr0_2
  have HC0_2 := Aside0.mk hc0_2
  clear hr0_2 hc0_2
  have HR1_1 := Aside0.mk hr1_1
  have HC1_1 := Aside0.mk hc1_1
  clear hr1_1 hc1_1
  have HR1_2 := Aside0.mk hr1_2
  have HC1_2 := Aside0.mk hc1_2
  clear hr1_2 hc1_2
  have HB := Aside0.mk (Below.refl w.heap.size w)
  have H : ((rat_Check.f k a0_0 l0_1 l0_2).bind fun t3 => (if t3 = 0 then ((rat_Check.f k a1_0 l1_1 l1_2).bind fun t4 => (some t4)) else (some t3))) = some r := h
  clear h
  replace H := Option.bind_eq_some_iff.mp H
  obtain ⟨t3, A30, H⟩ := H
  replace H : (if t3 = 0 then ((rat_Check.f k a1_0 l1_1 l1_2).bind fun t4 => (some t4)) else (some t3)) = some r := H
  have A3 := Aside0.mk A30
  clear A30
  by_cases c4 : t3 = 0
  · rw [if_pos c4] at H
    have c4b0 : (t3 == 0) = true := beq_iff_eq.mpr c4
    have c4b1 : (t3 != 0) = false := bne_eq_false_iff_eq.mpr c4
    clear c4
    replace H := Option.bind_eq_some_iff.mp H
    obtain ⟨t4, A50, H⟩ := H
    replace H : (some t4) = some r := H
    have A5 := Aside0.mk A50
    clear A50
    obtain rfl := Option.some.inj H
    go_enter Tryz.func143, Tryz.ntmps143
    go_wp2_with (first | ((with_reducible refine gate_dst (N := 2) rfl ?_); refine box_event ?hg (N := 2) ?hd (cs := #[.bool a0_0, .slice A0_1 l0_1.length c0_1, .slice A0_2 l0_2.length c0_2]) (t := 41) ?hr ?_; (case hd => rfl); (case hg => rfl); (case hr => first | (go_simp; done) | (go_simp; rfl)); intro gb1 hg w6 hbox hb; have n0_ := Aside0.mk (below_step (lc HB.out) hb); have n1_ := Aside0.mk (hbox); have n2_ := Aside0.mk ((by rw [hg]; exact (below_size (lc HB.out)) : w.heap.size ≤ gb1)); have n3_ := Aside0.mk ((by rw [hg]; exact (below_size (lc HB.out)) : w.heap.size ≤ gb1)); clear HB; have HB := n0_; have BK1 := n1_; have GW1 := n2_; have GE1 := n3_; clear n0_ n1_ n2_ n3_; clear hb hbox hg) | ((with_reducible refine gate_dst (N := 3) rfl ?_); refine box_event ?hg (N := 3) ?hd (cs := #[.bool a1_0, .slice A1_1 l1_1.length c1_1, .slice A1_2 l1_2.length c1_2]) (t := 41) ?hr ?_; (case hd => rfl); (case hg => rfl); (case hr => first | (go_simp; done) | (go_simp; rfl)); intro gb2 hg w7 hbox hb; have n0_ := Aside0.mk (blk_below (g := gb1) (o := .cells #[.bool a0_0, .slice A0_1 l0_1.length c0_1, .slice A0_2 l0_2.length c0_2] 41 (0, 0)) (bc BK1.out) hb); have n1_ := Aside0.mk (below_step (by repeat (first | (with_reducible first | exact HB.out | apply below_alloc | apply pw_below_drewN | apply below_drew1 | refine below_set ?_ GE1.out) | exact HB.out)) hb); have n2_ := Aside0.mk (hbox); have n3_ := Aside0.mk ((by rw [hg]; exact (below_size (by repeat (first | (with_reducible first | exact HB.out | apply below_alloc | apply pw_below_drewN | apply below_drew1 | refine below_set ?_ GE1.out) | exact HB.out))) : w.heap.size ≤ gb2)); have n4_ := Aside0.mk ((by rw [hg]; exact (below_size (by repeat (first | (with_reducible first | exact HB.out | apply below_alloc | apply pw_below_drewN | apply below_drew1 | refine below_set ?_ GE1.out) | exact HB.out))) : w.heap.size ≤ gb2)); have n5_ := Aside0.mk ((by rw [hg]; exact Nat.ne_of_lt (blk_lt (g := gb1) (o := .cells #[.bool a0_0, .slice A0_1 l0_1.length c0_1, .slice A0_2 l0_2.length c0_2] 41 (0, 0)) (bc BK1.out)) : gb1 ≠ gb2)); have n6_ := Aside0.mk ((by rw [hg]; exact Nat.ne_of_gt (blk_lt (g := gb1) (o := .cells #[.bool a0_0, .slice A0_1 l0_1.length c0_1, .slice A0_2 l0_2.length c0_2] 41 (0, 0)) (bc BK1.out)) : gb2 ≠ gb1)); clear BK1; clear HB; have BK1 := n0_; have HB := n1_; have BK2 := n2_; have GW2 := n3_; have GE2 := n4_; have NB1_2 := n5_; have NB2_1 := n6_; clear n0_ n1_ n2_ n3_ n4_ n5_ n6_; clear hb hbox hg; have hnb8 := NB1_2.out; have hnc8 := NB2_1.out; have hcz9_0 : w7.cell? ⟨gb1, 0, none⟩ = some (.bool a0_0) := (blk_cell BK1.out 0).trans rfl; have hcz9_1 : w7.cell? ⟨gb1, 1, none⟩ = some (.slice A0_1 l0_1.length c0_1) := (blk_cell BK1.out 1).trans rfl; have hcz9_2 : w7.cell? ⟨gb1, 2, none⟩ = some (.slice A0_2 l0_2.length c0_2) := (blk_cell BK1.out 2).trans rfl; have hfz9_0 := blk_frozen BK1.out 0; have hfz9_1 := blk_frozen BK1.out 1; have hfz9_2 := blk_frozen BK1.out 2) | (go_at_call 89; (with_reducible refine (rat_Check.calls k a0_0 _ _ l0_1 _ _ l0_2 t3 _ ?side1 ?side2 ?side3 ?side4 A3.out).mono ?_); (case side1 => exact cc (Kd.C_below HR0_1.out HB.out)); (case side2 => exact HC0_1.out); (case side3 => exact cc (Kd.C_below HR0_2.out HB.out)); (case side4 => exact HC0_2.out); rintro e w10 ⟨rfl, hb⟩; have n0_ := Aside0.mk (blk_below (g := gb1) (o := .cells #[.bool a0_0, .slice A0_1 l0_1.length c0_1, .slice A0_2 l0_2.length c0_2] 41 (0, 0)) (bc BK1.out) hb); have n1_ := Aside0.mk (blk_below (g := gb2) (o := .cells #[.bool a1_0, .slice A1_1 l1_1.length c1_1, .slice A1_2 l1_2.length c1_2] 41 (0, 0)) (bc BK2.out) hb); have n2_ := Aside0.mk (below_step (by repeat (first | (with_reducible first | exact HB.out | apply below_alloc | apply pw_below_drewN | apply below_drew1 | refine below_set ?_ GE1.out | refine below_set ?_ GE2.out) | exact HB.out)) hb); clear BK1; clear BK2; clear HB; have BK1 := n0_; have BK2 := n1_; have HB := n2_; clear n0_ n1_ n2_; (try clear hb); (try clear hb2); (try clear hk); (try clear hi); have hcz11_0 : w10.cell? ⟨gb2, 0, none⟩ = some (.bool a1_0) := (blk_cell BK2.out 0).trans rfl; have hcz11_1 : w10.cell? ⟨gb2, 1, none⟩ = some (.slice A1_1 l1_1.length c1_1) := (blk_cell BK2.out 1).trans rfl; have hcz11_2 : w10.cell? ⟨gb2, 2, none⟩ = some (.slice A1_2 l1_2.length c1_2) := (blk_cell BK2.out 2).trans rfl; have hfz11_0 := blk_frozen BK2.out 0; have hfz11_1 := blk_frozen BK2.out 1; have hfz11_2 := blk_frozen BK2.out 2) | (go_at_call 89; (with_reducible refine (rat_Check.calls k a1_0 _ _ l1_1 _ _ l1_2 t4 _ ?side1 ?side2 ?side3 ?side4 A5.out).mono ?_); (case side1 => exact cc (Kd.C_below HR1_1.out HB.out)); (case side2 => exact HC1_1.out); (case side3 => exact cc (Kd.C_below HR1_2.out HB.out)); (case side4 => exact HC1_2.out); rintro e w12 ⟨rfl, hb⟩; have n0_ := Aside0.mk (blk_below (g := gb1) (o := .cells #[.bool a0_0, .slice A0_1 l0_1.length c0_1, .slice A0_2 l0_2.length c0_2] 41 (0, 0)) (bc BK1.out) hb); have n1_ := Aside0.mk (blk_below (g := gb2) (o := .cells #[.bool a1_0, .slice A1_1 l1_1.length c1_1, .slice A1_2 l1_2.length c1_2] 41 (0, 0)) (bc BK2.out) hb); have n2_ := Aside0.mk (below_step (by repeat (first | (with_reducible first | exact HB.out | apply below_alloc | apply pw_below_drewN | apply below_drew1 | refine below_set ?_ GE1.out | refine below_set ?_ GE2.out) | exact HB.out)) hb); clear BK1; clear BK2; clear HB; have BK1 := n0_; have BK2 := n1_; have HB := n2_; clear n0_ n1_ n2_; (try clear hb); (try clear hb2); (try clear hk); (try clear hi)))
    go_ret
    exact ⟨by first | rfl | (simp [errW_none, errW_some] <;> rfl) | (simp [*, errW_none, errW_some] <;> rfl), by repeat (first | (with_reducible first | exact HB.out | apply below_alloc | apply pw_below_drewN | apply below_drew1 | refine below_set ?_ GE1.out | refine below_set ?_ GE2.out) | exact HB.out)⟩
  · rw [if_neg c4] at H
    have c4b0 : (t3 == 0) = false := beq_eq_false_iff_ne.mpr c4
    have c4b1 : (t3 != 0) = true := bne_iff_ne.mpr c4
    obtain rfl := Option.some.inj H
    go_enter Tryz.func143, Tryz.ntmps143
    go_wp2_with (first | ((with_reducible refine gate_dst (N := 2) rfl ?_); refine box_event ?hg (N := 2) ?hd (cs := #[.bool a0_0, .slice A0_1 l0_1.length c0_1, .slice A0_2 l0_2.length c0_2]) (t := 41) ?hr ?_; (case hd => rfl); (case hg => rfl); (case hr => first | (go_simp; done) | (go_simp; rfl)); intro gb1 hg w13 hbox hb; have n0_ := Aside0.mk (below_step (lc HB.out) hb); have n1_ := Aside0.mk (hbox); have n2_ := Aside0.mk ((by rw [hg]; exact (below_size (lc HB.out)) : w.heap.size ≤ gb1)); have n3_ := Aside0.mk ((by rw [hg]; exact (below_size (lc HB.out)) : w.heap.size ≤ gb1)); clear HB; have HB := n0_; have BK1 := n1_; have GW1 := n2_; have GE1 := n3_; clear n0_ n1_ n2_ n3_; clear hb hbox hg) | ((with_reducible refine gate_dst (N := 3) rfl ?_); refine box_event ?hg (N := 3) ?hd (cs := #[.bool a1_0, .slice A1_1 l1_1.length c1_1, .slice A1_2 l1_2.length c1_2]) (t := 41) ?hr ?_; (case hd => rfl); (case hg => rfl); (case hr => first | (go_simp; done) | (go_simp; rfl)); intro gb2 hg w14 hbox hb; have n0_ := Aside0.mk (blk_below (g := gb1) (o := .cells #[.bool a0_0, .slice A0_1 l0_1.length c0_1, .slice A0_2 l0_2.length c0_2] 41 (0, 0)) (bc BK1.out) hb); have n1_ := Aside0.mk (below_step (by repeat (first | (with_reducible first | exact HB.out | apply below_alloc | apply pw_below_drewN | apply below_drew1 | refine below_set ?_ GE1.out) | exact HB.out)) hb); have n2_ := Aside0.mk (hbox); have n3_ := Aside0.mk ((by rw [hg]; exact (below_size (by repeat (first | (with_reducible first | exact HB.out | apply below_alloc | apply pw_below_drewN | apply below_drew1 | refine below_set ?_ GE1.out) | exact HB.out))) : w.heap.size ≤ gb2)); have n4_ := Aside0.mk ((by rw [hg]; exact (below_size (by repeat (first | (with_reducible first | exact HB.out | apply below_alloc | apply pw_below_drewN | apply below_drew1 | refine below_set ?_ GE1.out) | exact HB.out))) : w.heap.size ≤ gb2)); have n5_ := Aside0.mk ((by rw [hg]; exact Nat.ne_of_lt (blk_lt (g := gb1) (o := .cells #[.bool a0_0, .slice A0_1 l0_1.length c0_1, .slice A0_2 l0_2.length c0_2] 41 (0, 0)) (bc BK1.out)) : gb1 ≠ gb2)); have n6_ := Aside0.mk ((by rw [hg]; exact Nat.ne_of_gt (blk_lt (g := gb1) (o := .cells #[.bool a0_0, .slice A0_1 l0_1.length c0_1, .slice A0_2 l0_2.length c0_2] 41 (0, 0)) (bc BK1.out)) : gb2 ≠ gb1)); clear BK1; clear HB; have BK1 := n0_; have HB := n1_; have BK2 := n2_; have GW2 := n3_; have GE2 := n4_; have NB1_2 := n5_; have NB2_1 := n6_; clear n0_ n1_ n2_ n3_ n4_ n5_ n6_; clear hb hbox hg; have hnb15 := NB1_2.out; have hnc15 := NB2_1.out; have hcz16_0 : w14.cell? ⟨gb1, 0, none⟩ = some (.bool a0_0) := (blk_cell BK1.out 0).trans rfl; have hcz16_1 : w14.cell? ⟨gb1, 1, none⟩ = some (.slice A0_1 l0_1.length c0_1) := (blk_cell BK1.out 1).trans rfl; have hcz16_2 : w14.cell? ⟨gb1, 2, none⟩ = some (.slice A0_2 l0_2.length c0_2) := (blk_cell BK1.out 2).trans rfl; have hfz16_0 := blk_frozen BK1.out 0; have hfz16_1 := blk_frozen BK1.out 1; have hfz16_2 := blk_frozen BK1.out 2) | (go_at_call 89; (with_reducible refine (rat_Check.calls k a0_0 _ _ l0_1 _ _ l0_2 t3 _ ?side1 ?side2 ?side3 ?side4 A3.out).mono ?_); (case side1 => exact cc (Kd.C_below HR0_1.out HB.out)); (case side2 => exact HC0_1.out); (case side3 => exact cc (Kd.C_below HR0_2.out HB.out)); (case side4 => exact HC0_2.out); rintro e w17 ⟨rfl, hb⟩; have n0_ := Aside0.mk (blk_below (g := gb1) (o := .cells #[.bool a0_0, .slice A0_1 l0_1.length c0_1, .slice A0_2 l0_2.length c0_2] 41 (0, 0)) (bc BK1.out) hb); have n1_ := Aside0.mk (blk_below (g := gb2) (o := .cells #[.bool a1_0, .slice A1_1 l1_1.length c1_1, .slice A1_2 l1_2.length c1_2] 41 (0, 0)) (bc BK2.out) hb); have n2_ := Aside0.mk (below_step (by repeat (first | (with_reducible first | exact HB.out | apply below_alloc | apply pw_below_drewN | apply below_drew1 | refine below_set ?_ GE1.out | refine below_set ?_ GE2.out) | exact HB.out)) hb); clear BK1; clear BK2; clear HB; have BK1 := n0_; have BK2 := n1_; have HB := n2_; clear n0_ n1_ n2_; (try clear hb); (try clear hb2); (try clear hk); (try clear hi)))
    go_ret
    exact ⟨by first | rfl | (simp [errW_none, errW_some] <;> rfl) | (simp [*, errW_none, errW_some] <;> rfl), by repeat (first | (with_reducible first | exact HB.out | apply below_alloc | apply pw_below_drewN | apply below_drew1 | refine below_set ?_ GE1.out | refine below_set ?_ GE2.out) | exact HB.out)⟩
end Go.Proofs.YtioofhilohmfbaaGreatDoor.P
end
section
namespace Go.Proofs.YtioofhilohmfbaaGreatDoor.P
open Go.RowKit Go.Proofs.YtioofhilohmfbaaGreatDoorW.PrintWords Go.Proofs.YtioofhilohmfbaaGreatDoorW.PrintLast Go.Proofs.YtioofhilohmfbaaGreatDoorW.PrintMore
attribute [local go_sem] max2_int min2_int max_two min_two max_three min_three max_four min_four
set_option linter.unusedVariables false
set_option linter.unusedSimpArgs false
/-! ### nat_Mul: function 170 -/
def nat_Mul.f (k : Nat) (l0 : List Int) (l1 : List Int) : Option (List Int × Int) := (nat_both.f l0 l1).bind fun t1 => (if t1 = 0 then ((nat_times.f k l0 l1).bind fun t2 => (some (t2, 0))) else (some (([] : List Int), t1)))
theorem nat_Mul.mono : ∀ a0 a1 k, LeO (nat_Mul.f k a0 a1) (nat_Mul.f (k + 1) a0 a1) := by
  intro a0 a1 k
  unfold nat_Mul.f
  repeat' first
      | (with_reducible exact nat_times.mono _ _ _)
      | (with_reducible exact LeO.refl _)
      | (with_reducible exact LeO.none _)
      | (with_reducible refine LeO.ite ?_ ?_)
      | (with_reducible refine LeO.bind ?_ (fun _ => ?_))
      | exact nat_times.mono _ _ _
      | exact LeO.none _
      | refine LeO.ite ?_ ?_
      | refine LeO.bind ?_ (fun _ => ?_)
set_option maxHeartbeats 8000000 in
set_option maxRecDepth 100000 in
theorem nat_Mul.calls (k : Nat) (A0 : Option Addr) (c0 : Nat) (l0 : List Int) (A1 : Option Addr) (c1 : Nat) (l1 : List Int) (r1 : List Int) (r2 : Int) (w : World) (hr0 : Kd.C (Kd.int .u32) w A0 l0.length l0) (hc0 : l0.length ≤ c0) (hr1 : Kd.C (Kd.int .u32) w A1 l1.length l1) (hc1 : l1.length ≤ c1) (h : nat_Mul.f k l0 l1 = some (r1, r2)) :
    Calls Tryz.prog 170 #[.slice A0 l0.length c0, .slice A1 l1.length c1] w fun e w' => ∃ v0_ : Value, e = .returned (.tuple #[v0_, .int .i64 r2]) ∧ Kd.V (Kd.int .u32) 109 w' w.heap.size (fun k_ => (w.heap.size ≤ k_)) v0_ r1 ∧ Below w.heap.size w w' := by
  have HR0 := Aside0.mk hr0
  have HC0 := Aside0.mk hc0
  clear hr0 hc0
  have HR1 := Aside0.mk hr1
  have HC1 := Aside0.mk hc1
  clear hr1 hc1
  have HB := Aside0.mk (Below.refl w.heap.size w)
  have H : ((nat_both.f l0 l1).bind fun t1 => (if t1 = 0 then ((nat_times.f k l0 l1).bind fun t2 => (some (t2, 0))) else (some (([] : List Int), t1)))) = some (r1, r2) := h
  clear h
  replace H := Option.bind_eq_some_iff.mp H
  obtain ⟨t1, A30, H⟩ := H
  replace H : (if t1 = 0 then ((nat_times.f k l0 l1).bind fun t2 => (some (t2, 0))) else (some (([] : List Int), t1))) = some (r1, r2) := H
  have A3 := Aside0.mk A30
  clear A30
  by_cases c4 : t1 = 0
  · rw [if_pos c4] at H
    have c4b0 : (t1 == 0) = true := beq_iff_eq.mpr c4
    have c4b1 : (t1 != 0) = false := bne_eq_false_iff_eq.mpr c4
    clear c4
    replace H := Option.bind_eq_some_iff.mp H
    obtain ⟨t2, A50, H⟩ := H
    replace H : (some (t2, 0)) = some (r1, r2) := H
    have A5 := Aside0.mk A50
    clear A50
    simp only [Option.some.injEq, Prod.mk.injEq] at H
    obtain ⟨rfl, rfl⟩ := H
    go_enter Tryz.func170, Tryz.ntmps170
    go_wp2_with (first | (go_at_call 163; (with_reducible refine (nat_both.calls _ _ l0 _ _ l1 t1 _ ?side1 ?side2 ?side3 ?side4 A3.out).mono ?_); (case side1 => exact cc HR0.out); (case side2 => exact HC0.out); (case side3 => exact cc HR1.out); (case side4 => exact HC1.out); rintro e w' ⟨rfl, ⟨nd, rfl⟩⟩) | (go_at_call 136; (with_reducible refine (nat_times.calls k _ _ l0 _ _ l1 t2 _ ?side1 ?side2 ?side3 ?side4 A5.out).mono ?_); (case side1 => exact cc HR0.out); (case side2 => exact HC0.out); (case side3 => exact cc HR1.out); (case side4 => exact HC1.out); rintro e w6 ⟨v3, rfl, ho0, hb⟩; have n0_ := Aside0.mk (Kd.V_lower (Kd.V_mono (ok' := fun k_ => (w.heap.size ≤ k_)) ho0 (fun k_ hk_ => (Nat.le_trans (below_size (lc HB.out)) hk_))) (below_size (lc HB.out))); have n1_ := Aside0.mk (below_step (lc HB.out) hb); clear HB; have HO4 := n0_; have HB := n1_; clear n0_ n1_; (try clear hb); (try clear hb2); (try clear hk); (try clear hi); (try clear ho0)))
    go_ret2
    exact ⟨_, by first | rfl | (simp [errW_none, errW_some] <;> rfl) | (simp [*, errW_none, errW_some] <;> rfl), by (with_reducible repeat (first | apply Kd.V_alloc | apply Kd.V_drewN | apply Kd.V_drew)); exact HO4.out, by exact lc HB.out⟩
  · rw [if_neg c4] at H
    have c4b0 : (t1 == 0) = false := beq_eq_false_iff_ne.mpr c4
    have c4b1 : (t1 != 0) = true := bne_iff_ne.mpr c4
    simp only [Option.some.injEq, Prod.mk.injEq] at H
    obtain ⟨rfl, rfl⟩ := H
    go_enter Tryz.func170, Tryz.ntmps170
    go_wp2_with (first | (go_at_call 163; (with_reducible refine (nat_both.calls _ _ l0 _ _ l1 t1 _ ?side1 ?side2 ?side3 ?side4 A3.out).mono ?_); (case side1 => exact cc HR0.out); (case side2 => exact HC0.out); (case side3 => exact cc HR1.out); (case side4 => exact HC1.out); rintro e w' ⟨rfl, ⟨nd, rfl⟩⟩))
    go_ret2
    exact ⟨_, by first | rfl | (simp [errW_none, errW_some] <;> rfl) | (simp [*, errW_none, errW_some] <;> rfl), (Kd.V_nil _ _ _ _ _), by exact lc HB.out⟩
end Go.Proofs.YtioofhilohmfbaaGreatDoor.P
end
section
namespace Go.Proofs.YtioofhilohmfbaaGreatDoor.P
open Go.RowKit Go.Proofs.YtioofhilohmfbaaGreatDoorW.PrintWords Go.Proofs.YtioofhilohmfbaaGreatDoorW.PrintLast Go.Proofs.YtioofhilohmfbaaGreatDoorW.PrintMore
attribute [local go_sem] max2_int min2_int max_two min_two max_three min_three max_four min_four
set_option linter.unusedVariables false
set_option linter.unusedSimpArgs false
/-! ### rat_product: function 144 -/
def rat_product.l0 : Nat → List Int → List (List Int) → Int → Int → Option (List Int)
  | 0, _, _, _, _ => none
  | k + 1, x3, x9, x10, x11 => if x11 < x10 then (if 0 ≤ x11 then (if x11 < (x9.length : Int) then ((nat_Mul.f k x3 (rd_L7 x9 x11)).bind fun bt5 => (if bt5.2 = 0 then (rat_product.l0 k bt5.1 x9 x10 (wrap64 (x11 + 1))) else (some ([] : List Int)))) else (none)) else (none)) else (some x3)
def rat_product.f (k : Nat) (l0 : List (List Int)) : Option (List Int) := (rat_one.f k).bind fun t1 => (rat_product.l0 k t1 l0 (l0.length : Int) 0)
theorem rat_product.mono_l : ∀ k, (∀ y0 y1 y2 y3, LeO (rat_product.l0 k y0 y1 y2 y3) (rat_product.l0 (k + 1) y0 y1 y2 y3))
  | 0 => fun _ _ _ _ r h => by simp [rat_product.l0] at h
  | k + 1 => by
    have ih0 := rat_product.mono_l k
    · intro y0 y1 y2 y3
      unfold rat_product.l0
      repeat' first
      | (with_reducible exact ih0 _ _ _ _)
      | (with_reducible exact nat_Mul.mono _ _ _)
      | (with_reducible exact rat_one.mono _)
      | (with_reducible exact LeO.refl _)
      | (with_reducible exact LeO.none _)
      | (with_reducible refine LeO.ite ?_ ?_)
      | (with_reducible refine LeO.bind ?_ (fun _ => ?_))
      | exact ih0 _ _ _ _
      | exact nat_Mul.mono _ _ _
      | exact rat_one.mono _
      | exact LeO.none _
      | refine LeO.ite ?_ ?_
      | refine LeO.bind ?_ (fun _ => ?_)
theorem rat_product.mono : ∀ a0 k, LeO (rat_product.f k a0) (rat_product.f (k + 1) a0) := by
  intro a0 k
  have ih0 := rat_product.mono_l k
  unfold rat_product.f
  repeat' first
      | (with_reducible exact ih0 _ _ _ _)
      | (with_reducible exact nat_Mul.mono _ _ _)
      | (with_reducible exact rat_one.mono _)
      | (with_reducible exact LeO.refl _)
      | (with_reducible exact LeO.none _)
      | (with_reducible refine LeO.ite ?_ ?_)
      | (with_reducible refine LeO.bind ?_ (fun _ => ?_))
      | exact ih0 _ _ _ _
      | exact nat_Mul.mono _ _ _
      | exact rat_one.mono _
      | exact LeO.none _
      | refine LeO.ite ?_ ?_
      | refine LeO.bind ?_ (fun _ => ?_)
set_option maxHeartbeats 8000000 in
set_option maxRecDepth 100000 in
theorem rat_product.calls (k : Nat) (A0 : Option Addr) (c0 : Nat) (l0 : List (List Int)) (r : List Int) (w : World) (hr0 : Kd.C (Kd.slice 109 (Kd.int .u32)) w A0 l0.length l0) (hc0 : l0.length ≤ c0) (h : rat_product.f k l0 = some r) :
    Calls Tryz.prog 144 #[.slice A0 l0.length c0] w fun e w' => ∃ v0_ : Value, e = .returned (v0_) ∧ Kd.V (Kd.int .u32) 109 w' w.heap.size (fun k_ => (w.heap.size ≤ k_)) v0_ r ∧ Below w.heap.size w w' := by
  have HR0 := Aside0.mk hr0
  have HC0 := Aside0.mk hc0
  clear hr0 hc0
  have HB := Aside0.mk (Below.refl w.heap.size w)
  have H : ((rat_one.f k).bind fun t1 => (rat_product.l0 k t1 l0 (l0.length : Int) 0)) = some r := h
  clear h
  replace H := Option.bind_eq_some_iff.mp H
  obtain ⟨t1, A20, H⟩ := H
  replace H : (rat_product.l0 k t1 l0 (l0.length : Int) 0) = some r := H
  have A2 := Aside0.mk A20
  clear A20
  have H' := Aside0.mk H
  clear H
  go_enter Tryz.func144, Tryz.ntmps144
  go_wp2_with (first | (go_at_call 132; (with_reducible refine (rat_one.calls k  t1 _ A2.out).mono ?_); rintro e w3 ⟨v2, rfl, ho0, hb⟩; have n0_ := Aside0.mk (Kd.V_lower (Kd.V_mono (ok' := fun k_ => (w.heap.size ≤ k_)) ho0 (fun k_ hk_ => (Nat.le_trans (below_size (lc HB.out)) hk_))) (below_size (lc HB.out))); have n1_ := Aside0.mk (below_step (lc HB.out) hb); clear HB; have HO3 := n0_; have HB := n1_; clear n0_ n1_; (try clear hb); (try clear hb2); (try clear hk); (try clear hi); (try clear ho0)))
  go_loopg [3, 11] k (fun kq v3 v11 w' => ∃ (x3_1 : List Int) (x11_1 : Int), v11 = .int .i64 x11_1 ∧ Aside0 (rat_product.l0 kq x3_1 l0 (l0.length : Int) x11_1 = some r) ∧ Aside0 (kq ≤ k) ∧ Aside0 (Kd.V (Kd.int .u32) 109 w' w.heap.size (fun k_ => (w.heap.size ≤ k_)) v3 x3_1) ∧ Aside0 (Below w.heap.size w w'))
  case atStart => exact ⟨(t1), (0), (by first | rfl | (simp; done) | (simp [*]; done)), H', ⟨Nat.le_refl _⟩, ⟨by (with_reducible repeat (first | apply Kd.V_alloc | apply Kd.V_drewN | apply Kd.V_drew)); exact HO3.out⟩, ⟨by exact lc HB.out⟩⟩
  case round =>
    clear H'
    try clear c1
    try clear p2
    obtain ⟨x3_1, x11_1, rfl, HA, HK1, HO_3, HB⟩ := hrel
    cases gk with
    | zero => exact absurd HA.out (by simp [rat_product.l0])
    | succ k1 =>
      have H := HA.out
      clear HA
      simp only [rat_product.l0] at H
      by_cases c4 : x11_1 < (l0.length : Int)
      · rw [if_pos c4] at H
        have c4b0 : decide (x11_1 < (l0.length : Int)) = true := decide_eq_true c4
        clear c4
        by_cases c5 : 0 ≤ x11_1
        · rw [if_pos c5] at H
          have c5b0 : decide (0 ≤ x11_1) = true := decide_eq_true c5
          clear c5
          by_cases c6 : x11_1 < (l0.length : Int)
          · rw [if_pos c6] at H
            have c6b0 : decide (x11_1 < (l0.length : Int)) = true := decide_eq_true c6
            clear c6
            replace H := Option.bind_eq_some_iff.mp H
            obtain ⟨⟨t5, t8⟩, A70, H⟩ := H
            replace H : (if t8 = 0 then (rat_product.l0 k1 t5 l0 (l0.length : Int) (wrap64 (x11_1 + 1))) else (some ([] : List Int))) = some r := H
            have A7 := Aside0.mk A70
            clear A70
            by_cases c8 : t8 = 0
            · rw [if_pos c8] at H
              have c8b0 : (t8 == 0) = true := beq_iff_eq.mpr c8
              have c8b1 : (t8 != 0) = false := bne_eq_false_iff_eq.mpr c8
              clear c8
              have H' := Aside0.mk H
              clear H
              have p4 : 0 ≤ (x11_1 : Int) := of_decide_eq_true (by first | (with_reducible assumption) | assumption)
              have q4 : x11_1 < (l0.length : Int) := of_decide_eq_true (by first | (with_reducible assumption) | assumption)
              obtain ⟨ad4, A4_0, c4_0, e4, hx4_0, hl4_0, hi4_0⟩ := at_L7 HR0.out x11_1 p4 q4
              cases e4
              replace hx4_0 := (HB.out.cell (World.block_lt_of_cell? w _ hx4_0)).trans hx4_0
              have HR4_0 := Aside0.mk hi4_0
              have HC4_0 := Aside0.mk hl4_0
              clear hi4_0 hl4_0
              replace p4 := eq_true p4
              replace q4 := eq_true q4
              obtain ⟨Ao9, co9, eo9⟩ := Kd.V_slice HO_3.out
              subst eo9
              go_wp2_with (first | (go_at_call 170; (with_reducible refine (nat_Mul.calls k1 _ _ x3_1 _ _ (rd_L7 l0 x11_1) t5 t8 _ ?side1 ?side2 ?side3 ?side4 A7.out).mono ?_); (case side1 => exact cc (Kd.V_reads' HO_3.out).2.2); (case side2 => exact (Kd.V_reads' HO_3.out).2.1); (case side3 => exact cc (Kd.C_below HR4_0.out HB.out)); (case side4 => exact HC4_0.out); rintro e w10 ⟨v6, rfl, ho0, hb⟩; have n0_ := Aside0.mk (Kd.V_below (vc HO_3.out) hb); have n1_ := Aside0.mk (Kd.V_lower (Kd.V_mono (ok' := fun k_ => (w.heap.size ≤ k_)) ho0 (fun k_ hk_ => (Nat.le_trans (below_size (lc HB.out)) hk_))) (below_size (lc HB.out))); have n2_ := Aside0.mk (below_step (lc HB.out) hb); clear HO_3; clear HB; have HO_3 := n0_; have HO7 := n1_; have HB := n2_; clear n0_ n1_ n2_; (try clear hb); (try clear hb2); (try clear hk); (try clear hi); (try clear ho0)))
              go_roundg k1
              case measure => have := HK1.out; omega
              case rel => exact ⟨(t5), (wrap64 (x11_1 + 1)), (by first | rfl | (simp; done) | (simp [*]; done)), H', ⟨by have := HK1.out; omega⟩, ⟨by (with_reducible repeat (first | apply Kd.V_alloc | apply Kd.V_drewN | apply Kd.V_drew)); exact HO7.out⟩, ⟨by exact lc HB.out⟩⟩
            · rw [if_neg c8] at H
              have c8b0 : (t8 == 0) = false := beq_eq_false_iff_ne.mpr c8
              have c8b1 : (t8 != 0) = true := bne_iff_ne.mpr c8
              obtain rfl := Option.some.inj H
              have p4 : 0 ≤ (x11_1 : Int) := of_decide_eq_true (by first | (with_reducible assumption) | assumption)
              have q4 : x11_1 < (l0.length : Int) := of_decide_eq_true (by first | (with_reducible assumption) | assumption)
              obtain ⟨ad4, A4_0, c4_0, e4, hx4_0, hl4_0, hi4_0⟩ := at_L7 HR0.out x11_1 p4 q4
              cases e4
              replace hx4_0 := (HB.out.cell (World.block_lt_of_cell? w _ hx4_0)).trans hx4_0
              have HR4_0 := Aside0.mk hi4_0
              have HC4_0 := Aside0.mk hl4_0
              clear hi4_0 hl4_0
              replace p4 := eq_true p4
              replace q4 := eq_true q4
              obtain ⟨Ao11, co11, eo11⟩ := Kd.V_slice HO_3.out
              subst eo11
              go_wp2_with (first | (go_at_call 170; (with_reducible refine (nat_Mul.calls k1 _ _ x3_1 _ _ (rd_L7 l0 x11_1) t5 t8 _ ?side1 ?side2 ?side3 ?side4 A7.out).mono ?_); (case side1 => exact cc (Kd.V_reads' HO_3.out).2.2); (case side2 => exact (Kd.V_reads' HO_3.out).2.1); (case side3 => exact cc (Kd.C_below HR4_0.out HB.out)); (case side4 => exact HC4_0.out); rintro e w12 ⟨v6, rfl, ho0, hb⟩; have n0_ := Aside0.mk (Kd.V_below (vc HO_3.out) hb); have n1_ := Aside0.mk (Kd.V_lower (Kd.V_mono (ok' := fun k_ => (w.heap.size ≤ k_)) ho0 (fun k_ hk_ => (Nat.le_trans (below_size (lc HB.out)) hk_))) (below_size (lc HB.out))); have n2_ := Aside0.mk (below_step (lc HB.out) hb); clear HO_3; clear HB; have HO_3 := n0_; have HO7 := n1_; have HB := n2_; clear n0_ n1_ n2_; (try clear hb); (try clear hb2); (try clear hk); (try clear hi); (try clear ho0)))
              go_ret
              exact ⟨_, by first | rfl | (simp [errW_none, errW_some] <;> rfl) | (simp [*, errW_none, errW_some] <;> rfl), (Kd.V_nil _ _ _ _ _), by exact lc HB.out⟩
          · rw [if_neg c6] at H
            exact absurd H (by simp)
        · rw [if_neg c5] at H
          exact absurd H (by simp)
      · rw [if_neg c4] at H
        have c4b0 : decide (x11_1 < (l0.length : Int)) = false := decide_eq_false c4
        clear c4
        obtain rfl := Option.some.inj H
        go_wp2
        go_ret
        exact ⟨_, by first | rfl | (simp [errW_none, errW_some] <;> rfl) | (simp [*, errW_none, errW_some] <;> rfl), by (with_reducible repeat (first | apply Kd.V_alloc | apply Kd.V_drewN | apply Kd.V_drew)); exact HO_3.out, by exact lc HB.out⟩
end Go.Proofs.YtioofhilohmfbaaGreatDoor.P
end
section
namespace Go.Proofs.YtioofhilohmfbaaGreatDoor.P
open Go.RowKit Go.Proofs.YtioofhilohmfbaaGreatDoorW.PrintWords Go.Proofs.YtioofhilohmfbaaGreatDoorW.PrintLast Go.Proofs.YtioofhilohmfbaaGreatDoorW.PrintMore
attribute [local go_sem] max2_int min2_int max_two min_two max_three min_three max_four min_four
set_option linter.unusedVariables false
set_option linter.unusedSimpArgs false
/-! ### rat_reduced: function 139 -/
def rat_reduced.f (k : Nat) (a0 : Bool) (l1 : List Int) (l2 : List Int) : Option (Bool × List Int × List Int × Int) := (nat_Gcd.f k l1 l2).bind fun bt2 => (if bt2.2 = 0 then ((nat_Div.f l1 bt2.1).bind fun bt6 => ((nat_Div.f l2 bt2.1).bind fun bt13 => (if bt6.2.2 = 0 then (if bt13.2.2 = 0 then (if (bt6.1.length : Int) > 16 then (some (false, ([] : List Int), ([] : List Int), 20)) else (if (bt13.1.length : Int) > 16 then (some (false, ([] : List Int), ([] : List Int), 20)) else (if a0 = true then (some (decide ((bt6.1.length : Int) > 0), bt6.1, bt13.1, 0)) else (some (false, bt6.1, bt13.1, 0))))) else (some (false, ([] : List Int), ([] : List Int), 20))) else (some (false, ([] : List Int), ([] : List Int), 20))))) else (some (false, ([] : List Int), ([] : List Int), 20)))
theorem rat_reduced.mono : ∀ a0 a1 a2 k, LeO (rat_reduced.f k a0 a1 a2) (rat_reduced.f (k + 1) a0 a1 a2) := by
  intro a0 a1 a2 k
  unfold rat_reduced.f
  repeat' first
      | (with_reducible exact nat_Gcd.mono _ _ _)
      | (with_reducible exact LeO.refl _)
      | (with_reducible exact LeO.none _)
      | (with_reducible refine LeO.ite ?_ ?_)
      | (with_reducible refine LeO.bind ?_ (fun _ => ?_))
      | exact nat_Gcd.mono _ _ _
      | exact LeO.none _
      | refine LeO.ite ?_ ?_
      | refine LeO.bind ?_ (fun _ => ?_)
set_option maxHeartbeats 8000000 in
set_option maxRecDepth 100000 in
theorem rat_reduced.calls (k : Nat) (a0 : Bool) (A1 : Option Addr) (c1 : Nat) (l1 : List Int) (A2 : Option Addr) (c2 : Nat) (l2 : List Int) (r1 : Bool) (r2 : List Int) (r3 : List Int) (r4 : Int) (w : World) (hr1 : Kd.C (Kd.int .u32) w A1 l1.length l1) (hc1 : l1.length ≤ c1) (hr2 : Kd.C (Kd.int .u32) w A2 l2.length l2) (hc2 : l2.length ≤ c2) (h : rat_reduced.f k a0 l1 l2 = some (r1, r2, r3, r4)) :
    Calls Tryz.prog 139 #[.bool a0, .slice A1 l1.length c1, .slice A2 l2.length c2] w fun e w' => ∃ v1_ v2_ : Value, e = .returned (.tuple #[.agg #[.bool r1, v1_, v2_], .int .i64 r4]) ∧ Kd.R (Kd.int .u32) 109 w' w.heap.size (fun k_ => some k_ ≠ (v2_ : Value).ownBlock) v1_ r2 ∧ Kd.R (Kd.int .u32) 109 w' w.heap.size (fun k_ => some k_ ≠ (v1_ : Value).ownBlock) v2_ r3 ∧ Below w.heap.size w w' := by
  have hu41 := Tryz.underlying41
  have HR1 := Aside0.mk hr1
  have HC1 := Aside0.mk hc1
  clear hr1 hc1
  have HR2 := Aside0.mk hr2
  have HC2 := Aside0.mk hc2
  clear hr2 hc2
  have HB := Aside0.mk (Below.refl w.heap.size w)
  have H : ((nat_Gcd.f k l1 l2).bind fun bt2 => (if bt2.2 = 0 then ((nat_Div.f l1 bt2.1).bind fun bt6 => ((nat_Div.f l2 bt2.1).bind fun bt13 => (if bt6.2.2 = 0 then (if bt13.2.2 = 0 then (if (bt6.1.length : Int) > 16 then (some (false, ([] : List Int), ([] : List Int), 20)) else (if (bt13.1.length : Int) > 16 then (some (false, ([] : List Int), ([] : List Int), 20)) else (if a0 = true then (some (decide ((bt6.1.length : Int) > 0), bt6.1, bt13.1, 0)) else (some (false, bt6.1, bt13.1, 0))))) else (some (false, ([] : List Int), ([] : List Int), 20))) else (some (false, ([] : List Int), ([] : List Int), 20))))) else (some (false, ([] : List Int), ([] : List Int), 20)))) = some (r1, r2, r3, r4) := h
  clear h
  replace H := Option.bind_eq_some_iff.mp H
  obtain ⟨⟨t2, t3⟩, A40, H⟩ := H
  replace H : (if t3 = 0 then ((nat_Div.f l1 t2).bind fun bt6 => ((nat_Div.f l2 t2).bind fun bt13 => (if bt6.2.2 = 0 then (if bt13.2.2 = 0 then (if (bt6.1.length : Int) > 16 then (some (false, ([] : List Int), ([] : List Int), 20)) else (if (bt13.1.length : Int) > 16 then (some (false, ([] : List Int), ([] : List Int), 20)) else (if a0 = true then (some (decide ((bt6.1.length : Int) > 0), bt6.1, bt13.1, 0)) else (some (false, bt6.1, bt13.1, 0))))) else (some (false, ([] : List Int), ([] : List Int), 20))) else (some (false, ([] : List Int), ([] : List Int), 20))))) else (some (false, ([] : List Int), ([] : List Int), 20))) = some (r1, r2, r3, r4) := H
  have A4 := Aside0.mk A40
  clear A40
  by_cases c5 : t3 = 0
  · rw [if_pos c5] at H
    have c5b0 : (t3 == 0) = true := beq_iff_eq.mpr c5
    have c5b1 : (t3 != 0) = false := bne_eq_false_iff_eq.mpr c5
    clear c5
    replace H := Option.bind_eq_some_iff.mp H
    obtain ⟨⟨t6, t7, t8⟩, A60, H⟩ := H
    replace H : ((nat_Div.f l2 t2).bind fun bt13 => (if t8 = 0 then (if bt13.2.2 = 0 then (if (t6.length : Int) > 16 then (some (false, ([] : List Int), ([] : List Int), 20)) else (if (bt13.1.length : Int) > 16 then (some (false, ([] : List Int), ([] : List Int), 20)) else (if a0 = true then (some (decide ((t6.length : Int) > 0), t6, bt13.1, 0)) else (some (false, t6, bt13.1, 0))))) else (some (false, ([] : List Int), ([] : List Int), 20))) else (some (false, ([] : List Int), ([] : List Int), 20)))) = some (r1, r2, r3, r4) := H
    have A6 := Aside0.mk A60
    clear A60
    replace H := Option.bind_eq_some_iff.mp H
    obtain ⟨⟨t13, t14, t15⟩, A70, H⟩ := H
    replace H : (if t8 = 0 then (if t15 = 0 then (if (t6.length : Int) > 16 then (some (false, ([] : List Int), ([] : List Int), 20)) else (if (t13.length : Int) > 16 then (some (false, ([] : List Int), ([] : List Int), 20)) else (if a0 = true then (some (decide ((t6.length : Int) > 0), t6, t13, 0)) else (some (false, t6, t13, 0))))) else (some (false, ([] : List Int), ([] : List Int), 20))) else (some (false, ([] : List Int), ([] : List Int), 20))) = some (r1, r2, r3, r4) := H
    have A7 := Aside0.mk A70
    clear A70
    by_cases c8 : t8 = 0
    · rw [if_pos c8] at H
      have c8b0 : (t8 == 0) = true := beq_iff_eq.mpr c8
      have c8b1 : (t8 != 0) = false := bne_eq_false_iff_eq.mpr c8
      clear c8
      by_cases c9 : t15 = 0
      · rw [if_pos c9] at H
        have c9b0 : (t15 == 0) = true := beq_iff_eq.mpr c9
        have c9b1 : (t15 != 0) = false := bne_eq_false_iff_eq.mpr c9
        clear c9
        by_cases c10 : (t6.length : Int) > 16
        · rw [if_pos c10] at H
          have c10b0 : decide (16 < (t6.length : Int)) = true := decide_eq_true c10
          have c10b1 : decide (16 < t6.length) = true := decide_eq_true (by omega)
          clear c10
          simp only [Option.some.injEq, Prod.mk.injEq] at H
          obtain ⟨rfl, rfl, rfl, rfl⟩ := H
          try (have hdl_ : decide ((t6.length : Int) > 0) = decide (0 < t6.length) := decide_eq_decide.2 (by omega); simp only [hdl_])
          go_enter Tryz.func139, Tryz.ntmps139
          go_wp2_with (first | ((with_reducible refine gate_dst (N := 6) rfl ?_); (try (refine gate_guard (by rfl) ?_; dsimp only)); refine box_event ?hg (N := 6) ?hd (cs := #[.bool false, .slice none 0 0, .slice none 0 0]) (t := 41) ?hr ?_; (case hd => rfl); (case hg => rfl); (case hr => first | (go_simp; done) | (go_simp; rfl)); intro gb1 hg w11 hbox hb; have n0_ := Aside0.mk (below_step (lc HB.out) hb); have n1_ := Aside0.mk (hbox); have n2_ := Aside0.mk ((by rw [hg]; exact (below_size (lc HB.out)) : w.heap.size ≤ gb1)); have n3_ := Aside0.mk ((by rw [hg]; exact (below_size (lc HB.out)) : w.heap.size ≤ gb1)); clear HB; have HB := n0_; have BK1 := n1_; have GW1 := n2_; have GE1 := n3_; clear n0_ n1_ n2_ n3_; clear hb hbox hg) | (go_at_call 130; (with_reducible refine (nat_Gcd.calls k _ _ l1 _ _ l2 t2 t3 _ ?side1 ?side2 ?side3 ?side4 A4.out).mono ?_); (case side1 => exact cc (Kd.C_below HR1.out HB.out)); (case side2 => exact HC1.out); (case side3 => exact cc (Kd.C_below HR2.out HB.out)); (case side4 => exact HC2.out); rintro e w12 ⟨v4, rfl, ho0, hb⟩; have n0_ := Aside0.mk (Kd.R_lower ho0 (below_size (by repeat (first | (with_reducible first | exact HB.out | apply below_alloc | apply pw_below_drewN | apply below_drew1 | refine below_set ?_ GE1.out) | exact HB.out)))); have n1_ := Aside0.mk (blk_below (g := gb1) (o := .cells #[.bool false, .slice none 0 0, .slice none 0 0] 41 (0, 0)) (bc BK1.out) hb); have n2_ := Aside0.mk (below_step (by repeat (first | (with_reducible first | exact HB.out | apply below_alloc | apply pw_below_drewN | apply below_drew1 | refine below_set ?_ GE1.out) | exact HB.out)) hb); clear BK1; clear HB; have HO5 := n0_; have BK1 := n1_; have HB := n2_; clear n0_ n1_ n2_; (try clear hb); (try clear hb2); (try clear hk); (try clear hi); (try clear ho0); obtain ⟨Ao13, co13, eo13⟩ := Kd.R_slice HO5.out; subst eo13) | (go_at_call 168; (with_reducible refine (nat_Div.calls _ _ l1 _ _ t2 t6 t7 t8 _ ?side1 ?side2 ?side3 ?side4 A6.out).mono ?_); (case side1 => exact cc (Kd.C_below HR1.out HB.out)); (case side2 => exact HC1.out); (case side3 => exact cc (Kd.R_reads' HO5.out).2.2); (case side4 => exact (Kd.R_reads' HO5.out).2.1); rintro e w14 ⟨v9, v11, rfl, ho0, ho1, hb⟩; have n0_ := Aside0.mk (Kd.R_mono (Kd.R_told (Kd.R_told (Kd.R_old (rc HO5.out) hb) (Kd.R_base ho0)) (Kd.R_base ho1)) (fun _ h_ => h_.1)); have n1_ := Aside0.mk (Kd.R_lower (Kd.R_new' ho0 (Kd.R_lt (rc HO5.out))) (below_size (by repeat (first | (with_reducible first | exact HB.out | apply below_alloc | apply pw_below_drewN | apply below_drew1 | refine below_set ?_ GE1.out) | exact HB.out)))); have n2_ := Aside0.mk (Kd.R_lower (Kd.R_new' ho1 (Kd.R_lt (rc HO5.out))) (below_size (by repeat (first | (with_reducible first | exact HB.out | apply below_alloc | apply pw_below_drewN | apply below_drew1 | refine below_set ?_ GE1.out) | exact HB.out)))); have n3_ := Aside0.mk (blk_below (g := gb1) (o := .cells #[.bool false, .slice none 0 0, .slice none 0 0] 41 (0, 0)) (bc BK1.out) hb); have n4_ := Aside0.mk (below_step (by repeat (first | (with_reducible first | exact HB.out | apply below_alloc | apply pw_below_drewN | apply below_drew1 | refine below_set ?_ GE1.out) | exact HB.out)) hb); clear HO5; clear BK1; clear HB; have HO5 := n0_; have HO10 := n1_; have HO12 := n2_; have BK1 := n3_; have HB := n4_; clear n0_ n1_ n2_ n3_ n4_; (try clear hb); (try clear hb2); (try clear hk); (try clear hi); (try clear ho0); (try clear ho1)) | (go_at_call 168; (with_reducible refine (nat_Div.calls _ _ l2 _ _ t2 t13 t14 t15 _ ?side1 ?side2 ?side3 ?side4 A7.out).mono ?_); (case side1 => exact cc (Kd.C_below HR2.out HB.out)); (case side2 => exact HC2.out); (case side3 => exact cc (Kd.R_reads' HO5.out).2.2); (case side4 => exact (Kd.R_reads' HO5.out).2.1); rintro e w15 ⟨v16, v18, rfl, ho0, ho1, hb⟩; have n0_ := Aside0.mk (Kd.R_mono (Kd.R_told (Kd.R_told (Kd.R_old (rc HO5.out) hb) (Kd.R_base ho0)) (Kd.R_base ho1)) (fun _ h_ => h_.1)); have n1_ := Aside0.mk (Kd.R_mono (Kd.R_told (Kd.R_told (Kd.R_old (rc HO10.out) hb) (Kd.R_base ho0)) (Kd.R_base ho1)) (fun _ h_ => h_.1)); have n2_ := Aside0.mk (Kd.R_mono (Kd.R_told (Kd.R_told (Kd.R_old (rc HO12.out) hb) (Kd.R_base ho0)) (Kd.R_base ho1)) (fun _ h_ => h_.1)); have n3_ := Aside0.mk (Kd.R_lower (Kd.R_new' (Kd.R_new' (Kd.R_new' ho0 (Kd.R_lt (rc HO5.out))) (Kd.R_lt (rc HO10.out))) (Kd.R_lt (rc HO12.out))) (below_size (by repeat (first | (with_reducible first | exact HB.out | apply below_alloc | apply pw_below_drewN | apply below_drew1 | refine below_set ?_ GE1.out) | exact HB.out)))); have n4_ := Aside0.mk (Kd.R_lower (Kd.R_new' (Kd.R_new' (Kd.R_new' ho1 (Kd.R_lt (rc HO5.out))) (Kd.R_lt (rc HO10.out))) (Kd.R_lt (rc HO12.out))) (below_size (by repeat (first | (with_reducible first | exact HB.out | apply below_alloc | apply pw_below_drewN | apply below_drew1 | refine below_set ?_ GE1.out) | exact HB.out)))); have n5_ := Aside0.mk (blk_below (g := gb1) (o := .cells #[.bool false, .slice none 0 0, .slice none 0 0] 41 (0, 0)) (bc BK1.out) hb); have n6_ := Aside0.mk (below_step (by repeat (first | (with_reducible first | exact HB.out | apply below_alloc | apply pw_below_drewN | apply below_drew1 | refine below_set ?_ GE1.out) | exact HB.out)) hb); clear HO5; clear HO10; clear HO12; clear BK1; clear HB; have HO5 := n0_; have HO10 := n1_; have HO12 := n2_; have HO17 := n3_; have HO19 := n4_; have BK1 := n5_; have HB := n6_; clear n0_ n1_ n2_ n3_ n4_ n5_ n6_; (try clear hb); (try clear hb2); (try clear hk); (try clear hi); (try clear ho0); (try clear ho1); obtain ⟨Ao16, co16, eo16⟩ := Kd.R_slice HO10.out; subst eo16; have hcz17_0 : w15.cell? ⟨gb1, 0, none⟩ = some (.bool false) := (blk_cell BK1.out 0).trans rfl; have hcz17_1 : w15.cell? ⟨gb1, 1, none⟩ = some (.slice none 0 0) := (blk_cell BK1.out 1).trans rfl; have hcz17_2 : w15.cell? ⟨gb1, 2, none⟩ = some (.slice none 0 0) := (blk_cell BK1.out 2).trans rfl; have hfz17_0 := blk_frozen BK1.out 0; have hfz17_1 := blk_frozen BK1.out 1; have hfz17_2 := blk_frozen BK1.out 2))
          refine bodyPost_ret (results_ct rfl _ _ gb1 41 #[.bool false, .slice none 0 0, .slice none 0 0] (0, 0) _ rfl (by (with_reducible repeat (first | refine blk_drewN ?_ _ | refine blk_drew ?_ | refine blk_alloc ?_ _)); refine blk_put (cs := #[.bool false, .slice none 0 0, .slice none 0 0]) ?_ 2 _ rfl; (with_reducible repeat (first | refine blk_drewN ?_ _ | refine blk_drew ?_ | refine blk_alloc ?_ _)); refine blk_put (cs := #[.bool false, .slice none 0 0, .slice none 0 0]) ?_ 1 _ rfl; (with_reducible repeat (first | refine blk_drewN ?_ _ | refine blk_drew ?_ | refine blk_alloc ?_ _)); refine blk_put (cs := #[.bool false, .slice none 0 0, .slice none 0 0]) ?_ 0 _ rfl; (with_reducible repeat (first | refine blk_drewN ?_ _ | refine blk_drew ?_ | refine blk_alloc ?_ _)); exact BK1.out) Tryz.underlying41 rfl (by kernel_rfl)) rfl ?_
          exact ⟨_, _, by first | rfl | (simp [errW_none, errW_some] <;> rfl) | (simp [*, errW_none, errW_some] <;> rfl), by first | exact Kd.R_nil _ _ _ _ _ | exact Kd.N_nil _ _ _ _ _ | exact Kd.V_nil _ _ _ _ _ | exact Kd.Q_nil _ _ _ _ _ | exact Kd.S_nil _ _ _ _ _, by first | exact Kd.R_nil _ _ _ _ _ | exact Kd.N_nil _ _ _ _ _ | exact Kd.V_nil _ _ _ _ _ | exact Kd.Q_nil _ _ _ _ _ | exact Kd.S_nil _ _ _ _ _, by repeat (first | (with_reducible first | exact HB.out | apply below_alloc | apply pw_below_drewN | apply below_drew1 | refine below_set ?_ GE1.out) | exact HB.out)⟩
        · rw [if_neg c10] at H
          have c10b0 : decide (16 < (t6.length : Int)) = false := decide_eq_false c10
          have c10b1 : decide (16 < t6.length) = false := decide_eq_false (by omega)
          clear c10
          by_cases c18 : (t13.length : Int) > 16
          · rw [if_pos c18] at H
            have c18b0 : decide (16 < (t13.length : Int)) = true := decide_eq_true c18
            have c18b1 : decide (16 < t13.length) = true := decide_eq_true (by omega)
            clear c18
            simp only [Option.some.injEq, Prod.mk.injEq] at H
            obtain ⟨rfl, rfl, rfl, rfl⟩ := H
            try (have hdl_ : decide ((t6.length : Int) > 0) = decide (0 < t6.length) := decide_eq_decide.2 (by omega); simp only [hdl_])
            go_enter Tryz.func139, Tryz.ntmps139
            go_wp2_with (first | ((with_reducible refine gate_dst (N := 6) rfl ?_); (try (refine gate_guard (by rfl) ?_; dsimp only)); refine box_event ?hg (N := 6) ?hd (cs := #[.bool false, .slice none 0 0, .slice none 0 0]) (t := 41) ?hr ?_; (case hd => rfl); (case hg => rfl); (case hr => first | (go_simp; done) | (go_simp; rfl)); intro gb1 hg w19 hbox hb; have n0_ := Aside0.mk (below_step (lc HB.out) hb); have n1_ := Aside0.mk (hbox); have n2_ := Aside0.mk ((by rw [hg]; exact (below_size (lc HB.out)) : w.heap.size ≤ gb1)); have n3_ := Aside0.mk ((by rw [hg]; exact (below_size (lc HB.out)) : w.heap.size ≤ gb1)); clear HB; have HB := n0_; have BK1 := n1_; have GW1 := n2_; have GE1 := n3_; clear n0_ n1_ n2_ n3_; clear hb hbox hg) | (go_at_call 130; (with_reducible refine (nat_Gcd.calls k _ _ l1 _ _ l2 t2 t3 _ ?side1 ?side2 ?side3 ?side4 A4.out).mono ?_); (case side1 => exact cc (Kd.C_below HR1.out HB.out)); (case side2 => exact HC1.out); (case side3 => exact cc (Kd.C_below HR2.out HB.out)); (case side4 => exact HC2.out); rintro e w20 ⟨v4, rfl, ho0, hb⟩; have n0_ := Aside0.mk (Kd.R_lower ho0 (below_size (by repeat (first | (with_reducible first | exact HB.out | apply below_alloc | apply pw_below_drewN | apply below_drew1 | refine below_set ?_ GE1.out) | exact HB.out)))); have n1_ := Aside0.mk (blk_below (g := gb1) (o := .cells #[.bool false, .slice none 0 0, .slice none 0 0] 41 (0, 0)) (bc BK1.out) hb); have n2_ := Aside0.mk (below_step (by repeat (first | (with_reducible first | exact HB.out | apply below_alloc | apply pw_below_drewN | apply below_drew1 | refine below_set ?_ GE1.out) | exact HB.out)) hb); clear BK1; clear HB; have HO5 := n0_; have BK1 := n1_; have HB := n2_; clear n0_ n1_ n2_; (try clear hb); (try clear hb2); (try clear hk); (try clear hi); (try clear ho0); obtain ⟨Ao21, co21, eo21⟩ := Kd.R_slice HO5.out; subst eo21) | (go_at_call 168; (with_reducible refine (nat_Div.calls _ _ l1 _ _ t2 t6 t7 t8 _ ?side1 ?side2 ?side3 ?side4 A6.out).mono ?_); (case side1 => exact cc (Kd.C_below HR1.out HB.out)); (case side2 => exact HC1.out); (case side3 => exact cc (Kd.R_reads' HO5.out).2.2); (case side4 => exact (Kd.R_reads' HO5.out).2.1); rintro e w22 ⟨v9, v11, rfl, ho0, ho1, hb⟩; have n0_ := Aside0.mk (Kd.R_mono (Kd.R_told (Kd.R_told (Kd.R_old (rc HO5.out) hb) (Kd.R_base ho0)) (Kd.R_base ho1)) (fun _ h_ => h_.1)); have n1_ := Aside0.mk (Kd.R_lower (Kd.R_new' ho0 (Kd.R_lt (rc HO5.out))) (below_size (by repeat (first | (with_reducible first | exact HB.out | apply below_alloc | apply pw_below_drewN | apply below_drew1 | refine below_set ?_ GE1.out) | exact HB.out)))); have n2_ := Aside0.mk (Kd.R_lower (Kd.R_new' ho1 (Kd.R_lt (rc HO5.out))) (below_size (by repeat (first | (with_reducible first | exact HB.out | apply below_alloc | apply pw_below_drewN | apply below_drew1 | refine below_set ?_ GE1.out) | exact HB.out)))); have n3_ := Aside0.mk (blk_below (g := gb1) (o := .cells #[.bool false, .slice none 0 0, .slice none 0 0] 41 (0, 0)) (bc BK1.out) hb); have n4_ := Aside0.mk (below_step (by repeat (first | (with_reducible first | exact HB.out | apply below_alloc | apply pw_below_drewN | apply below_drew1 | refine below_set ?_ GE1.out) | exact HB.out)) hb); clear HO5; clear BK1; clear HB; have HO5 := n0_; have HO10 := n1_; have HO12 := n2_; have BK1 := n3_; have HB := n4_; clear n0_ n1_ n2_ n3_ n4_; (try clear hb); (try clear hb2); (try clear hk); (try clear hi); (try clear ho0); (try clear ho1)) | (go_at_call 168; (with_reducible refine (nat_Div.calls _ _ l2 _ _ t2 t13 t14 t15 _ ?side1 ?side2 ?side3 ?side4 A7.out).mono ?_); (case side1 => exact cc (Kd.C_below HR2.out HB.out)); (case side2 => exact HC2.out); (case side3 => exact cc (Kd.R_reads' HO5.out).2.2); (case side4 => exact (Kd.R_reads' HO5.out).2.1); rintro e w23 ⟨v16, v18, rfl, ho0, ho1, hb⟩; have n0_ := Aside0.mk (Kd.R_mono (Kd.R_told (Kd.R_told (Kd.R_old (rc HO5.out) hb) (Kd.R_base ho0)) (Kd.R_base ho1)) (fun _ h_ => h_.1)); have n1_ := Aside0.mk (Kd.R_mono (Kd.R_told (Kd.R_told (Kd.R_old (rc HO10.out) hb) (Kd.R_base ho0)) (Kd.R_base ho1)) (fun _ h_ => h_.1)); have n2_ := Aside0.mk (Kd.R_mono (Kd.R_told (Kd.R_told (Kd.R_old (rc HO12.out) hb) (Kd.R_base ho0)) (Kd.R_base ho1)) (fun _ h_ => h_.1)); have n3_ := Aside0.mk (Kd.R_lower (Kd.R_new' (Kd.R_new' (Kd.R_new' ho0 (Kd.R_lt (rc HO5.out))) (Kd.R_lt (rc HO10.out))) (Kd.R_lt (rc HO12.out))) (below_size (by repeat (first | (with_reducible first | exact HB.out | apply below_alloc | apply pw_below_drewN | apply below_drew1 | refine below_set ?_ GE1.out) | exact HB.out)))); have n4_ := Aside0.mk (Kd.R_lower (Kd.R_new' (Kd.R_new' (Kd.R_new' ho1 (Kd.R_lt (rc HO5.out))) (Kd.R_lt (rc HO10.out))) (Kd.R_lt (rc HO12.out))) (below_size (by repeat (first | (with_reducible first | exact HB.out | apply below_alloc | apply pw_below_drewN | apply below_drew1 | refine below_set ?_ GE1.out) | exact HB.out)))); have n5_ := Aside0.mk (blk_below (g := gb1) (o := .cells #[.bool false, .slice none 0 0, .slice none 0 0] 41 (0, 0)) (bc BK1.out) hb); have n6_ := Aside0.mk (below_step (by repeat (first | (with_reducible first | exact HB.out | apply below_alloc | apply pw_below_drewN | apply below_drew1 | refine below_set ?_ GE1.out) | exact HB.out)) hb); clear HO5; clear HO10; clear HO12; clear BK1; clear HB; have HO5 := n0_; have HO10 := n1_; have HO12 := n2_; have HO17 := n3_; have HO19 := n4_; have BK1 := n5_; have HB := n6_; clear n0_ n1_ n2_ n3_ n4_ n5_ n6_; (try clear hb); (try clear hb2); (try clear hk); (try clear hi); (try clear ho0); (try clear ho1); obtain ⟨Ao24, co24, eo24⟩ := Kd.R_slice HO10.out; subst eo24; obtain ⟨Ao25, co25, eo25⟩ := Kd.R_slice HO17.out; subst eo25; have hcz26_0 : w23.cell? ⟨gb1, 0, none⟩ = some (.bool false) := (blk_cell BK1.out 0).trans rfl; have hcz26_1 : w23.cell? ⟨gb1, 1, none⟩ = some (.slice none 0 0) := (blk_cell BK1.out 1).trans rfl; have hcz26_2 : w23.cell? ⟨gb1, 2, none⟩ = some (.slice none 0 0) := (blk_cell BK1.out 2).trans rfl; have hfz26_0 := blk_frozen BK1.out 0; have hfz26_1 := blk_frozen BK1.out 1; have hfz26_2 := blk_frozen BK1.out 2))
            refine bodyPost_ret (results_ct rfl _ _ gb1 41 #[.bool false, .slice none 0 0, .slice none 0 0] (0, 0) _ rfl (by (with_reducible repeat (first | refine blk_drewN ?_ _ | refine blk_drew ?_ | refine blk_alloc ?_ _)); refine blk_put (cs := #[.bool false, .slice none 0 0, .slice none 0 0]) ?_ 2 _ rfl; (with_reducible repeat (first | refine blk_drewN ?_ _ | refine blk_drew ?_ | refine blk_alloc ?_ _)); refine blk_put (cs := #[.bool false, .slice none 0 0, .slice none 0 0]) ?_ 1 _ rfl; (with_reducible repeat (first | refine blk_drewN ?_ _ | refine blk_drew ?_ | refine blk_alloc ?_ _)); refine blk_put (cs := #[.bool false, .slice none 0 0, .slice none 0 0]) ?_ 0 _ rfl; (with_reducible repeat (first | refine blk_drewN ?_ _ | refine blk_drew ?_ | refine blk_alloc ?_ _)); exact BK1.out) Tryz.underlying41 rfl (by kernel_rfl)) rfl ?_
            exact ⟨_, _, by first | rfl | (simp [errW_none, errW_some] <;> rfl) | (simp [*, errW_none, errW_some] <;> rfl), by first | exact Kd.R_nil _ _ _ _ _ | exact Kd.N_nil _ _ _ _ _ | exact Kd.V_nil _ _ _ _ _ | exact Kd.Q_nil _ _ _ _ _ | exact Kd.S_nil _ _ _ _ _, by first | exact Kd.R_nil _ _ _ _ _ | exact Kd.N_nil _ _ _ _ _ | exact Kd.V_nil _ _ _ _ _ | exact Kd.Q_nil _ _ _ _ _ | exact Kd.S_nil _ _ _ _ _, by repeat (first | (with_reducible first | exact HB.out | apply below_alloc | apply pw_below_drewN | apply below_drew1 | refine below_set ?_ GE1.out) | exact HB.out)⟩
          · rw [if_neg c18] at H
            have c18b0 : decide (16 < (t13.length : Int)) = false := decide_eq_false c18
            have c18b1 : decide (16 < t13.length) = false := decide_eq_false (by omega)
            clear c18
            by_cases c27 : a0 = true
            · subst c27
              have H1 : (some (decide ((t6.length : Int) > 0), t6, t13, 0)) = some (r1, r2, r3, r4) := by rw [if_pos rfl] at H; exact H
              clear H
              have H := H1
              clear H1
              simp only [Option.some.injEq, Prod.mk.injEq] at H
              obtain ⟨rfl, rfl, rfl, rfl⟩ := H
              try (have hdl_ : decide ((t6.length : Int) > 0) = decide (0 < t6.length) := decide_eq_decide.2 (by omega); simp only [hdl_])
              go_enter Tryz.func139, Tryz.ntmps139
              go_wp2_with (first | ((with_reducible refine gate_dst (N := 6) rfl ?_); (try (refine gate_guard (by rfl) ?_; dsimp only)); refine box_event ?hg (N := 6) ?hd (cs := #[.bool false, .slice none 0 0, .slice none 0 0]) (t := 41) ?hr ?_; (case hd => rfl); (case hg => rfl); (case hr => first | (go_simp; done) | (go_simp; rfl)); intro gb1 hg w28 hbox hb; have n0_ := Aside0.mk (below_step (lc HB.out) hb); have n1_ := Aside0.mk (hbox); have n2_ := Aside0.mk ((by rw [hg]; exact (below_size (lc HB.out)) : w.heap.size ≤ gb1)); have n3_ := Aside0.mk ((by rw [hg]; exact (below_size (lc HB.out)) : w.heap.size ≤ gb1)); clear HB; have HB := n0_; have BK1 := n1_; have GW1 := n2_; have GE1 := n3_; clear n0_ n1_ n2_ n3_; clear hb hbox hg) | (go_at_call 130; (with_reducible refine (nat_Gcd.calls k _ _ l1 _ _ l2 t2 t3 _ ?side1 ?side2 ?side3 ?side4 A4.out).mono ?_); (case side1 => exact cc (Kd.C_below HR1.out HB.out)); (case side2 => exact HC1.out); (case side3 => exact cc (Kd.C_below HR2.out HB.out)); (case side4 => exact HC2.out); rintro e w29 ⟨v4, rfl, ho0, hb⟩; have n0_ := Aside0.mk (Kd.R_lower ho0 (below_size (by repeat (first | (with_reducible first | exact HB.out | apply below_alloc | apply pw_below_drewN | apply below_drew1 | refine below_set ?_ GE1.out) | exact HB.out)))); have n1_ := Aside0.mk (blk_below (g := gb1) (o := .cells #[.bool false, .slice none 0 0, .slice none 0 0] 41 (0, 0)) (bc BK1.out) hb); have n2_ := Aside0.mk (below_step (by repeat (first | (with_reducible first | exact HB.out | apply below_alloc | apply pw_below_drewN | apply below_drew1 | refine below_set ?_ GE1.out) | exact HB.out)) hb); clear BK1; clear HB; have HO5 := n0_; have BK1 := n1_; have HB := n2_; clear n0_ n1_ n2_; (try clear hb); (try clear hb2); (try clear hk); (try clear hi); (try clear ho0); obtain ⟨Ao30, co30, eo30⟩ := Kd.R_slice HO5.out; subst eo30) | (go_at_call 168; (with_reducible refine (nat_Div.calls _ _ l1 _ _ t2 t6 t7 t8 _ ?side1 ?side2 ?side3 ?side4 A6.out).mono ?_); (case side1 => exact cc (Kd.C_below HR1.out HB.out)); (case side2 => exact HC1.out); (case side3 => exact cc (Kd.R_reads' HO5.out).2.2); (case side4 => exact (Kd.R_reads' HO5.out).2.1); rintro e w31 ⟨v9, v11, rfl, ho0, ho1, hb⟩; have n0_ := Aside0.mk (Kd.R_mono (Kd.R_told (Kd.R_told (Kd.R_old (rc HO5.out) hb) (Kd.R_base ho0)) (Kd.R_base ho1)) (fun _ h_ => h_.1)); have n1_ := Aside0.mk (Kd.R_lower (Kd.R_new' ho0 (Kd.R_lt (rc HO5.out))) (below_size (by repeat (first | (with_reducible first | exact HB.out | apply below_alloc | apply pw_below_drewN | apply below_drew1 | refine below_set ?_ GE1.out) | exact HB.out)))); have n2_ := Aside0.mk (Kd.R_lower (Kd.R_new' ho1 (Kd.R_lt (rc HO5.out))) (below_size (by repeat (first | (with_reducible first | exact HB.out | apply below_alloc | apply pw_below_drewN | apply below_drew1 | refine below_set ?_ GE1.out) | exact HB.out)))); have n3_ := Aside0.mk (blk_below (g := gb1) (o := .cells #[.bool false, .slice none 0 0, .slice none 0 0] 41 (0, 0)) (bc BK1.out) hb); have n4_ := Aside0.mk (below_step (by repeat (first | (with_reducible first | exact HB.out | apply below_alloc | apply pw_below_drewN | apply below_drew1 | refine below_set ?_ GE1.out) | exact HB.out)) hb); clear HO5; clear BK1; clear HB; have HO5 := n0_; have HO10 := n1_; have HO12 := n2_; have BK1 := n3_; have HB := n4_; clear n0_ n1_ n2_ n3_ n4_; (try clear hb); (try clear hb2); (try clear hk); (try clear hi); (try clear ho0); (try clear ho1)) | (go_at_call 168; (with_reducible refine (nat_Div.calls _ _ l2 _ _ t2 t13 t14 t15 _ ?side1 ?side2 ?side3 ?side4 A7.out).mono ?_); (case side1 => exact cc (Kd.C_below HR2.out HB.out)); (case side2 => exact HC2.out); (case side3 => exact cc (Kd.R_reads' HO5.out).2.2); (case side4 => exact (Kd.R_reads' HO5.out).2.1); rintro e w32 ⟨v16, v18, rfl, ho0, ho1, hb⟩; have n0_ := Aside0.mk (Kd.R_mono (Kd.R_told (Kd.R_told (Kd.R_old (rc HO5.out) hb) (Kd.R_base ho0)) (Kd.R_base ho1)) (fun _ h_ => h_.1)); have n1_ := Aside0.mk (Kd.R_mono (Kd.R_told (Kd.R_told (Kd.R_old (rc HO10.out) hb) (Kd.R_base ho0)) (Kd.R_base ho1)) (fun _ h_ => h_.1)); have n2_ := Aside0.mk (Kd.R_mono (Kd.R_told (Kd.R_told (Kd.R_old (rc HO12.out) hb) (Kd.R_base ho0)) (Kd.R_base ho1)) (fun _ h_ => h_.1)); have n3_ := Aside0.mk (Kd.R_lower (Kd.R_new' (Kd.R_new' (Kd.R_new' ho0 (Kd.R_lt (rc HO5.out))) (Kd.R_lt (rc HO10.out))) (Kd.R_lt (rc HO12.out))) (below_size (by repeat (first | (with_reducible first | exact HB.out | apply below_alloc | apply pw_below_drewN | apply below_drew1 | refine below_set ?_ GE1.out) | exact HB.out)))); have n4_ := Aside0.mk (Kd.R_lower (Kd.R_new' (Kd.R_new' (Kd.R_new' ho1 (Kd.R_lt (rc HO5.out))) (Kd.R_lt (rc HO10.out))) (Kd.R_lt (rc HO12.out))) (below_size (by repeat (first | (with_reducible first | exact HB.out | apply below_alloc | apply pw_below_drewN | apply below_drew1 | refine below_set ?_ GE1.out) | exact HB.out)))); have n5_ := Aside0.mk (blk_below (g := gb1) (o := .cells #[.bool false, .slice none 0 0, .slice none 0 0] 41 (0, 0)) (bc BK1.out) hb); have n6_ := Aside0.mk (below_step (by repeat (first | (with_reducible first | exact HB.out | apply below_alloc | apply pw_below_drewN | apply below_drew1 | refine below_set ?_ GE1.out) | exact HB.out)) hb); clear HO5; clear HO10; clear HO12; clear BK1; clear HB; have HO5 := n0_; have HO10 := n1_; have HO12 := n2_; have HO17 := n3_; have HO19 := n4_; have BK1 := n5_; have HB := n6_; clear n0_ n1_ n2_ n3_ n4_ n5_ n6_; (try clear hb); (try clear hb2); (try clear hk); (try clear hi); (try clear ho0); (try clear ho1); obtain ⟨Ao33, co33, eo33⟩ := Kd.R_slice HO10.out; subst eo33; obtain ⟨Ao34, co34, eo34⟩ := Kd.R_slice HO17.out; subst eo34; have hcz35_0 : w32.cell? ⟨gb1, 0, none⟩ = some (.bool false) := (blk_cell BK1.out 0).trans rfl; have hcz35_1 : w32.cell? ⟨gb1, 1, none⟩ = some (.slice none 0 0) := (blk_cell BK1.out 1).trans rfl; have hcz35_2 : w32.cell? ⟨gb1, 2, none⟩ = some (.slice none 0 0) := (blk_cell BK1.out 2).trans rfl; have hfz35_0 := blk_frozen BK1.out 0; have hfz35_1 := blk_frozen BK1.out 1; have hfz35_2 := blk_frozen BK1.out 2))
              refine bodyPost_ret (results_ct rfl _ _ gb1 41 #[.bool (decide (0 < t6.length)), .slice Ao33 t6.length co33, .slice Ao34 t13.length co34] (0, 0) _ rfl (by (with_reducible repeat (first | refine blk_drewN ?_ _ | refine blk_drew ?_ | refine blk_alloc ?_ _)); refine blk_put (cs := #[.bool (decide (0 < t6.length)), .slice Ao33 t6.length co33, .slice none 0 0]) ?_ 2 _ rfl; (with_reducible repeat (first | refine blk_drewN ?_ _ | refine blk_drew ?_ | refine blk_alloc ?_ _)); refine blk_put (cs := #[.bool (decide (0 < t6.length)), .slice none 0 0, .slice none 0 0]) ?_ 1 _ rfl; (with_reducible repeat (first | refine blk_drewN ?_ _ | refine blk_drew ?_ | refine blk_alloc ?_ _)); refine blk_put (cs := #[.bool false, .slice none 0 0, .slice none 0 0]) ?_ 0 _ rfl; (with_reducible repeat (first | refine blk_drewN ?_ _ | refine blk_drew ?_ | refine blk_alloc ?_ _)); exact BK1.out) Tryz.underlying41 rfl (by kernel_rfl)) rfl ?_
              exact ⟨_, _, by first | rfl | (simp [errW_none, errW_some] <;> rfl) | (simp [*, errW_none, errW_some] <;> rfl), by (with_reducible repeat (first | apply Kd.R_alloc | apply Kd.R_drewN | apply Kd.R_drew)); exact Kd.R_mono (Kd.R_far (p := ⟨gb1, 2, none⟩) (Kd.R_far (p := ⟨gb1, 1, none⟩) (Kd.R_far (p := ⟨gb1, 0, none⟩) (Kd.R_types HO10.out BK1.out (by decide)) (fun _ hk => hk.2) (.bool (decide (0 < t6.length)))) (fun _ hk => hk.2) (.slice Ao33 t6.length co33)) (fun _ hk => hk.2) (.slice Ao34 t13.length co34)) (fun _ hk => hk.1.1.2), by (with_reducible repeat (first | apply Kd.R_alloc | apply Kd.R_drewN | apply Kd.R_drew)); exact Kd.R_mono (Kd.R_far (p := ⟨gb1, 2, none⟩) (Kd.R_far (p := ⟨gb1, 1, none⟩) (Kd.R_far (p := ⟨gb1, 0, none⟩) (Kd.R_types HO17.out BK1.out (by decide)) (fun _ hk => hk.2) (.bool (decide (0 < t6.length)))) (fun _ hk => hk.2) (.slice Ao33 t6.length co33)) (fun _ hk => hk.2) (.slice Ao34 t13.length co34)) (fun _ hk => hk.1.1.2), by repeat (first | (with_reducible first | exact HB.out | apply below_alloc | apply pw_below_drewN | apply below_drew1 | refine below_set ?_ GE1.out) | exact HB.out)⟩
            · replace c27 := Bool.eq_false_iff.mpr c27
              subst c27
              have H1 : (some (false, t6, t13, 0)) = some (r1, r2, r3, r4) := by rw [if_neg (show ¬ (false = true) by decide)] at H; exact H
              clear H
              have H := H1
              clear H1
              simp only [Option.some.injEq, Prod.mk.injEq] at H
              obtain ⟨rfl, rfl, rfl, rfl⟩ := H
              try (have hdl_ : decide ((t6.length : Int) > 0) = decide (0 < t6.length) := decide_eq_decide.2 (by omega); simp only [hdl_])
              go_enter Tryz.func139, Tryz.ntmps139
              go_wp2_with (first | ((with_reducible refine gate_dst (N := 6) rfl ?_); (try (refine gate_guard (by rfl) ?_; dsimp only)); refine box_event ?hg (N := 6) ?hd (cs := #[.bool false, .slice none 0 0, .slice none 0 0]) (t := 41) ?hr ?_; (case hd => rfl); (case hg => rfl); (case hr => first | (go_simp; done) | (go_simp; rfl)); intro gb1 hg w36 hbox hb; have n0_ := Aside0.mk (below_step (lc HB.out) hb); have n1_ := Aside0.mk (hbox); have n2_ := Aside0.mk ((by rw [hg]; exact (below_size (lc HB.out)) : w.heap.size ≤ gb1)); have n3_ := Aside0.mk ((by rw [hg]; exact (below_size (lc HB.out)) : w.heap.size ≤ gb1)); clear HB; have HB := n0_; have BK1 := n1_; have GW1 := n2_; have GE1 := n3_; clear n0_ n1_ n2_ n3_; clear hb hbox hg) | (go_at_call 130; (with_reducible refine (nat_Gcd.calls k _ _ l1 _ _ l2 t2 t3 _ ?side1 ?side2 ?side3 ?side4 A4.out).mono ?_); (case side1 => exact cc (Kd.C_below HR1.out HB.out)); (case side2 => exact HC1.out); (case side3 => exact cc (Kd.C_below HR2.out HB.out)); (case side4 => exact HC2.out); rintro e w37 ⟨v4, rfl, ho0, hb⟩; have n0_ := Aside0.mk (Kd.R_lower ho0 (below_size (by repeat (first | (with_reducible first | exact HB.out | apply below_alloc | apply pw_below_drewN | apply below_drew1 | refine below_set ?_ GE1.out) | exact HB.out)))); have n1_ := Aside0.mk (blk_below (g := gb1) (o := .cells #[.bool false, .slice none 0 0, .slice none 0 0] 41 (0, 0)) (bc BK1.out) hb); have n2_ := Aside0.mk (below_step (by repeat (first | (with_reducible first | exact HB.out | apply below_alloc | apply pw_below_drewN | apply below_drew1 | refine below_set ?_ GE1.out) | exact HB.out)) hb); clear BK1; clear HB; have HO5 := n0_; have BK1 := n1_; have HB := n2_; clear n0_ n1_ n2_; (try clear hb); (try clear hb2); (try clear hk); (try clear hi); (try clear ho0); obtain ⟨Ao38, co38, eo38⟩ := Kd.R_slice HO5.out; subst eo38) | (go_at_call 168; (with_reducible refine (nat_Div.calls _ _ l1 _ _ t2 t6 t7 t8 _ ?side1 ?side2 ?side3 ?side4 A6.out).mono ?_); (case side1 => exact cc (Kd.C_below HR1.out HB.out)); (case side2 => exact HC1.out); (case side3 => exact cc (Kd.R_reads' HO5.out).2.2); (case side4 => exact (Kd.R_reads' HO5.out).2.1); rintro e w39 ⟨v9, v11, rfl, ho0, ho1, hb⟩; have n0_ := Aside0.mk (Kd.R_mono (Kd.R_told (Kd.R_told (Kd.R_old (rc HO5.out) hb) (Kd.R_base ho0)) (Kd.R_base ho1)) (fun _ h_ => h_.1)); have n1_ := Aside0.mk (Kd.R_lower (Kd.R_new' ho0 (Kd.R_lt (rc HO5.out))) (below_size (by repeat (first | (with_reducible first | exact HB.out | apply below_alloc | apply pw_below_drewN | apply below_drew1 | refine below_set ?_ GE1.out) | exact HB.out)))); have n2_ := Aside0.mk (Kd.R_lower (Kd.R_new' ho1 (Kd.R_lt (rc HO5.out))) (below_size (by repeat (first | (with_reducible first | exact HB.out | apply below_alloc | apply pw_below_drewN | apply below_drew1 | refine below_set ?_ GE1.out) | exact HB.out)))); have n3_ := Aside0.mk (blk_below (g := gb1) (o := .cells #[.bool false, .slice none 0 0, .slice none 0 0] 41 (0, 0)) (bc BK1.out) hb); have n4_ := Aside0.mk (below_step (by repeat (first | (with_reducible first | exact HB.out | apply below_alloc | apply pw_below_drewN | apply below_drew1 | refine below_set ?_ GE1.out) | exact HB.out)) hb); clear HO5; clear BK1; clear HB; have HO5 := n0_; have HO10 := n1_; have HO12 := n2_; have BK1 := n3_; have HB := n4_; clear n0_ n1_ n2_ n3_ n4_; (try clear hb); (try clear hb2); (try clear hk); (try clear hi); (try clear ho0); (try clear ho1)) | (go_at_call 168; (with_reducible refine (nat_Div.calls _ _ l2 _ _ t2 t13 t14 t15 _ ?side1 ?side2 ?side3 ?side4 A7.out).mono ?_); (case side1 => exact cc (Kd.C_below HR2.out HB.out)); (case side2 => exact HC2.out); (case side3 => exact cc (Kd.R_reads' HO5.out).2.2); (case side4 => exact (Kd.R_reads' HO5.out).2.1); rintro e w40 ⟨v16, v18, rfl, ho0, ho1, hb⟩; have n0_ := Aside0.mk (Kd.R_mono (Kd.R_told (Kd.R_told (Kd.R_old (rc HO5.out) hb) (Kd.R_base ho0)) (Kd.R_base ho1)) (fun _ h_ => h_.1)); have n1_ := Aside0.mk (Kd.R_mono (Kd.R_told (Kd.R_told (Kd.R_old (rc HO10.out) hb) (Kd.R_base ho0)) (Kd.R_base ho1)) (fun _ h_ => h_.1)); have n2_ := Aside0.mk (Kd.R_mono (Kd.R_told (Kd.R_told (Kd.R_old (rc HO12.out) hb) (Kd.R_base ho0)) (Kd.R_base ho1)) (fun _ h_ => h_.1)); have n3_ := Aside0.mk (Kd.R_lower (Kd.R_new' (Kd.R_new' (Kd.R_new' ho0 (Kd.R_lt (rc HO5.out))) (Kd.R_lt (rc HO10.out))) (Kd.R_lt (rc HO12.out))) (below_size (by repeat (first | (with_reducible first | exact HB.out | apply below_alloc | apply pw_below_drewN | apply below_drew1 | refine below_set ?_ GE1.out) | exact HB.out)))); have n4_ := Aside0.mk (Kd.R_lower (Kd.R_new' (Kd.R_new' (Kd.R_new' ho1 (Kd.R_lt (rc HO5.out))) (Kd.R_lt (rc HO10.out))) (Kd.R_lt (rc HO12.out))) (below_size (by repeat (first | (with_reducible first | exact HB.out | apply below_alloc | apply pw_below_drewN | apply below_drew1 | refine below_set ?_ GE1.out) | exact HB.out)))); have n5_ := Aside0.mk (blk_below (g := gb1) (o := .cells #[.bool false, .slice none 0 0, .slice none 0 0] 41 (0, 0)) (bc BK1.out) hb); have n6_ := Aside0.mk (below_step (by repeat (first | (with_reducible first | exact HB.out | apply below_alloc | apply pw_below_drewN | apply below_drew1 | refine below_set ?_ GE1.out) | exact HB.out)) hb); clear HO5; clear HO10; clear HO12; clear BK1; clear HB; have HO5 := n0_; have HO10 := n1_; have HO12 := n2_; have HO17 := n3_; have HO19 := n4_; have BK1 := n5_; have HB := n6_; clear n0_ n1_ n2_ n3_ n4_ n5_ n6_; (try clear hb); (try clear hb2); (try clear hk); (try clear hi); (try clear ho0); (try clear ho1); obtain ⟨Ao41, co41, eo41⟩ := Kd.R_slice HO10.out; subst eo41; obtain ⟨Ao42, co42, eo42⟩ := Kd.R_slice HO17.out; subst eo42; have hcz43_0 : w40.cell? ⟨gb1, 0, none⟩ = some (.bool false) := (blk_cell BK1.out 0).trans rfl; have hcz43_1 : w40.cell? ⟨gb1, 1, none⟩ = some (.slice none 0 0) := (blk_cell BK1.out 1).trans rfl; have hcz43_2 : w40.cell? ⟨gb1, 2, none⟩ = some (.slice none 0 0) := (blk_cell BK1.out 2).trans rfl; have hfz43_0 := blk_frozen BK1.out 0; have hfz43_1 := blk_frozen BK1.out 1; have hfz43_2 := blk_frozen BK1.out 2))
              refine bodyPost_ret (results_ct rfl _ _ gb1 41 #[.bool false, .slice Ao41 t6.length co41, .slice Ao42 t13.length co42] (0, 0) _ rfl (by (with_reducible repeat (first | refine blk_drewN ?_ _ | refine blk_drew ?_ | refine blk_alloc ?_ _)); refine blk_put (cs := #[.bool false, .slice Ao41 t6.length co41, .slice none 0 0]) ?_ 2 _ rfl; (with_reducible repeat (first | refine blk_drewN ?_ _ | refine blk_drew ?_ | refine blk_alloc ?_ _)); refine blk_put (cs := #[.bool false, .slice none 0 0, .slice none 0 0]) ?_ 1 _ rfl; (with_reducible repeat (first | refine blk_drewN ?_ _ | refine blk_drew ?_ | refine blk_alloc ?_ _)); refine blk_put (cs := #[.bool false, .slice none 0 0, .slice none 0 0]) ?_ 0 _ rfl; (with_reducible repeat (first | refine blk_drewN ?_ _ | refine blk_drew ?_ | refine blk_alloc ?_ _)); exact BK1.out) Tryz.underlying41 rfl (by kernel_rfl)) rfl ?_
              exact ⟨_, _, by first | rfl | (simp [errW_none, errW_some] <;> rfl) | (simp [*, errW_none, errW_some] <;> rfl), by (with_reducible repeat (first | apply Kd.R_alloc | apply Kd.R_drewN | apply Kd.R_drew)); exact Kd.R_mono (Kd.R_far (p := ⟨gb1, 2, none⟩) (Kd.R_far (p := ⟨gb1, 1, none⟩) (Kd.R_far (p := ⟨gb1, 0, none⟩) (Kd.R_types HO10.out BK1.out (by decide)) (fun _ hk => hk.2) (.bool false)) (fun _ hk => hk.2) (.slice Ao41 t6.length co41)) (fun _ hk => hk.2) (.slice Ao42 t13.length co42)) (fun _ hk => hk.1.1.2), by (with_reducible repeat (first | apply Kd.R_alloc | apply Kd.R_drewN | apply Kd.R_drew)); exact Kd.R_mono (Kd.R_far (p := ⟨gb1, 2, none⟩) (Kd.R_far (p := ⟨gb1, 1, none⟩) (Kd.R_far (p := ⟨gb1, 0, none⟩) (Kd.R_types HO17.out BK1.out (by decide)) (fun _ hk => hk.2) (.bool false)) (fun _ hk => hk.2) (.slice Ao41 t6.length co41)) (fun _ hk => hk.2) (.slice Ao42 t13.length co42)) (fun _ hk => hk.1.1.2), by repeat (first | (with_reducible first | exact HB.out | apply below_alloc | apply pw_below_drewN | apply below_drew1 | refine below_set ?_ GE1.out) | exact HB.out)⟩
      · rw [if_neg c9] at H
        have c9b0 : (t15 == 0) = false := beq_eq_false_iff_ne.mpr c9
        have c9b1 : (t15 != 0) = true := bne_iff_ne.mpr c9
        simp only [Option.some.injEq, Prod.mk.injEq] at H
        obtain ⟨rfl, rfl, rfl, rfl⟩ := H
        try (have hdl_ : decide ((t6.length : Int) > 0) = decide (0 < t6.length) := decide_eq_decide.2 (by omega); simp only [hdl_])
        go_enter Tryz.func139, Tryz.ntmps139
        go_wp2_with (first | ((with_reducible refine gate_dst (N := 6) rfl ?_); (try (refine gate_guard (by rfl) ?_; dsimp only)); refine box_event ?hg (N := 6) ?hd (cs := #[.bool false, .slice none 0 0, .slice none 0 0]) (t := 41) ?hr ?_; (case hd => rfl); (case hg => rfl); (case hr => first | (go_simp; done) | (go_simp; rfl)); intro gb1 hg w44 hbox hb; have n0_ := Aside0.mk (below_step (lc HB.out) hb); have n1_ := Aside0.mk (hbox); have n2_ := Aside0.mk ((by rw [hg]; exact (below_size (lc HB.out)) : w.heap.size ≤ gb1)); have n3_ := Aside0.mk ((by rw [hg]; exact (below_size (lc HB.out)) : w.heap.size ≤ gb1)); clear HB; have HB := n0_; have BK1 := n1_; have GW1 := n2_; have GE1 := n3_; clear n0_ n1_ n2_ n3_; clear hb hbox hg) | (go_at_call 130; (with_reducible refine (nat_Gcd.calls k _ _ l1 _ _ l2 t2 t3 _ ?side1 ?side2 ?side3 ?side4 A4.out).mono ?_); (case side1 => exact cc (Kd.C_below HR1.out HB.out)); (case side2 => exact HC1.out); (case side3 => exact cc (Kd.C_below HR2.out HB.out)); (case side4 => exact HC2.out); rintro e w45 ⟨v4, rfl, ho0, hb⟩; have n0_ := Aside0.mk (Kd.R_lower ho0 (below_size (by repeat (first | (with_reducible first | exact HB.out | apply below_alloc | apply pw_below_drewN | apply below_drew1 | refine below_set ?_ GE1.out) | exact HB.out)))); have n1_ := Aside0.mk (blk_below (g := gb1) (o := .cells #[.bool false, .slice none 0 0, .slice none 0 0] 41 (0, 0)) (bc BK1.out) hb); have n2_ := Aside0.mk (below_step (by repeat (first | (with_reducible first | exact HB.out | apply below_alloc | apply pw_below_drewN | apply below_drew1 | refine below_set ?_ GE1.out) | exact HB.out)) hb); clear BK1; clear HB; have HO5 := n0_; have BK1 := n1_; have HB := n2_; clear n0_ n1_ n2_; (try clear hb); (try clear hb2); (try clear hk); (try clear hi); (try clear ho0); obtain ⟨Ao46, co46, eo46⟩ := Kd.R_slice HO5.out; subst eo46) | (go_at_call 168; (with_reducible refine (nat_Div.calls _ _ l1 _ _ t2 t6 t7 t8 _ ?side1 ?side2 ?side3 ?side4 A6.out).mono ?_); (case side1 => exact cc (Kd.C_below HR1.out HB.out)); (case side2 => exact HC1.out); (case side3 => exact cc (Kd.R_reads' HO5.out).2.2); (case side4 => exact (Kd.R_reads' HO5.out).2.1); rintro e w47 ⟨v9, v11, rfl, ho0, ho1, hb⟩; have n0_ := Aside0.mk (Kd.R_mono (Kd.R_told (Kd.R_told (Kd.R_old (rc HO5.out) hb) (Kd.R_base ho0)) (Kd.R_base ho1)) (fun _ h_ => h_.1)); have n1_ := Aside0.mk (Kd.R_lower (Kd.R_new' ho0 (Kd.R_lt (rc HO5.out))) (below_size (by repeat (first | (with_reducible first | exact HB.out | apply below_alloc | apply pw_below_drewN | apply below_drew1 | refine below_set ?_ GE1.out) | exact HB.out)))); have n2_ := Aside0.mk (Kd.R_lower (Kd.R_new' ho1 (Kd.R_lt (rc HO5.out))) (below_size (by repeat (first | (with_reducible first | exact HB.out | apply below_alloc | apply pw_below_drewN | apply below_drew1 | refine below_set ?_ GE1.out) | exact HB.out)))); have n3_ := Aside0.mk (blk_below (g := gb1) (o := .cells #[.bool false, .slice none 0 0, .slice none 0 0] 41 (0, 0)) (bc BK1.out) hb); have n4_ := Aside0.mk (below_step (by repeat (first | (with_reducible first | exact HB.out | apply below_alloc | apply pw_below_drewN | apply below_drew1 | refine below_set ?_ GE1.out) | exact HB.out)) hb); clear HO5; clear BK1; clear HB; have HO5 := n0_; have HO10 := n1_; have HO12 := n2_; have BK1 := n3_; have HB := n4_; clear n0_ n1_ n2_ n3_ n4_; (try clear hb); (try clear hb2); (try clear hk); (try clear hi); (try clear ho0); (try clear ho1)) | (go_at_call 168; (with_reducible refine (nat_Div.calls _ _ l2 _ _ t2 t13 t14 t15 _ ?side1 ?side2 ?side3 ?side4 A7.out).mono ?_); (case side1 => exact cc (Kd.C_below HR2.out HB.out)); (case side2 => exact HC2.out); (case side3 => exact cc (Kd.R_reads' HO5.out).2.2); (case side4 => exact (Kd.R_reads' HO5.out).2.1); rintro e w48 ⟨v16, v18, rfl, ho0, ho1, hb⟩; have n0_ := Aside0.mk (Kd.R_mono (Kd.R_told (Kd.R_told (Kd.R_old (rc HO5.out) hb) (Kd.R_base ho0)) (Kd.R_base ho1)) (fun _ h_ => h_.1)); have n1_ := Aside0.mk (Kd.R_mono (Kd.R_told (Kd.R_told (Kd.R_old (rc HO10.out) hb) (Kd.R_base ho0)) (Kd.R_base ho1)) (fun _ h_ => h_.1)); have n2_ := Aside0.mk (Kd.R_mono (Kd.R_told (Kd.R_told (Kd.R_old (rc HO12.out) hb) (Kd.R_base ho0)) (Kd.R_base ho1)) (fun _ h_ => h_.1)); have n3_ := Aside0.mk (Kd.R_lower (Kd.R_new' (Kd.R_new' (Kd.R_new' ho0 (Kd.R_lt (rc HO5.out))) (Kd.R_lt (rc HO10.out))) (Kd.R_lt (rc HO12.out))) (below_size (by repeat (first | (with_reducible first | exact HB.out | apply below_alloc | apply pw_below_drewN | apply below_drew1 | refine below_set ?_ GE1.out) | exact HB.out)))); have n4_ := Aside0.mk (Kd.R_lower (Kd.R_new' (Kd.R_new' (Kd.R_new' ho1 (Kd.R_lt (rc HO5.out))) (Kd.R_lt (rc HO10.out))) (Kd.R_lt (rc HO12.out))) (below_size (by repeat (first | (with_reducible first | exact HB.out | apply below_alloc | apply pw_below_drewN | apply below_drew1 | refine below_set ?_ GE1.out) | exact HB.out)))); have n5_ := Aside0.mk (blk_below (g := gb1) (o := .cells #[.bool false, .slice none 0 0, .slice none 0 0] 41 (0, 0)) (bc BK1.out) hb); have n6_ := Aside0.mk (below_step (by repeat (first | (with_reducible first | exact HB.out | apply below_alloc | apply pw_below_drewN | apply below_drew1 | refine below_set ?_ GE1.out) | exact HB.out)) hb); clear HO5; clear HO10; clear HO12; clear BK1; clear HB; have HO5 := n0_; have HO10 := n1_; have HO12 := n2_; have HO17 := n3_; have HO19 := n4_; have BK1 := n5_; have HB := n6_; clear n0_ n1_ n2_ n3_ n4_ n5_ n6_; (try clear hb); (try clear hb2); (try clear hk); (try clear hi); (try clear ho0); (try clear ho1); have hcz49_0 : w48.cell? ⟨gb1, 0, none⟩ = some (.bool false) := (blk_cell BK1.out 0).trans rfl; have hcz49_1 : w48.cell? ⟨gb1, 1, none⟩ = some (.slice none 0 0) := (blk_cell BK1.out 1).trans rfl; have hcz49_2 : w48.cell? ⟨gb1, 2, none⟩ = some (.slice none 0 0) := (blk_cell BK1.out 2).trans rfl; have hfz49_0 := blk_frozen BK1.out 0; have hfz49_1 := blk_frozen BK1.out 1; have hfz49_2 := blk_frozen BK1.out 2))
        refine bodyPost_ret (results_ct rfl _ _ gb1 41 #[.bool false, .slice none 0 0, .slice none 0 0] (0, 0) _ rfl (by (with_reducible repeat (first | refine blk_drewN ?_ _ | refine blk_drew ?_ | refine blk_alloc ?_ _)); refine blk_put (cs := #[.bool false, .slice none 0 0, .slice none 0 0]) ?_ 2 _ rfl; (with_reducible repeat (first | refine blk_drewN ?_ _ | refine blk_drew ?_ | refine blk_alloc ?_ _)); refine blk_put (cs := #[.bool false, .slice none 0 0, .slice none 0 0]) ?_ 1 _ rfl; (with_reducible repeat (first | refine blk_drewN ?_ _ | refine blk_drew ?_ | refine blk_alloc ?_ _)); refine blk_put (cs := #[.bool false, .slice none 0 0, .slice none 0 0]) ?_ 0 _ rfl; (with_reducible repeat (first | refine blk_drewN ?_ _ | refine blk_drew ?_ | refine blk_alloc ?_ _)); exact BK1.out) Tryz.underlying41 rfl (by kernel_rfl)) rfl ?_
        exact ⟨_, _, by first | rfl | (simp [errW_none, errW_some] <;> rfl) | (simp [*, errW_none, errW_some] <;> rfl), by first | exact Kd.R_nil _ _ _ _ _ | exact Kd.N_nil _ _ _ _ _ | exact Kd.V_nil _ _ _ _ _ | exact Kd.Q_nil _ _ _ _ _ | exact Kd.S_nil _ _ _ _ _, by first | exact Kd.R_nil _ _ _ _ _ | exact Kd.N_nil _ _ _ _ _ | exact Kd.V_nil _ _ _ _ _ | exact Kd.Q_nil _ _ _ _ _ | exact Kd.S_nil _ _ _ _ _, by repeat (first | (with_reducible first | exact HB.out | apply below_alloc | apply pw_below_drewN | apply below_drew1 | refine below_set ?_ GE1.out) | exact HB.out)⟩
    · rw [if_neg c8] at H
      have c8b0 : (t8 == 0) = false := beq_eq_false_iff_ne.mpr c8
      have c8b1 : (t8 != 0) = true := bne_iff_ne.mpr c8
      simp only [Option.some.injEq, Prod.mk.injEq] at H
      obtain ⟨rfl, rfl, rfl, rfl⟩ := H
      try (have hdl_ : decide ((t6.length : Int) > 0) = decide (0 < t6.length) := decide_eq_decide.2 (by omega); simp only [hdl_])
      go_enter Tryz.func139, Tryz.ntmps139
      go_wp2_with (first | ((with_reducible refine gate_dst (N := 6) rfl ?_); (try (refine gate_guard (by rfl) ?_; dsimp only)); refine box_event ?hg (N := 6) ?hd (cs := #[.bool false, .slice none 0 0, .slice none 0 0]) (t := 41) ?hr ?_; (case hd => rfl); (case hg => rfl); (case hr => first | (go_simp; done) | (go_simp; rfl)); intro gb1 hg w50 hbox hb; have n0_ := Aside0.mk (below_step (lc HB.out) hb); have n1_ := Aside0.mk (hbox); have n2_ := Aside0.mk ((by rw [hg]; exact (below_size (lc HB.out)) : w.heap.size ≤ gb1)); have n3_ := Aside0.mk ((by rw [hg]; exact (below_size (lc HB.out)) : w.heap.size ≤ gb1)); clear HB; have HB := n0_; have BK1 := n1_; have GW1 := n2_; have GE1 := n3_; clear n0_ n1_ n2_ n3_; clear hb hbox hg) | (go_at_call 130; (with_reducible refine (nat_Gcd.calls k _ _ l1 _ _ l2 t2 t3 _ ?side1 ?side2 ?side3 ?side4 A4.out).mono ?_); (case side1 => exact cc (Kd.C_below HR1.out HB.out)); (case side2 => exact HC1.out); (case side3 => exact cc (Kd.C_below HR2.out HB.out)); (case side4 => exact HC2.out); rintro e w51 ⟨v4, rfl, ho0, hb⟩; have n0_ := Aside0.mk (Kd.R_lower ho0 (below_size (by repeat (first | (with_reducible first | exact HB.out | apply below_alloc | apply pw_below_drewN | apply below_drew1 | refine below_set ?_ GE1.out) | exact HB.out)))); have n1_ := Aside0.mk (blk_below (g := gb1) (o := .cells #[.bool false, .slice none 0 0, .slice none 0 0] 41 (0, 0)) (bc BK1.out) hb); have n2_ := Aside0.mk (below_step (by repeat (first | (with_reducible first | exact HB.out | apply below_alloc | apply pw_below_drewN | apply below_drew1 | refine below_set ?_ GE1.out) | exact HB.out)) hb); clear BK1; clear HB; have HO5 := n0_; have BK1 := n1_; have HB := n2_; clear n0_ n1_ n2_; (try clear hb); (try clear hb2); (try clear hk); (try clear hi); (try clear ho0); obtain ⟨Ao52, co52, eo52⟩ := Kd.R_slice HO5.out; subst eo52) | (go_at_call 168; (with_reducible refine (nat_Div.calls _ _ l1 _ _ t2 t6 t7 t8 _ ?side1 ?side2 ?side3 ?side4 A6.out).mono ?_); (case side1 => exact cc (Kd.C_below HR1.out HB.out)); (case side2 => exact HC1.out); (case side3 => exact cc (Kd.R_reads' HO5.out).2.2); (case side4 => exact (Kd.R_reads' HO5.out).2.1); rintro e w53 ⟨v9, v11, rfl, ho0, ho1, hb⟩; have n0_ := Aside0.mk (Kd.R_mono (Kd.R_told (Kd.R_told (Kd.R_old (rc HO5.out) hb) (Kd.R_base ho0)) (Kd.R_base ho1)) (fun _ h_ => h_.1)); have n1_ := Aside0.mk (Kd.R_lower (Kd.R_new' ho0 (Kd.R_lt (rc HO5.out))) (below_size (by repeat (first | (with_reducible first | exact HB.out | apply below_alloc | apply pw_below_drewN | apply below_drew1 | refine below_set ?_ GE1.out) | exact HB.out)))); have n2_ := Aside0.mk (Kd.R_lower (Kd.R_new' ho1 (Kd.R_lt (rc HO5.out))) (below_size (by repeat (first | (with_reducible first | exact HB.out | apply below_alloc | apply pw_below_drewN | apply below_drew1 | refine below_set ?_ GE1.out) | exact HB.out)))); have n3_ := Aside0.mk (blk_below (g := gb1) (o := .cells #[.bool false, .slice none 0 0, .slice none 0 0] 41 (0, 0)) (bc BK1.out) hb); have n4_ := Aside0.mk (below_step (by repeat (first | (with_reducible first | exact HB.out | apply below_alloc | apply pw_below_drewN | apply below_drew1 | refine below_set ?_ GE1.out) | exact HB.out)) hb); clear HO5; clear BK1; clear HB; have HO5 := n0_; have HO10 := n1_; have HO12 := n2_; have BK1 := n3_; have HB := n4_; clear n0_ n1_ n2_ n3_ n4_; (try clear hb); (try clear hb2); (try clear hk); (try clear hi); (try clear ho0); (try clear ho1)) | (go_at_call 168; (with_reducible refine (nat_Div.calls _ _ l2 _ _ t2 t13 t14 t15 _ ?side1 ?side2 ?side3 ?side4 A7.out).mono ?_); (case side1 => exact cc (Kd.C_below HR2.out HB.out)); (case side2 => exact HC2.out); (case side3 => exact cc (Kd.R_reads' HO5.out).2.2); (case side4 => exact (Kd.R_reads' HO5.out).2.1); rintro e w54 ⟨v16, v18, rfl, ho0, ho1, hb⟩; have n0_ := Aside0.mk (Kd.R_mono (Kd.R_told (Kd.R_told (Kd.R_old (rc HO5.out) hb) (Kd.R_base ho0)) (Kd.R_base ho1)) (fun _ h_ => h_.1)); have n1_ := Aside0.mk (Kd.R_mono (Kd.R_told (Kd.R_told (Kd.R_old (rc HO10.out) hb) (Kd.R_base ho0)) (Kd.R_base ho1)) (fun _ h_ => h_.1)); have n2_ := Aside0.mk (Kd.R_mono (Kd.R_told (Kd.R_told (Kd.R_old (rc HO12.out) hb) (Kd.R_base ho0)) (Kd.R_base ho1)) (fun _ h_ => h_.1)); have n3_ := Aside0.mk (Kd.R_lower (Kd.R_new' (Kd.R_new' (Kd.R_new' ho0 (Kd.R_lt (rc HO5.out))) (Kd.R_lt (rc HO10.out))) (Kd.R_lt (rc HO12.out))) (below_size (by repeat (first | (with_reducible first | exact HB.out | apply below_alloc | apply pw_below_drewN | apply below_drew1 | refine below_set ?_ GE1.out) | exact HB.out)))); have n4_ := Aside0.mk (Kd.R_lower (Kd.R_new' (Kd.R_new' (Kd.R_new' ho1 (Kd.R_lt (rc HO5.out))) (Kd.R_lt (rc HO10.out))) (Kd.R_lt (rc HO12.out))) (below_size (by repeat (first | (with_reducible first | exact HB.out | apply below_alloc | apply pw_below_drewN | apply below_drew1 | refine below_set ?_ GE1.out) | exact HB.out)))); have n5_ := Aside0.mk (blk_below (g := gb1) (o := .cells #[.bool false, .slice none 0 0, .slice none 0 0] 41 (0, 0)) (bc BK1.out) hb); have n6_ := Aside0.mk (below_step (by repeat (first | (with_reducible first | exact HB.out | apply below_alloc | apply pw_below_drewN | apply below_drew1 | refine below_set ?_ GE1.out) | exact HB.out)) hb); clear HO5; clear HO10; clear HO12; clear BK1; clear HB; have HO5 := n0_; have HO10 := n1_; have HO12 := n2_; have HO17 := n3_; have HO19 := n4_; have BK1 := n5_; have HB := n6_; clear n0_ n1_ n2_ n3_ n4_ n5_ n6_; (try clear hb); (try clear hb2); (try clear hk); (try clear hi); (try clear ho0); (try clear ho1); have hcz55_0 : w54.cell? ⟨gb1, 0, none⟩ = some (.bool false) := (blk_cell BK1.out 0).trans rfl; have hcz55_1 : w54.cell? ⟨gb1, 1, none⟩ = some (.slice none 0 0) := (blk_cell BK1.out 1).trans rfl; have hcz55_2 : w54.cell? ⟨gb1, 2, none⟩ = some (.slice none 0 0) := (blk_cell BK1.out 2).trans rfl; have hfz55_0 := blk_frozen BK1.out 0; have hfz55_1 := blk_frozen BK1.out 1; have hfz55_2 := blk_frozen BK1.out 2))
      refine bodyPost_ret (results_ct rfl _ _ gb1 41 #[.bool false, .slice none 0 0, .slice none 0 0] (0, 0) _ rfl (by (with_reducible repeat (first | refine blk_drewN ?_ _ | refine blk_drew ?_ | refine blk_alloc ?_ _)); refine blk_put (cs := #[.bool false, .slice none 0 0, .slice none 0 0]) ?_ 2 _ rfl; (with_reducible repeat (first | refine blk_drewN ?_ _ | refine blk_drew ?_ | refine blk_alloc ?_ _)); refine blk_put (cs := #[.bool false, .slice none 0 0, .slice none 0 0]) ?_ 1 _ rfl; (with_reducible repeat (first | refine blk_drewN ?_ _ | refine blk_drew ?_ | refine blk_alloc ?_ _)); refine blk_put (cs := #[.bool false, .slice none 0 0, .slice none 0 0]) ?_ 0 _ rfl; (with_reducible repeat (first | refine blk_drewN ?_ _ | refine blk_drew ?_ | refine blk_alloc ?_ _)); exact BK1.out) Tryz.underlying41 rfl (by kernel_rfl)) rfl ?_
      exact ⟨_, _, by first | rfl | (simp [errW_none, errW_some] <;> rfl) | (simp [*, errW_none, errW_some] <;> rfl), by first | exact Kd.R_nil _ _ _ _ _ | exact Kd.N_nil _ _ _ _ _ | exact Kd.V_nil _ _ _ _ _ | exact Kd.Q_nil _ _ _ _ _ | exact Kd.S_nil _ _ _ _ _, by first | exact Kd.R_nil _ _ _ _ _ | exact Kd.N_nil _ _ _ _ _ | exact Kd.V_nil _ _ _ _ _ | exact Kd.Q_nil _ _ _ _ _ | exact Kd.S_nil _ _ _ _ _, by repeat (first | (with_reducible first | exact HB.out | apply below_alloc | apply pw_below_drewN | apply below_drew1 | refine below_set ?_ GE1.out) | exact HB.out)⟩
  · rw [if_neg c5] at H
    have c5b0 : (t3 == 0) = false := beq_eq_false_iff_ne.mpr c5
    have c5b1 : (t3 != 0) = true := bne_iff_ne.mpr c5
    simp only [Option.some.injEq, Prod.mk.injEq] at H
    obtain ⟨rfl, rfl, rfl, rfl⟩ := H
    try (have hdl_ : decide ((t6.length : Int) > 0) = decide (0 < t6.length) := decide_eq_decide.2 (by omega); simp only [hdl_])
    go_enter Tryz.func139, Tryz.ntmps139
    go_wp2_with (first | ((with_reducible refine gate_dst (N := 6) rfl ?_); (try (refine gate_guard (by rfl) ?_; dsimp only)); refine box_event ?hg (N := 6) ?hd (cs := #[.bool false, .slice none 0 0, .slice none 0 0]) (t := 41) ?hr ?_; (case hd => rfl); (case hg => rfl); (case hr => first | (go_simp; done) | (go_simp; rfl)); intro gb1 hg w56 hbox hb; have n0_ := Aside0.mk (below_step (lc HB.out) hb); have n1_ := Aside0.mk (hbox); have n2_ := Aside0.mk ((by rw [hg]; exact (below_size (lc HB.out)) : w.heap.size ≤ gb1)); have n3_ := Aside0.mk ((by rw [hg]; exact (below_size (lc HB.out)) : w.heap.size ≤ gb1)); clear HB; have HB := n0_; have BK1 := n1_; have GW1 := n2_; have GE1 := n3_; clear n0_ n1_ n2_ n3_; clear hb hbox hg) | (go_at_call 130; (with_reducible refine (nat_Gcd.calls k _ _ l1 _ _ l2 t2 t3 _ ?side1 ?side2 ?side3 ?side4 A4.out).mono ?_); (case side1 => exact cc (Kd.C_below HR1.out HB.out)); (case side2 => exact HC1.out); (case side3 => exact cc (Kd.C_below HR2.out HB.out)); (case side4 => exact HC2.out); rintro e w57 ⟨v4, rfl, ho0, hb⟩; have n0_ := Aside0.mk (Kd.R_lower ho0 (below_size (by repeat (first | (with_reducible first | exact HB.out | apply below_alloc | apply pw_below_drewN | apply below_drew1 | refine below_set ?_ GE1.out) | exact HB.out)))); have n1_ := Aside0.mk (blk_below (g := gb1) (o := .cells #[.bool false, .slice none 0 0, .slice none 0 0] 41 (0, 0)) (bc BK1.out) hb); have n2_ := Aside0.mk (below_step (by repeat (first | (with_reducible first | exact HB.out | apply below_alloc | apply pw_below_drewN | apply below_drew1 | refine below_set ?_ GE1.out) | exact HB.out)) hb); clear BK1; clear HB; have HO5 := n0_; have BK1 := n1_; have HB := n2_; clear n0_ n1_ n2_; (try clear hb); (try clear hb2); (try clear hk); (try clear hi); (try clear ho0); have hcz58_0 : w57.cell? ⟨gb1, 0, none⟩ = some (.bool false) := (blk_cell BK1.out 0).trans rfl; have hcz58_1 : w57.cell? ⟨gb1, 1, none⟩ = some (.slice none 0 0) := (blk_cell BK1.out 1).trans rfl; have hcz58_2 : w57.cell? ⟨gb1, 2, none⟩ = some (.slice none 0 0) := (blk_cell BK1.out 2).trans rfl; have hfz58_0 := blk_frozen BK1.out 0; have hfz58_1 := blk_frozen BK1.out 1; have hfz58_2 := blk_frozen BK1.out 2))
    refine bodyPost_ret (results_ct rfl _ _ gb1 41 #[.bool false, .slice none 0 0, .slice none 0 0] (0, 0) _ rfl (by (with_reducible repeat (first | refine blk_drewN ?_ _ | refine blk_drew ?_ | refine blk_alloc ?_ _)); refine blk_put (cs := #[.bool false, .slice none 0 0, .slice none 0 0]) ?_ 2 _ rfl; (with_reducible repeat (first | refine blk_drewN ?_ _ | refine blk_drew ?_ | refine blk_alloc ?_ _)); refine blk_put (cs := #[.bool false, .slice none 0 0, .slice none 0 0]) ?_ 1 _ rfl; (with_reducible repeat (first | refine blk_drewN ?_ _ | refine blk_drew ?_ | refine blk_alloc ?_ _)); refine blk_put (cs := #[.bool false, .slice none 0 0, .slice none 0 0]) ?_ 0 _ rfl; (with_reducible repeat (first | refine blk_drewN ?_ _ | refine blk_drew ?_ | refine blk_alloc ?_ _)); exact BK1.out) Tryz.underlying41 rfl (by kernel_rfl)) rfl ?_
    exact ⟨_, _, by first | rfl | (simp [errW_none, errW_some] <;> rfl) | (simp [*, errW_none, errW_some] <;> rfl), by first | exact Kd.R_nil _ _ _ _ _ | exact Kd.N_nil _ _ _ _ _ | exact Kd.V_nil _ _ _ _ _ | exact Kd.Q_nil _ _ _ _ _ | exact Kd.S_nil _ _ _ _ _, by first | exact Kd.R_nil _ _ _ _ _ | exact Kd.N_nil _ _ _ _ _ | exact Kd.V_nil _ _ _ _ _ | exact Kd.Q_nil _ _ _ _ _ | exact Kd.S_nil _ _ _ _ _, by repeat (first | (with_reducible first | exact HB.out | apply below_alloc | apply pw_below_drewN | apply below_drew1 | refine below_set ?_ GE1.out) | exact HB.out)⟩
end Go.Proofs.YtioofhilohmfbaaGreatDoor.P
end
section
namespace Go.Proofs.YtioofhilohmfbaaGreatDoor.P
open Go.RowKit Go.Proofs.YtioofhilohmfbaaGreatDoorW.PrintWords Go.Proofs.YtioofhilohmfbaaGreatDoorW.PrintLast Go.Proofs.YtioofhilohmfbaaGreatDoorW.PrintMore
attribute [local go_sem] max2_int min2_int max_two min_two max_three min_three max_four min_four
set_option linter.unusedVariables false
set_option linter.unusedSimpArgs false
/-! ### nat_Add: function 193 -/
def nat_Add.f (k : Nat) (l0 : List Int) (l1 : List Int) : Option (List Int × Int) := (nat_both.f l0 l1).bind fun t1 => (if t1 = 0 then ((nat_plus.f k l0 l1).bind fun t2 => (some (t2, 0))) else (some (([] : List Int), t1)))
theorem nat_Add.mono : ∀ a0 a1 k, LeO (nat_Add.f k a0 a1) (nat_Add.f (k + 1) a0 a1) := by
  intro a0 a1 k
  unfold nat_Add.f
  repeat' first
      | (with_reducible exact nat_plus.mono _ _ _)
      | (with_reducible exact LeO.refl _)
      | (with_reducible exact LeO.none _)
      | (with_reducible refine LeO.ite ?_ ?_)
      | (with_reducible refine LeO.bind ?_ (fun _ => ?_))
      | exact nat_plus.mono _ _ _
      | exact LeO.none _
      | refine LeO.ite ?_ ?_
      | refine LeO.bind ?_ (fun _ => ?_)
set_option maxHeartbeats 8000000 in
set_option maxRecDepth 100000 in
theorem nat_Add.calls (k : Nat) (A0 : Option Addr) (c0 : Nat) (l0 : List Int) (A1 : Option Addr) (c1 : Nat) (l1 : List Int) (r1 : List Int) (r2 : Int) (w : World) (hr0 : Kd.C (Kd.int .u32) w A0 l0.length l0) (hc0 : l0.length ≤ c0) (hr1 : Kd.C (Kd.int .u32) w A1 l1.length l1) (hc1 : l1.length ≤ c1) (h : nat_Add.f k l0 l1 = some (r1, r2)) :
    Calls Tryz.prog 193 #[.slice A0 l0.length c0, .slice A1 l1.length c1] w fun e w' => ∃ v0_ : Value, e = .returned (.tuple #[v0_, .int .i64 r2]) ∧ Kd.V (Kd.int .u32) 109 w' w.heap.size (fun k_ => (w.heap.size ≤ k_)) v0_ r1 ∧ Below w.heap.size w w' := by
  have HR0 := Aside0.mk hr0
  have HC0 := Aside0.mk hc0
  clear hr0 hc0
  have HR1 := Aside0.mk hr1
  have HC1 := Aside0.mk hc1
  clear hr1 hc1
  have HB := Aside0.mk (Below.refl w.heap.size w)
  have H : ((nat_both.f l0 l1).bind fun t1 => (if t1 = 0 then ((nat_plus.f k l0 l1).bind fun t2 => (some (t2, 0))) else (some (([] : List Int), t1)))) = some (r1, r2) := h
  clear h
  replace H := Option.bind_eq_some_iff.mp H
  obtain ⟨t1, A30, H⟩ := H
  replace H : (if t1 = 0 then ((nat_plus.f k l0 l1).bind fun t2 => (some (t2, 0))) else (some (([] : List Int), t1))) = some (r1, r2) := H
  have A3 := Aside0.mk A30
  clear A30
  by_cases c4 : t1 = 0
  · rw [if_pos c4] at H
    have c4b0 : (t1 == 0) = true := beq_iff_eq.mpr c4
    have c4b1 : (t1 != 0) = false := bne_eq_false_iff_eq.mpr c4
    clear c4
    replace H := Option.bind_eq_some_iff.mp H
    obtain ⟨t2, A50, H⟩ := H
    replace H : (some (t2, 0)) = some (r1, r2) := H
    have A5 := Aside0.mk A50
    clear A50
    simp only [Option.some.injEq, Prod.mk.injEq] at H
    obtain ⟨rfl, rfl⟩ := H
    go_enter Tryz.func193, Tryz.ntmps193
    go_wp2_with (first | (go_at_call 163; (with_reducible refine (nat_both.calls _ _ l0 _ _ l1 t1 _ ?side1 ?side2 ?side3 ?side4 A3.out).mono ?_); (case side1 => exact cc HR0.out); (case side2 => exact HC0.out); (case side3 => exact cc HR1.out); (case side4 => exact HC1.out); rintro e w' ⟨rfl, ⟨nd, rfl⟩⟩) | (go_at_call 135; (with_reducible refine (nat_plus.calls k _ _ l0 _ _ l1 t2 _ ?side1 ?side2 ?side3 ?side4 A5.out).mono ?_); (case side1 => exact cc HR0.out); (case side2 => exact HC0.out); (case side3 => exact cc HR1.out); (case side4 => exact HC1.out); rintro e w6 ⟨v3, rfl, ho0, hb⟩; have n0_ := Aside0.mk (Kd.V_lower (Kd.V_mono (ok' := fun k_ => (w.heap.size ≤ k_)) ho0 (fun k_ hk_ => (Nat.le_trans (below_size (lc HB.out)) hk_))) (below_size (lc HB.out))); have n1_ := Aside0.mk (below_step (lc HB.out) hb); clear HB; have HO4 := n0_; have HB := n1_; clear n0_ n1_; (try clear hb); (try clear hb2); (try clear hk); (try clear hi); (try clear ho0)))
    go_ret2
    exact ⟨_, by first | rfl | (simp [errW_none, errW_some] <;> rfl) | (simp [*, errW_none, errW_some] <;> rfl), by (with_reducible repeat (first | apply Kd.V_alloc | apply Kd.V_drewN | apply Kd.V_drew)); exact HO4.out, by exact lc HB.out⟩
  · rw [if_neg c4] at H
    have c4b0 : (t1 == 0) = false := beq_eq_false_iff_ne.mpr c4
    have c4b1 : (t1 != 0) = true := bne_iff_ne.mpr c4
    simp only [Option.some.injEq, Prod.mk.injEq] at H
    obtain ⟨rfl, rfl⟩ := H
    go_enter Tryz.func193, Tryz.ntmps193
    go_wp2_with (first | (go_at_call 163; (with_reducible refine (nat_both.calls _ _ l0 _ _ l1 t1 _ ?side1 ?side2 ?side3 ?side4 A3.out).mono ?_); (case side1 => exact cc HR0.out); (case side2 => exact HC0.out); (case side3 => exact cc HR1.out); (case side4 => exact HC1.out); rintro e w' ⟨rfl, ⟨nd, rfl⟩⟩))
    go_ret2
    exact ⟨_, by first | rfl | (simp [errW_none, errW_some] <;> rfl) | (simp [*, errW_none, errW_some] <;> rfl), (Kd.V_nil _ _ _ _ _), by exact lc HB.out⟩
end Go.Proofs.YtioofhilohmfbaaGreatDoor.P
end
section
namespace Go.Proofs.YtioofhilohmfbaaGreatDoor.P
open Go.RowKit Go.Proofs.YtioofhilohmfbaaGreatDoorW.PrintWords Go.Proofs.YtioofhilohmfbaaGreatDoorW.PrintLast Go.Proofs.YtioofhilohmfbaaGreatDoorW.PrintMore
attribute [local go_sem] max2_int min2_int max_two min_two max_three min_three max_four min_four
set_option linter.unusedVariables false
set_option linter.unusedSimpArgs false
/-! ### nat_Cmp: function 194 -/
def nat_Cmp.f (k : Nat) (l0 : List Int) (l1 : List Int) : Option (Int) := (nat_both.f l0 l1).bind fun t1 => (if t1 = 0 then ((nat_compare.f k l0 l1).bind fun t2 => (some t2)) else (some 0))
theorem nat_Cmp.mono : ∀ a0 a1 k, LeO (nat_Cmp.f k a0 a1) (nat_Cmp.f (k + 1) a0 a1) := by
  intro a0 a1 k
  unfold nat_Cmp.f
  repeat' first
      | (with_reducible exact nat_compare.mono _ _ _)
      | (with_reducible exact LeO.refl _)
      | (with_reducible exact LeO.none _)
      | (with_reducible refine LeO.ite ?_ ?_)
      | (with_reducible refine LeO.bind ?_ (fun _ => ?_))
      | exact nat_compare.mono _ _ _
      | exact LeO.none _
      | refine LeO.ite ?_ ?_
      | refine LeO.bind ?_ (fun _ => ?_)
set_option maxHeartbeats 8000000 in
set_option maxRecDepth 100000 in
theorem nat_Cmp.calls (k : Nat) (A0 : Option Addr) (c0 : Nat) (l0 : List Int) (A1 : Option Addr) (c1 : Nat) (l1 : List Int) (r : Int) (w : World) (hr0 : Kd.C (Kd.int .u32) w A0 l0.length l0) (hc0 : l0.length ≤ c0) (hr1 : Kd.C (Kd.int .u32) w A1 l1.length l1) (hc1 : l1.length ≤ c1) (h : nat_Cmp.f k l0 l1 = some r) :
    Calls Tryz.prog 194 #[.slice A0 l0.length c0, .slice A1 l1.length c1] w fun e w' => e = .returned (.int .i64 r) ∧ Below w.heap.size w w' := by
  have HR0 := Aside0.mk hr0
  have HC0 := Aside0.mk hc0
  clear hr0 hc0
  have HR1 := Aside0.mk hr1
  have HC1 := Aside0.mk hc1
  clear hr1 hc1
  have HB := Aside0.mk (Below.refl w.heap.size w)
  have H : ((nat_both.f l0 l1).bind fun t1 => (if t1 = 0 then ((nat_compare.f k l0 l1).bind fun t2 => (some t2)) else (some 0))) = some r := h
  clear h
  replace H := Option.bind_eq_some_iff.mp H
  obtain ⟨t1, A30, H⟩ := H
  replace H : (if t1 = 0 then ((nat_compare.f k l0 l1).bind fun t2 => (some t2)) else (some 0)) = some r := H
  have A3 := Aside0.mk A30
  clear A30
  by_cases c4 : t1 = 0
  · rw [if_pos c4] at H
    have c4b0 : (t1 == 0) = true := beq_iff_eq.mpr c4
    have c4b1 : (t1 != 0) = false := bne_eq_false_iff_eq.mpr c4
    clear c4
    replace H := Option.bind_eq_some_iff.mp H
    obtain ⟨t2, A50, H⟩ := H
    replace H : (some t2) = some r := H
    have A5 := Aside0.mk A50
    clear A50
    obtain rfl := Option.some.inj H
    go_enter Tryz.func194, Tryz.ntmps194
    go_wp2_with (first | (go_at_call 163; (with_reducible refine (nat_both.calls _ _ l0 _ _ l1 t1 _ ?side1 ?side2 ?side3 ?side4 A3.out).mono ?_); (case side1 => exact cc HR0.out); (case side2 => exact HC0.out); (case side3 => exact cc HR1.out); (case side4 => exact HC1.out); rintro e w' ⟨rfl, ⟨nd, rfl⟩⟩) | (go_at_call 187; (with_reducible refine (nat_compare.calls k _ _ l0 _ _ l1 t2 _ ?side1 ?side2 ?side3 ?side4 A5.out).mono ?_); (case side1 => exact cc HR0.out); (case side2 => exact HC0.out); (case side3 => exact cc HR1.out); (case side4 => exact HC1.out); rintro e w6 ⟨rfl, hb⟩; have n0_ := Aside0.mk (below_step (lc HB.out) hb); clear HB; have HB := n0_; clear n0_; (try clear hb); (try clear hb2); (try clear hk); (try clear hi)))
    go_ret
    exact ⟨by first | rfl | (simp [errW_none, errW_some] <;> rfl) | (simp [*, errW_none, errW_some] <;> rfl), by exact lc HB.out⟩
  · rw [if_neg c4] at H
    have c4b0 : (t1 == 0) = false := beq_eq_false_iff_ne.mpr c4
    have c4b1 : (t1 != 0) = true := bne_iff_ne.mpr c4
    obtain rfl := Option.some.inj H
    go_enter Tryz.func194, Tryz.ntmps194
    go_wp2_with (first | (go_at_call 163; (with_reducible refine (nat_both.calls _ _ l0 _ _ l1 t1 _ ?side1 ?side2 ?side3 ?side4 A3.out).mono ?_); (case side1 => exact cc HR0.out); (case side2 => exact HC0.out); (case side3 => exact cc HR1.out); (case side4 => exact HC1.out); rintro e w' ⟨rfl, ⟨nd, rfl⟩⟩))
    go_ret
    exact ⟨by first | rfl | (simp [errW_none, errW_some] <;> rfl) | (simp [*, errW_none, errW_some] <;> rfl), by exact lc HB.out⟩
end Go.Proofs.YtioofhilohmfbaaGreatDoor.P
end

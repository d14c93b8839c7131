/- Parts of the proof: the walks and laws that the last text of this claim rests on. No condition beyond each one's own. -/
import Derived.Test.YtioofhilohmfbaaGreatDoorZBack4
set_option linter.unusedVariables false
set_option linter.unusedSimpArgs false
set_option maxRecDepth 100000
set_option maxHeartbeats 8000000
open Go.Proofs Go.Proofs.YtioofhilohmfbaaGreatDoorW
section
open Go Go.RowKit Go.Lib PrintWords PrintLast PrintMore YtioofhilohmfbaaGreatDoor.P
namespace Go.Proofs.YtioofhilohmfbaaGreatDoor
attribute [local go_sem] za3 za4 zbh zbi zaT zaU za5 za6
structure zdB (w W : World) (g : Nat) (x : Bool) (A1 : Option Addr) (n1 c1 : Nat) (A2 : Option Addr) (n2 c2 : Nat) (y z : List Int) : Prop where
 rb : RB w W
 bx : W.heap[g]? = some (.cells #[.bool x, .slice A1 n1 c1, .slice A2 n2 c2] 41 (0, 0))
 v1 : ∀ b, Kd.V (Kd.int .u32) 109 W b (fun _ => True) (.slice A1 n1 c1) y
 v2 : ∀ b, Kd.V (Kd.int .u32) 109 W b (fun _ => True) (.slice A2 n2 c2) z
 st : zd4 x y z
 hb : Below w.heap.size w W
 ge : w.heap.size < g
 e1 : n1 = y.length
 e2 : n2 = z.length
def zoD (R : Bool) (k : Nat) (s : ByteArray) (big lo : Int) (fi : Bool) : Prop := ∃ m : Nat, lo = (m : Int) - 1 ∧ 10 ≤ k + m ∧ s.size ≤ 1099511627776 ∧ zcJ s.data.toList = true ∧ m ≤ 8 ∧ (big = 0 ∨ big = 2 ∨ big = 20 ∨ big = 21) ∧ (((fi = true ∨ s.toList ≠ []) ∧ zkE (9 - m) m s = R) ∨ (fi = false ∧ s.toList = [] ∧ R = true))
theorem RB.zqw {w W : World} (h : RB w W) : (∀ o, (W.alloc o).cell? ⟨w.heap.size, 0, none⟩ = some (.bool false)) ∧ (∀ o, (W.alloc o).cell? ⟨w.heap.size, 1, none⟩ = some (.slice none 0 0)) ∧ (∀ o, (W.alloc o).cell? ⟨w.heap.size, 2, none⟩ = some (.slice none 0 0)) ∧ (∀ o, (W.alloc o).frozen? ⟨w.heap.size, 0, none⟩ = false) ∧ (∀ o, (W.alloc o).frozen? ⟨w.heap.size, 1, none⟩ = false) ∧ (∀ o, (W.alloc o).frozen? ⟨w.heap.size, 2, none⟩ = false) :=
 ⟨fun o => zah (zai h o) 0, fun o => zah (zai h o) 1, fun o => zah (zai h o) 2, fun o => zae (zai h o) 0, fun o => zae (zai h o) 1, fun o => zae (zai h o) 2⟩
theorem zdB.below {w W W' : World} {g : Nat} {x : Bool} {A1 : Option Addr} {n1 c1 : Nat} {A2 : Option Addr} {n2 c2 : Nat} {y z : List Int} (h : zdB w W g x A1 n1 c1 A2 n2 c2 y z) (hb : Below W.heap.size W W') : zdB w W' g x A1 n1 c1 A2 n2 c2 y z :=
 ⟨h.rb.below hb, zak h.bx hb, fun b => Kd.zaW (h.v1 b) hb, fun b => Kd.zaW (h.v2 b) hb, h.st, zab h.hb hb, h.ge, h.e1, h.e2⟩
theorem zj4 {s : ByteArray} {a b : Nat} {c : UInt8} (h : c ∈ (s.extract a b).data.toList) : c ∈ s.data.toList := by
 rw [ByteArray.data_extract, Array.toList_extract, List.extract_eq_take_drop] at h
 exact List.mem_of_mem_drop (List.mem_of_mem_take h)
theorem zdB.alloc {w W : World} {g : Nat} {x : Bool} {A1 : Option Addr} {n1 c1 : Nat} {A2 : Option Addr} {n2 c2 : Nat} {y z : List Int} (h : zdB w W g x A1 n1 c1 A2 n2 c2 y z) (o : Obj) : zdB w (W.alloc o) g x A1 n1 c1 A2 n2 c2 y z :=
 ⟨zai h.rb o, zai h.bx o, fun b => Kd.zaZ (h.v1 b) o, fun b => Kd.zaZ (h.v2 b) o, h.st, zam h.hb o, h.ge, h.e1, h.e2⟩
theorem zn0 {A B D : Type} {c : Prop} [Decidable c] {a : A} {b : B} {d : D} {x : A × B × D} (h : (if c then none else some (a, b, d)) = some x) : x.1 = a := by
 split at h
 ·cases h
 ·cases h
  rfl
theorem zn1 {s : ByteArray} {x : ByteArray × Nat × Nat} (h : zdv s = some x) : x.1 = zee s := by
 unfold zdv at h
 exact zn0 h
theorem zlp {s : ByteArray} (hs : s.size ≤ 1099511627776) (ha : zcJ s.data.toList = true) {x : ByteArray × Nat × Nat} (h : zdv s = some x) : x.1.size ≤ s.size ∧ zcJ x.1.data.toList = true := by
 have hin := zjW s hs ha
 have hr := zn1 h
 clear h
 rw [hr]
 clear hr
 ·skip
  have h3 : ∀ c, c ∈ (zee s).data.toList → c ∈ (zcG s).data.toList := fun c hc => by
   unfold zee at hc
   split at hc
   ·exact zj4 hc
   ·exact hc
  have h2 : ∀ c, c ∈ (zcG s).data.toList → c ∈ (zeq s).data.toList := fun c hc => by
   unfold zcG Lib.trimPrefix at hc
   simp only at hc
   split at hc
   ·exact List.mem_of_mem_drop hc
   ·exact hc
  have h1 : ∀ c, c ∈ (zeq s).data.toList → c ∈ s.data.toList := fun c hc => zj4 hc
  refine ⟨?_, ?_⟩
  ·have hle := hin.hR
   clear hin h1 h2 h3 ha hs
   by_cases hh : zcN s = true
   ·have e : (zee s).size = ((zcG s).extract (zb3 s).size (zcG s).size).size := by unfold zee; rw [if_pos hh]
    rw [e, ByteArray.size_extract]
    exact Nat.le_trans (Nat.sub_le _ _) (Nat.le_trans (Nat.min_le_right _ _) hle)
   ·have e : zee s = zcG s := by unfold zee; rw [if_neg hh]
    rw [e]
    exact hle
  ·exact List.all_eq_true.2 fun c hc => List.all_eq_true.1 ha c (h1 c (h2 c (h3 c hc)))
theorem zn2 (rest : ByteArray) : rest.extract (zfG rest).size rest.size = zfH rest := by
 unfold zfH zfG
 rw [ByteArray.size_extract]
 have h := zdc znb rest.data.toList
 rw [← Lib.size_eq] at h
 rw [Nat.min_eq_left h, Nat.sub_zero]
theorem zfi {e : Nat} {W : World} {b0 : Nat} {ok : Nat → Prop} {v : Value} {xs : List Int} (h : Kd.V (Kd.int .u32) e W b0 ok v xs) : ∀ b, Kd.V (Kd.int .u32) e W b (fun _ => True) v xs := fun b => Kd.zfA (Kd.zbH h (fun _ _ => trivial)) (fun _ h => h)
theorem zeV {W : World} {g : Nat} {t : TypeId} {a b c : Value} (h : W.heap[g]? = some (.cells #[a, b, c] t (0, 0))) : (∀ o, (W.alloc o).cell? ⟨g, 0, none⟩ = some a) ∧ (∀ o, (W.alloc o).cell? ⟨g, 1, none⟩ = some b) ∧ (∀ o, (W.alloc o).cell? ⟨g, 2, none⟩ = some c) ∧ (∀ o, (W.alloc o).frozen? ⟨g, 0, none⟩ = false) ∧ (∀ o, (W.alloc o).frozen? ⟨g, 1, none⟩ = false) ∧ (∀ o, (W.alloc o).frozen? ⟨g, 2, none⟩ = false) :=
 ⟨fun o => zah (zai h o) 0, fun o => zah (zai h o) 1, fun o => zah (zai h o) 2, fun o => zae (zai h o) 0, fun o => zae (zai h o) 1, fun o => zae (zai h o) 2⟩
theorem zoE {e base g : Nat} {W : World} {ok : Nat → Prop} {v : Value} {xs : List Int} (h : Kd.R (Kd.int .u32) e W base ok v xs) (hg : g < base) (o : Obj) (u0 u1 u2 : Value) (b' : Nat) : Kd.V (Kd.int .u32) e ((((W.alloc o).setCell ⟨g, 0, none⟩ u0).setCell ⟨g, 1, none⟩ u1).setCell ⟨g, 2, none⟩ u2) b' (fun _ => True) v xs :=
 Kd.zbH (Kd.zef (p := ⟨g, 2, none⟩) (Kd.zef (p := ⟨g, 1, none⟩) (Kd.zef (p := ⟨g, 0, none⟩) (Kd.R_V (base' := b') (Kd.zaQ (zdN h hg (Nat.le_refl W.heap.size)) o)) (fun _ hk => hk.2.1) u0) (fun _ hk => hk.2.1) u1) (fun _ hk => hk.2.1) u2) (fun _ _ => trivial)
theorem zdB.put {w W : World} {g : Nat} {x : Bool} {A1 : Option Addr} {n1 c1 : Nat} {A2 : Option Addr} {n2 c2 : Nat} {y z : List Int} (h : zdB w W g x A1 n1 c1 A2 n2 c2 y z) (o : Obj) {base : Nat} {ok1 ok2 : Nat → Prop} {x' : Bool} {B1 : Option Addr} {d1 : Nat} {B2 : Option Addr} {d2 : Nat} {y' z' : List Int} (h1 : Kd.R (Kd.int .u32) 109 W base ok1 (.slice B1 y'.length d1) y') (h2 : Kd.R (Kd.int .u32) 109 W base ok2 (.slice B2 z'.length d2) z') (hg : g < base) (hst : zd4 x' y' z') :
  zdB w ((((W.alloc o).setCell ⟨g, 0, none⟩ (.bool x')).setCell ⟨g, 1, none⟩ (.slice B1 y'.length d1)).setCell ⟨g, 2, none⟩ (.slice B2 z'.length d2)) g x' B1 y'.length d1 B2 z'.length d2 y' z' :=
 ⟨RB.zoB (show RB w (W.alloc o) from zai h.rb o) (by have := h.ge; omega) _ _ _, zaB (zaB (zaB (zai h.bx o) 0 (.bool x') (cs' := #[.bool x', .slice A1 n1 c1, .slice A2 n2 c2]) rfl) 1 (.slice B1 y'.length d1) (cs' := #[.bool x', .slice B1 y'.length d1, .slice A2 n2 c2]) rfl) 2 (.slice B2 z'.length d2) rfl, zoE h1 hg o _ _ _, zoE h2 hg o _ _ _, hst, zcF (zam h.hb o) (by have := h.ge; omega) _ _ _, h.ge, rfl, rfl⟩
theorem zn3 {R : Bool} {m i f gq : Nat} {rest nm u1 : ByteArray} {u2 big : Int} (hD : (match zes m nm with | none => false | some i => if (zfH rest).size = 0 then true else zkE f (i + 1) (zfH rest)) = R) (hU : zcs[i]? = some (u1, u2)) (hL : m ≤ i) (hx : u1.toList = nm.toList) (hN : ∀ k y, k < i → zcs[k]? = some y → ¬ (m ≤ k ∧ y.1 = nm)) (hK : 10 ≤ gq + 1 + m ∧ 9 - m = f + 1 ∧ m ≤ 8 ∧ rest.size ≤ 1099511627776 ∧ zcJ rest.data.toList = true) (hi : i < 8) (hbig : big = 0 ∨ big = 2 ∨ big = 20 ∨ big = 21) : zoD R gq (zfH rest) big (i : Int) false := by
 have he : u1 = nm := ByteArray.ext (Array.toList_inj.1 (by rw [← Lib.toList_data, ← Lib.toList_data]; exact hx))
 rw [zj2 hU hL he hN] at hD
 simp only at hD
 obtain ⟨h1, h2, h3, h4, h5⟩ := hK
 have hsz : (zfH rest).size ≤ rest.size := by unfold zfH; rw [ByteArray.size_extract]; omega
 refine ⟨i + 1, by omega, by omega, by omega, ?_, by omega, hbig, ?_⟩
 ·exact List.all_eq_true.2 fun c hc => List.all_eq_true.1 h5 c (zj4 hc)
 ·by_cases hz : (zfH rest).size = 0
  ·rw [if_pos hz] at hD
   refine .inr ⟨rfl, ?_, hD.symm⟩
   rw [Lib.toList_data]
   exact List.length_eq_zero_iff.1 (by rw [← Lib.size_eq]; exact hz)
  ·rw [if_neg hz] at hD
   refine .inl ⟨.inr fun h => hz ?_, ?_⟩
   ·rw [Lib.toList_data] at h
    rw [Lib.size_eq, h]
    rfl
   ·rw [← hD]
    exact zi1 _ _ _ _ (by omega) (by omega)
theorem zii (s : ByteArray) (hs : s.size ≤ 1099511627776) (ha : zcJ s.data.toList = true) (w : World) (hG : zaa (G w)) : Calls Tryz.prog 101 #[.string s] w (zeU w (zmI s = true)) := by
 obtain ⟨⟨ko, hko⟩, oko⟩ := zky 0 (by decide)
 have EO := zaa.mk (hko ko (Nat.le_refl _))
 have OK := zaa.mk (show zd4 false (L 0) (L 1) from .inl ⟨0, 1, rfl, rfl, oko⟩)
 have HS := zaa.mk (And.intro hs ha)
 obtain ⟨R, hR⟩ : ∃ R, zmI s = R := ⟨_, rfl⟩
 rw [hR]
 have HR := zaa.mk hR
 clear hko oko hs ha hR
 go_enter Tryz.func101, Tryz.ntmps101
 go_wp2
 go_step3
 go_wp2_with (first
  |(go_at_call 103; (with_reducible refine (zeb.calls ko 0 _ _ _ _ EO.out).mono ?_); rintro e w1 ⟨v1, v2, rfl, h1, h2, hb⟩; have RB1 := zaa.mk (RB.below (RB.ziW w) hb); have HB := zaa.mk (zab (zam (Below.refl w.heap.size w) _) hb); have P1 := zaa.mk (zfi h1); have P2 := zaa.mk (zfi h2); obtain ⟨B1, d1, f1⟩ := Kd.zbe (P1.out 0); subst f1; obtain ⟨B2, d2, f2⟩ := Kd.zbe (P2.out 0); subst f2; clear h1 h2; clear hb))
 have DB0 := zaa.mk (show zdB w (w1.alloc (.cells #[.bool false, .slice B1 (L 0).length d1, .slice B2 (L 1).length d2] 41)) w1.heap.size false B1 (L 0).length d1 B2 (L 1).length d2 (L 0) (L 1) from ⟨zai RB1.out _, zcv w1 _, zfi (Kd.zaZ (P1.out 0) _), zfi (Kd.zaZ (P2.out 0) _), OK.out, zam HB.out _, zbg RB1.out, rfl, rfl⟩)
 clear RB1 HB P1 P2 OK EO
 generalize w1.alloc (.cells #[.bool false, .slice B1 (L 0).length d1, .slice B2 (L 1).length d2] 41) = w2 at *
 generalize w1.heap.size = g4 at *
 have INI := zaa.mk (show ∃ (x : Bool) (y z : List Int) (A1 : Option Addr) (n1 c1 : Nat) (A2 : Option Addr) (n2 c2 : Nat), zdB w w2 g4 x A1 n1 c1 A2 n2 c2 y z from ⟨_, _, _, _, _, _, _, _, _, DB0.out⟩)
 clear DB0
 go_step3
 go_wp2
 go_loopg [0, 5, 6, 7] 10 (fun kq v0 v5 v6 v7 wr => ∃ (s' : ByteArray) (big lo : Int) (fi : Bool), v0 = .string s' ∧ v5 = .int .i64 big ∧ v6 = .int .i64 lo ∧ v7 = .bool fi ∧ zaa (zoD R kq s' big lo fi) ∧ zaa (∃ (x : Bool) (y z : List Int) (A1 : Option Addr) (n1 c1 : Nat) (A2 : Option Addr) (n2 c2 : Nat), zdB w wr g4 x A1 n1 c1 A2 n2 c2 y z))
 case atStart => exact ⟨s, 0, -1, true, rfl, rfl, rfl, rfl, ⟨0, rfl, Nat.le_refl _, HS.out.1, HS.out.2, by decide, .inl rfl, .inl ⟨.inl rfl, HR.out⟩⟩, INI⟩
 case round =>
  obtain ⟨s1, big, lo, fi, rfl, rfl, rfl, rfl, HI, x, y, z, A1, n1, c1, A2, n2, c2, DB⟩ := hrel
  obtain rfl := DB.e1
  obtain rfl := DB.e2
  obtain ⟨m, rfl, hkm, hsz, has, hm8, hbig, hc | ⟨rfl, hse, hRt⟩⟩ := HI
  all_goals obtain ⟨gq, rfl⟩ : ∃ gq, gk = gq + 1 := ⟨gk - 1, by omega⟩
  rotate_left
  ·have hseb : s1.toList.isEmpty = true := by rw [hse]; rfl
   have RT := zaa.mk hRt
   have BG := zaa.mk hbig
   have DBS := zaa.mk DB
   have hb0 := (zah DB.bx 0)
   have hb1 := (zah DB.bx 1)
   have hb2 := (zah DB.bx 2)
   simp only [List.getElem?_toArray, List.getElem?_cons_zero, List.getElem?_cons_succ] at hb0 hb1 hb2
   obtain ⟨hc0, hc1, hc2, hf0, hf1, hf2⟩ := DB.rb.cells
   clear hse hRt hkm hsz has hm8 hbig DB INI HR HS
   by_cases hb : big = 0
   ·have cb1 : (big != 0) = false := by rw [hb]; rfl
    clear hb
    go_wp2
    rw [Exit.noGoto_ret]
    refine bodyPost_ret (zba rfl _ _ w.heap.size 41 #[.bool x, .slice A1 y.length c1, .slice A2 z.length c2] (0, 0) _ rfl (RB.put DBS.out.rb x _ _) Tryz.underlying41 rfl (by kernel_rfl)) rfl ?_
    exact ⟨_, _, _, _, _, _, _, 0, rfl, ⟨fun h => absurd h (by decide), fun h => absurd RT.out h⟩, za2 DBS.out.hb _ _ _⟩
   ·have cb1 : (big != 0) = true := bne_iff_ne.2 hb
    clear hb
    go_wp2
    rw [Exit.noGoto_ret]
    refine bodyPost_ret (zba rfl _ _ w.heap.size 41 #[.bool false, .slice none 0 0, .slice none 0 0] (0, 0) _ rfl (RB.put DBS.out.rb false _ _) Tryz.underlying41 rfl (by kernel_rfl)) rfl ?_
    exact ⟨_, _, _, _, _, _, _, big, rfl, ⟨fun h => absurd h (by have := BG.out; omega), fun h => absurd RT.out h⟩, za2 DBS.out.hb _ _ _⟩
  ·obtain ⟨f, hf⟩ : ∃ f, 9 - m = f + 1 := ⟨8 - m, by omega⟩
   obtain ⟨rest, q1, q2, q3, is, hT, hst, his, hx⟩ := zkD s1 hsz has
   have HT := zaa.mk hT
   have hce : (fi = true) ∨ (fi = false ∧ s1.toList.isEmpty = false) := by
    cases fi with
    | true => exact .inl rfl
    | false => exact .inr ⟨rfl, by rcases hc.1 with h | h; exact absurd h (by decide); cases hh : s1.toList with | nil => exact absurd hh h | cons a l => rfl⟩
   have DBS := zaa.mk DB
   clear DB INI HR HS hT
   cases is with
   | false =>
    have hR0 : R = false := by
     rw [← hc.2, hf, zkE]
     cases h : zdv s1 with
     | none => rfl
     | some x => rw [h] at his; cases his
    have RT := zaa.mk hR0
    clear hc his hx hst hR0 hf hkm hsz has hm8 hbig
    rcases hce with rfl | ⟨rfl, hcb⟩
    all_goals go_wp2_with (first
     |(go_at_call 67; (with_reducible refine (HT.out _).mono ?_); rintro e w1 ⟨v1, v2, rfl, h1, h2, hb⟩; have RB1 := zaa.mk (DBS.out.rb.below hb); have HB := zaa.mk (zab DBS.out.hb hb); obtain ⟨hc0, hc1, hc2, hf0, hf1, hf2⟩ := RB1.out.zqw; obtain ⟨E1, d1, f1⟩ := Kd.zaC h1; subst f1; obtain ⟨E2, d2, f2⟩ := Kd.zaC h2; subst f2; clear h1 h2 hb))
    all_goals rw [Exit.noGoto_ret]
    all_goals refine bodyPost_ret (zba rfl _ _ w.heap.size 41 #[.bool false, .slice none 0 0, .slice none 0 0] (0, 0) _ rfl (RB.put (show RB w _ from zai RB1.out _) false _ _) Tryz.underlying41 rfl (by kernel_rfl)) rfl ?_
    all_goals exact ⟨_, _, _, _, _, _, _, 4, rfl, ⟨fun _ h => Bool.noConfusion (RT.out.symm.trans h), fun _ => rfl⟩, za2 (zam HB.out _) _ _ _⟩
   | true =>
    obtain ⟨v0, hv0, hv1⟩ : ∃ v0, zdv s1 = some v0 ∧ v0.1 = rest := by
     cases h : zdv s1 with
     | none => rw [h] at his; cases his
     | some x => exact ⟨x, rfl, hx x h⟩
    have hdk : zkE (9 - m) m s1 = match zes m (zfG rest) with | none => false | some i => if (zfH rest).size = 0 then true else zkE f (i + 1) (zfH rest) := by
     rw [hf, zkE, hv0]
     rw [← hv1] <;> rfl
    obtain ⟨hrs, hra⟩ := zlp hsz has hv0
    rw [hv1] at hrs hra
    have hrz : rest.size ≤ 1099511627776 := by omega
    have HI := zaa.mk (fun W => zep rest (by omega) hra 140 (enters_of Tryz.func140 (by kernel_rfl) rfl) _ zlo W)
    have HK := zaa.mk (And.intro hkm (And.intro hf (And.intro hm8 (And.intro hrz hra))))
    have HD := zaa.mk (hdk.symm.trans hc.2)
    have QS := zaa.mk hst
    have BG := zaa.mk hbig
    clear hc his hx hst hf hkm hsz has hm8 hbig hdk hv0 hv1 hrs hra hrz
    obtain ⟨ix, hix⟩ : ∃ ix, zlH (fun c => !znb c) rest.data.toList = ix := ⟨_, rfl⟩
    rw [hix] at HI
    have HX := zaa.mk hix
    clear hix
    rcases hce with rfl | ⟨rfl, hcb⟩
    all_goals (
     go_upto_if 40 with (first
      |(go_at_call 67; (with_reducible refine (HT.out _).mono ?_); rintro e w1 ⟨v1, v2, rfl, h1, h2, hb⟩; have DB1 := zaa.mk (DBS.out.below hb); have P1 := zaa.mk (zfi (Kd.R_V (base' := 0) h1)); have P2 := zaa.mk (zfi (Kd.R_V (base' := 0) h2)); obtain ⟨E1, d1, f1⟩ := Kd.zaC h1; subst f1; obtain ⟨E2, d2, f2⟩ := Kd.zaC h2; subst f2; clear h1 h2 hb)
      | (go_at_call 93; (with_reducible refine (HI.out _).mono ?_); rintro e w7 ⟨rfl, hb⟩; have DB7 := zaa.mk ((DB1.out.alloc _).below hb); have BX7 := zaa.mk (zak (zcv w1 _) hb); have R1 := zaa.mk (fun b => Kd.zaW (Kd.zaZ (P1.out b) _) hb); have R2 := zaa.mk (fun b => Kd.zaW (Kd.zaZ (P2.out b) _) hb); have GL := zaa.mk (zbg DB1.out.bx); clear DB1 P1 P2 hb; generalize w1.heap.size = g8 at *))
     go_cut [11] from 22 to 92 (fun v11 wc => v11 = .string (zfG rest) ∧ zaa (zdB w wc g4 x A1 y.length c1 A2 z.length c2 y z) ∧ zaa (wc.heap[g8]? = some (.cells #[.bool q1, .slice E1 q2.length d1, .slice E2 q3.length d2] 41 (0, 0))) ∧ zaa (∀ b, Kd.V (Kd.int .u32) 109 wc b (fun _ => True) (.slice E1 q2.length d1) q2) ∧ zaa (∀ b, Kd.V (Kd.int .u32) 109 wc b (fun _ => True) (.slice E2 q3.length d2) q3))
     case first =>
      have hxx := HX.out
      obtain ⟨hkm, hf, hm8, hrz, hra⟩ := HK.out
      by_cases hlt : runN znb rest.data.toList < rest.size
      ·have e1 : ix = (runN znb rest.data.toList : Int) := by rw [← hxx]; unfold zlH; simp only [Bool.not_not]; rw [if_pos (by rw [← Lib.size_eq]; exact hlt)]
       have cb1 : decide (0 ≤ ix) = true := decide_eq_true (by omega)
       have cb2 : (0 ≤ ix) = True := eq_true (by omega)
       have cb3 : (ix ≤ (rest.size : Int)) = True := eq_true (by omega)
       have EN := zaa.mk (show rest.extract 0 ix.toNat = zfG rest by unfold zfG; rw [e1, Int.toNat_natCast])
       clear hxx hkm hf hm8 hrz hra hlt e1
       rw [cb1]
       go_wp2
       go_meet
       case rel => exact ⟨by rw [EN.out], DB7, BX7, R1, R2⟩
      ·have e1 : ix = -1 := by rw [← hxx]; unfold zlH; simp only [Bool.not_not]; rw [if_neg (by rw [← Lib.size_eq]; exact hlt)]
       have cb1 : decide (0 ≤ ix) = false := decide_eq_false (by omega)
       have EN := zaa.mk (show rest = zfG rest by unfold zfG; rw [show runN znb rest.data.toList = rest.size by have := zdc znb rest.data.toList; rw [← Lib.size_eq] at this; omega]; exact ByteArray.extract_zero_size.symm)
       clear hxx hkm hf hm8 hrz hra hlt e1
       rw [cb1]
       go_wp2
       go_meet
       case rel => exact ⟨congrArg Value.string EN.out, DB7, BX7, R1, R2⟩
     case rest =>
      obtain ⟨rfl, DB8, BX8, S1, S2⟩ := hcut
      clear DB7 BX7 R1 R2 HI HX HT DBS
      obtain ⟨nm, hnm⟩ : ∃ nm, zfG rest = nm := ⟨_, rfl⟩
      have hz : nm.size ≤ rest.size := by rw [← hnm]; unfold zfG; rw [ByteArray.size_extract]; omega
      have hrs := zn2 rest
      rw [hnm] at hrs HD ⊢
      have cb1 : ((nm.size : Int) ≤ (rest.size : Int)) = True := eq_true (by omega)
      have cb2 : (0 ≤ (nm.size : Int)) = True := eq_true (by omega)
      have HRS := zaa.mk hrs
      have HNM := zaa.mk hnm
      clear hnm hz hrs
      go_wp2_with ((with_reducible refine zaA (N := 48) rfl ?_); refine zeN rfl 169 _ rfl 7 rfl _ (zhJ (hG.out.below DB8.out.hb).times 169 16 rfl (fun _ => rfl) (fun _ => rfl)) ?_)
      go_loopg [5, 6, 49] 9 (fun kj v5 v6 v49 wj => ∃ (j : Int), v5 = .int .i64 big ∧ v6 = .int .i64 ((m : Int) - 1) ∧ v49 = .int .i64 j ∧ zaa (∃ i : Nat, j = (i : Int) ∧ i ≤ 8 ∧ 8 < kj + i ∧ ∀ k y, k < i → zcs[k]? = some y → ¬ (m ≤ k ∧ y.1 = nm)) ∧ zaa (zdB w wj g4 x A1 y.length c1 A2 z.length c2 y z) ∧ zaa (wj.heap[g8]? = some (.cells #[.bool q1, .slice E1 q2.length d1, .slice E2 q3.length d2] 41 (0, 0))) ∧ zaa (∀ b, Kd.V (Kd.int .u32) 109 wj b (fun _ => True) (.slice E1 q2.length d1) q2) ∧ zaa (∀ b, Kd.V (Kd.int .u32) 109 wj b (fun _ => True) (.slice E2 q3.length d2) q3))
      case atStart => exact ⟨0, rfl, rfl, rfl, ⟨0, rfl, Nat.zero_le _, by omega, fun k x hk => absurd hk (Nat.not_lt_zero _)⟩, DB8, BX8, S1, S2⟩
      case round =>
       obtain ⟨j, rfl, rfl, rfl, ⟨i, hij, hi, hk, hN⟩, DB9, BX9, T1, T2⟩ := hrel
       cases gk with
       | zero => exact absurd hk (by omega)
       | succ kj =>
        by_cases hlt : i < 8
        ·obtain ⟨u, hu⟩ : ∃ u, zcs[i]? = some u := ⟨_, List.getElem?_eq_getElem (by simpa [zcs] using hlt)⟩
         have hg : decide (j < 8) = true := decide_eq_true (by omega)
         have HJ : zaa (j = (i : Int) ∧ i < 8 ∧ 8 < kj + 1 + i) := ⟨hij, hlt, hk⟩
         have HU := zaa.mk hu
         have HN := zaa.mk hN
         have hix : ∀ w, (Instr.index 169 (.agg (zc7 zcs).toArray) (.int .i64 j)).run Tryz.prog w = .ok (.agg #[.string u.1, .int .i64 u.2]) w := fun w => by rw [hij]; exact zgP w i u hu
         have HIX := zaa.mk hix
         obtain ⟨u1, u2⟩ := u
         by_cases hx : u1.toList = nm.toList
         ·have hxb : (u1.toList != nm.toList) = false := by rw [bne_eq_false_iff_eq]; exact hx
          have hxe : (u1.toList == nm.toList) = true := beq_iff_eq.2 hx
          have HX2 := zaa.mk hx
          by_cases hl : m ≤ i
          ·have hlb : decide (j ≤ (m : Int) - 1) = false := decide_eq_false (by omega)
           have HL := zaa.mk hl
           clear hix hij hlt hk hu hN hi hx hl
           obtain ⟨n2, hn2, hn3⟩ : ∃ n2 : Nat, u2 = (n2 : Int) ∧ n2 < 9223372036854775808 := zmJ HU.out
           subst hn2
           obtain ⟨⟨ko, hko⟩, oko⟩ := zky n2 hn3
           have EO := zaa.mk (hko ko (Nat.le_refl _))
           obtain ⟨⟨kp, hkp⟩, okp⟩ := zky 1000000 (by decide)
           have EP := zaa.mk (hkp kp (Nat.le_refl _))
           obtain ⟨⟨m1, m2, m3, m4⟩, ⟨kd, hkd⟩, hresd⟩ := zpz (show zd4 false (L n2) (L 1) from .inl ⟨n2, 1, rfl, rfl, oko⟩) (show zd4 false (L 1000000) (L 1) from .inl ⟨1000000, 1, rfl, rfl, okp⟩)
           have ED := zaa.mk (hkd kd (Nat.le_refl _))
           have RD := zaa.mk hresd.zmu
           obtain ⟨⟨o1, o2, o3, o4⟩, ⟨km, hkm⟩, hresm⟩ := zmx QS.out hresd.st
           have EM := zaa.mk (hkm km (Nat.le_refl _))
           have RM := zaa.mk hresm.zmu
           obtain ⟨⟨s1, s2, s3, s4⟩, ⟨ka, hka⟩, hresa⟩ := zpA DB9.out.st hresm.st
           have EA := zaa.mk (hka ka (Nat.le_refl _))
           have RA := zaa.mk hresa.zmu
           have SA := zaa.mk hresa.st
           clear hko hkp hkd hkm hka hresd hresm hresa oko okp hn3
           go_wp2_with ((with_reducible refine zaA (N := 52) rfl ?_); refine zcn rfl _ _ _ rfl _ _ _ rfl rfl (HIX.out _) ?_)
           have DB5 := zaa.mk (DB9.out.alloc (.cells #[.string u1, .int .i64 (n2 : Int)] 136))
           have BX5 := zaa.mk (zai BX9.out (.cells #[.string u1, .int .i64 (n2 : Int)] 136))
           have X51 := zaa.mk (fun b => Kd.zaZ (T1.out b) (.cells #[.string u1, .int .i64 (n2 : Int)] 136))
           have X52 := zaa.mk (fun b => Kd.zaZ (T2.out b) (.cells #[.string u1, .int .i64 (n2 : Int)] 136))
           have BU := zaa.mk (zcv wr (.cells #[.string u1, .int .i64 (n2 : Int)] 136))
           clear DB9 BX9 T1 T2
           generalize wr.alloc (.cells #[.string u1, .int .i64 (n2 : Int)] 136) = w5 at *
           generalize wr.heap.size = gu at *
           have hu1 := (zah BU.out 1)
           simp only [List.getElem?_toArray, List.getElem?_cons_zero, List.getElem?_cons_succ] at hu1
           go_wp2_with (first
            | (go_at_call 103; (with_reducible refine (zeb.calls ko (n2 : Int) _ _ _ _ EO.out).mono ?_); rintro e w6 ⟨v1, v2, rfl, h1, h2, hb⟩; have DB6 := zaa.mk (DB5.out.below hb); have BX6 := zaa.mk (zak BX5.out hb); have X61 := zaa.mk (fun b => Kd.zaW (X51.out b) hb); have X62 := zaa.mk (fun b => Kd.zaW (X52.out b) hb); have Y61 := zaa.mk (zfi h1); have Y62 := zaa.mk (zfi h2); obtain ⟨F1, f1, e1⟩ := Kd.zbe (Y61.out 0); subst e1; obtain ⟨F2, f2, e2⟩ := Kd.zbe (Y62.out 0); subst e2; clear h1 h2 hb DB5 BX5 X51 X52)
            | (go_at_call 103; (with_reducible refine (zeb.calls kp 1000000 _ _ _ _ EP.out).mono ?_); rintro e w7 ⟨v3, v4, rfl, h1, h2, hb⟩; have DB7 := zaa.mk (DB6.out.below hb); have BX7 := zaa.mk (zak BX6.out hb); have X71 := zaa.mk (fun b => Kd.zaW (X61.out b) hb); have X72 := zaa.mk (fun b => Kd.zaW (X62.out b) hb); have Y71 := zaa.mk (fun b => Kd.zaW (Y61.out b) hb); have Y72 := zaa.mk (fun b => Kd.zaW (Y62.out b) hb); have Z71 := zaa.mk (zfi h1); have Z72 := zaa.mk (zfi h2); obtain ⟨F3, f3, e3⟩ := Kd.zbe (Z71.out 0); subst e3; obtain ⟨F4, f4, e4⟩ := Kd.zbe (Z72.out 0); subst e4; clear h1 h2 hb DB6 BX6 X61 X62 Y61 Y62)
            | (go_at_call 141; (with_reducible refine (zd0.calls kd false (fun _ => True) F1 f1 (L n2) (fun _ => True) F2 f2 (L 1) false (fun _ => True) F3 f3 (L 1000000) (fun _ => True) F4 f4 (L 1) m1 m2 m3 m4 _ (Y71.out _) (Y72.out _) (Z71.out _) (Z72.out _) ED.out).mono ?_); rintro e w8 ⟨v5, v6, rfl, h1, h2, hb⟩; have DB8 := zaa.mk (DB7.out.below hb); have BX8 := zaa.mk (zak BX7.out hb); have X81 := zaa.mk (fun b => Kd.zaW (X71.out b) hb); have X82 := zaa.mk (fun b => Kd.zaW (X72.out b) hb); have Y81 := zaa.mk (zfi (Kd.R_V (base' := 0) h1)); have Y82 := zaa.mk (zfi (Kd.R_V (base' := 0) h2)); obtain ⟨F5, f5, e5⟩ := Kd.zaC h1; subst e5; obtain ⟨F6, f6, e6⟩ := Kd.zaC h2; subst e6; clear h1 h2 hb DB7 BX7 X71 X72 Y71 Y72 Z71 Z72; obtain ⟨hb0, hb1, hb2, hf0, hf1, hf2⟩ := zeV BX8.out)
            | (go_at_call 102; (with_reducible refine (zdI.calls km q1 (fun _ => True) E1 d1 q2 (fun _ => True) E2 d2 q3 m1 (fun _ => True) F5 f5 m2 (fun _ => True) F6 f6 m3 o1 o2 o3 o4 _ (Kd.zaZ (X81.out _) _) (Kd.zaZ (X82.out _) _) (Kd.zaZ (Y81.out _) _) (Kd.zaZ (Y82.out _) _) EM.out).mono ?_); rintro e wa ⟨v7, v8, rfl, h1, h2, hb⟩; have DBa := zaa.mk ((DB8.out.alloc _).below hb); have Ya1 := zaa.mk (zfi (Kd.R_V (base' := 0) h1)); have Ya2 := zaa.mk (zfi (Kd.R_V (base' := 0) h2)); obtain ⟨F7, f7, e7⟩ := Kd.zaC h1; subst e7; obtain ⟨F8, f8, e8⟩ := Kd.zaC h2; subst e8; clear h1 h2 hb hb0 hb1 hb2 hf0 hf1 hf2 DB8 BX8 X81 X82 Y81 Y82; obtain ⟨hb0, hb1, hb2, hf0, hf1, hf2⟩ := zeV DBa.out.bx)
            | (go_at_call 142; (with_reducible refine (zd1.calls ka x (fun _ => True) A1 c1 y (fun _ => True) A2 c2 z o1 (fun _ => True) F7 f7 o2 (fun _ => True) F8 f8 o3 s1 s2 s3 s4 _ ((DBa.out.alloc _).v1 _) ((DBa.out.alloc _).v2 _) (Kd.zaZ (Ya1.out _) _) (Kd.zaZ (Ya2.out _) _) EA.out).mono ?_); rintro e wb ⟨v9, va, rfl, h1, h2, hb⟩; have DBb := zaa.mk ((DBa.out.alloc _).below hb); obtain ⟨F9, f9, e9⟩ := Kd.zaC h1; subst e9; obtain ⟨Fa, fa, ea⟩ := Kd.zaC h2; subst ea; have PB := zaa.mk (fun o => DBb.out.put o h1 h2 (zbg (DBa.out.alloc _).bx) SA.out); clear h1 h2 hb hb0 hb1 hb2 hf0 hf1 hf2 DBa Ya1 Ya2; obtain ⟨hb0, hb1, hb2, hf0, hf1, hf2⟩ := zeV DBb.out.bx))
           all_goals go_roundg gq
           all_goals (first | exact Nat.le_refl _ | exact ⟨zfH rest, _, j, false, congrArg Value.string HRS.out, rfl, rfl, rfl, ⟨by rw [HJ.out.1]; exact zn3 HD.out HU.out HL.out HX2.out HN.out HK.out HJ.out.2.1 (by first | exact RA.out | exact RM.out | exact RD.out | exact BG.out)⟩, ⟨⟨s1, s2, s3, F9, _, f9, Fa, _, fa, PB.out _⟩⟩⟩)
          ·have hlb : decide (j ≤ (m : Int) - 1) = true := decide_eq_true (by omega)
           have HL := zaa.mk hl
           clear hix hij hlt hk hu hN hi hx hl
           go_wp2_with ((with_reducible refine zaA (N := 52) rfl ?_); refine zcn rfl _ _ _ rfl _ _ _ rfl rfl (HIX.out _) ?_)
           go_roundg kj
           case measure => have := HJ.out; omega
           case rel =>
            exact ⟨wrap64 (j + 1), rfl, rfl, rfl, ⟨i + 1, by have := HJ.out; unfold wrap64; omega, by have := HJ.out; omega, by have := HJ.out; omega, fun k y hk hy => (Nat.lt_succ_iff_lt_or_eq.1 hk).elim (fun h => HN.out k y h hy) (fun h => fun h2 => HL.out (h ▸ h2.1))⟩, ⟨DB9.out.alloc _⟩, ⟨zai BX9.out _⟩, ⟨fun b => Kd.zaZ (T1.out b) _⟩, ⟨fun b => Kd.zaZ (T2.out b) _⟩⟩
         ·have hxb : (u1.toList != nm.toList) = true := bne_iff_ne.2 hx
          have hxe : (u1.toList == nm.toList) = false := beq_eq_false_iff_ne.2 hx
          have HX2 := zaa.mk hx
          clear hix hij hlt hk hu hN hi hx
          go_wp2_with ((with_reducible refine zaA (N := 52) rfl ?_); refine zcn rfl _ _ _ rfl _ _ _ rfl rfl (HIX.out _) ?_)
          go_roundg kj
          case measure => have := HJ.out; omega
          case rel =>
           exact ⟨wrap64 (j + 1), rfl, rfl, rfl, ⟨i + 1, by have := HJ.out; unfold wrap64; omega, by have := HJ.out; omega, by have := HJ.out; omega, fun k y hk hy => (Nat.lt_succ_iff_lt_or_eq.1 hk).elim (fun h => HN.out k y h hy) (fun h => fun h2 => by rw [h, HU.out] at hy; cases hy; exact HX2.out (congrArg ByteArray.toList h2.2))⟩, ⟨DB9.out.alloc _⟩, ⟨zai BX9.out _⟩, ⟨fun b => Kd.zaZ (T1.out b) _⟩, ⟨fun b => Kd.zaZ (T2.out b) _⟩⟩
        ·have hg : decide (j < 8) = false := decide_eq_false (by omega)
         have hi8 : i = 8 := by omega
         subst hi8
         have HN := zaa.mk hN
         clear hN hij hi hk hlt
         obtain ⟨hc0, hc1, hc2, hf0, hf1, hf2⟩ := DB9.out.rb.cells
         go_wp2
         refine bodyPost_ret (zba rfl _ _ w.heap.size 41 #[.bool false, .slice none 0 0, .slice none 0 0] (0, 0) _ rfl (RB.put DB9.out.rb false _ _) Tryz.underlying41 rfl (by kernel_rfl)) rfl ?_
         have hR0 : R = false := by rw [← HD.out, zj3 HN.out]
         exact ⟨_, _, _, _, _, _, _, 4, rfl, ⟨fun _ h => Bool.noConfusion (hR0.symm.trans h), fun _ => rfl⟩, za2 DB9.out.hb _ _ _⟩)
end Go.Proofs.YtioofhilohmfbaaGreatDoor
end
section
open Go Go.RowKit Go.Lib PrintWords PrintLast PrintMore YtioofhilohmfbaaGreatDoor.P
namespace Go.Proofs.YtioofhilohmfbaaGreatDoor
theorem zlq (g : Nat) (eg : ∀ args w, (callFunc g args).run Tryz.prog w = .ok (.enter g args) w) (s : ByteArray) (p : Prop) (w : World) (hn : Lib.hasPrefix s.data.toList [45] = false) (T : ∀ W, Below w.heap.size w W → Calls Tryz.prog g #[.string s] W (zeU W p)) : Calls Tryz.prog 34 #[.string s, .func (.func g) #[] #[]] w (zeU w p) := by
 have hcp : strings_CutPrefix.f s ⟨#[45]⟩ = some (s, false) := by
  unfold strings_CutPrefix.f
  have h : Lib.hasPrefix s.data.toList (⟨#[45]⟩ : ByteArray).data.toList = false := hn
  rw [h]
  congr 2
  exact ziU (by
   have : Lib.trimPrefix s.data.toList (⟨#[45]⟩ : ByteArray).data.toList = s.data.toList := by unfold Lib.trimPrefix; rw [h]; rfl
   simp [this])
 have CP := zaa.mk hcp
 have HT := zaa.mk T
 clear T hn hcp
 go_enter Tryz.func34, Tryz.ntmps34
 go_wp2_with (first
  |(go_at_call 65; (with_reducible refine (strings_CutPrefix.calls s _ _ _ _ CP.out).mono ?_); rintro e w0 ⟨rfl, hb⟩; have RB0 := zaa.mk (RB.below (RB.ziW w) hb); have HB0 := zaa.mk (zab (zam (Below.refl w.heap.size w) _) hb); clear hb)
  |(go_at_fn g; (with_reducible refine (HT.out _ HB0.out).mono ?_); rintro e w1 ⟨x, B1, n1, d1, B2, n2, d2, c, rfl, hc, hb⟩; have RB1 := zaa.mk (RB0.out.below hb); have HB := zaa.mk (zab HB0.out hb); have HC := zaa.mk hc; clear hc hb RB0 HB0)
  | ((with_reducible refine zaA (N := 7) rfl ?_); refine zaN ?hg (N := 7) ?hd (cs := #[.bool false, .slice none 0 0, .slice none 0 0]) (t := 41) ?hr ?_; (case hd => rfl); (case hg => rfl); (case hr => first | (go_simp; done) | (go_simp; rfl)); intro gb hgb w2 hbox hb; have RB2 := zaa.mk (RB1.out.below hb); have HB2 := zaa.mk (zab HB.out hb); have BX := zaa.mk hbox; have hne : gb ≠ w.heap.size := (by have := zbg RB1.out; omega); have hne2 : w.heap.size ≠ gb := Ne.symm hne; have GE := zaa.mk (show w.heap.size ≤ gb by have := zbg RB1.out; omega); clear hb hgb hbox RB1 HB; obtain ⟨hc0, hc1, hc2, hf0, hf1, hf2⟩ := RB2.out.cells; have hb0 := (zah BX.out 0); have hb1 := (zah BX.out 1); have hb2 := (zah BX.out 2); have hbf0 := zae BX.out 0; have hbf1 := zae BX.out 1; have hbf2 := zae BX.out 2; simp only [List.getElem?_toArray, List.getElem?_cons_zero, List.getElem?_cons_succ] at hb0 hb1 hb2))
 all_goals refine bodyPost_ret (zba rfl _ _ w.heap.size 41 #[.bool x, .slice B1 n1 d1, .slice B2 n2 d2] (0, 0) _ rfl (RB.put (RB.zoB RB2.out hne2 _ _ _) x _ _) Tryz.underlying41 rfl (by kernel_rfl)) rfl ?_
 all_goals first | exact ⟨_, _, _, _, _, _, _, c, rfl, HC.out, za2 (zcF HB2.out GE.out _ _ _) _ _ _⟩ | (obtain rfl : c = 0 := (by first | assumption | (exact beq_iff_eq.1 (by assumption)) | (exact zDO (by assumption))); exact ⟨_, _, _, _, _, _, _, 0, rfl, HC.out, za2 (zcF HB2.out GE.out _ _ _) _ _ _⟩)
theorem zlr (s : ByteArray) (hs : s.size ≤ 1099511627776) (ha : zcJ s.data.toList = true) (hn : Lib.hasPrefix s.data.toList [45] = false) (w : World) (hG : zaa (G w)) : Calls Tryz.prog 74 #[.string s] w (zeU w (zfW s = true)) := by
 by_cases hl : s.size ≤ 100
 ·have hp : (zfW s = true) = (zmI s = true) := by unfold zfW; rw [decide_eq_true hl, Bool.true_and]
  rw [hp]
  have HT := zaa.mk (fun W (hW : Below w.heap.size w W) => zlq 101 (enters_of Tryz.func101 (by kernel_rfl) rfl) s (zmI s = true) W hn (fun W' hW' => zii s hs ha W' ((hG.out.below hW).at hW')))
  have hg : decide ((s.size : Int) > 100) = false := decide_eq_false (by omega)
  have hg2 : decide (100 < (s.size : Int)) = false := decide_eq_false (by omega)
  clear hs ha hn hl hp
  go_enter Tryz.func74, Tryz.ntmps74
  go_wp2_with (first
   |(go_at_call 34; (with_reducible refine (HT.out _ (zam (Below.refl w.heap.size w) _)).mono ?_); rintro e w1 ⟨x, B1, n1, d1, B2, n2, d2, c, rfl, hc, hb⟩; have RB1 := zaa.mk (RB.below (RB.ziW w) hb); have HB := zaa.mk (zab (zam (Below.refl w.heap.size w) _) hb); have HC := zaa.mk hc; clear hc hb; obtain ⟨hc0, hc1, hc2, hf0, hf1, hf2⟩ := RB1.out.cells))
  refine bodyPost_ret (zba rfl _ _ w.heap.size 41 #[.bool x, .slice B1 n1 d1, .slice B2 n2 d2] (0, 0) _ rfl (RB.put RB1.out x _ _) Tryz.underlying41 rfl (by kernel_rfl)) rfl ?_
  exact ⟨_, _, _, _, _, _, _, c, rfl, HC.out, za2 HB.out _ _ _⟩
 ·have hp : ¬ (zfW s = true) := by unfold zfW; rw [decide_eq_false hl, Bool.false_and]; exact Bool.false_ne_true
  have HP := zaa.mk hp
  have hg : decide ((s.size : Int) > 100) = true := decide_eq_true (by omega)
  have hg2 : decide (100 < (s.size : Int)) = true := decide_eq_true (by omega)
  clear hs ha hn hl hp
  obtain ⟨hc0, hc1, hc2, hf0, hf1, hf2⟩ := (RB.ziW w).cells
  go_enter Tryz.func74, Tryz.ntmps74
  go_wp2
  refine bodyPost_ret (zba rfl _ _ w.heap.size 41 #[.bool false, .slice none 0 0, .slice none 0 0] (0, 0) _ rfl (RB.ziW w) Tryz.underlying41 rfl (by kernel_rfl)) rfl ?_
  exact ⟨_, _, _, _, _, _, _, 4, rfl, ⟨fun _ => HP.out, fun _ => rfl⟩, zam (Below.refl w.heap.size w) _⟩
end Go.Proofs.YtioofhilohmfbaaGreatDoor
end
section
open Go Go.RowKit PrintWords
namespace Go.Proofs.YtioofhilohmfbaaGreatDoor
def zcd (dq : Bool) : Nat → ByteArray → List UInt8 → Option (List UInt8)
 | 0, _, _ => none
 | k + 1, r, acc => if r.size = 0 then some acc else
  if ((r.data.toList.getD 0 0).toNat : Int) = (if dq = true then 34 else 96) ∨ dq = true ∧ (r.data.toList.getD 0 0).toNat = 10 then none
  else if dq = true ∧ (r.data.toList.getD 0 0).toNat = 92 then
   match zcc (r.extract 1 r.size) with
   | none => none
   | some x => zcd dq k x.2 (acc ++ x.1.data.toList)
  else zcd dq k (r.extract 1 r.size) (acc ++ [r.data.toList.getD 0 0])
def zbO (s : ByteArray) : Option (List UInt8) :=
 if s.size < 2 then none else
  if bt s 0 = bt s ((s.size : Int) - 1) then
   if bt s 0 = 34 then zcd true s.size (s.extract 1 (s.size - 1)) []
   else if bt s 0 = 96 then zcd false s.size (s.extract 1 (s.size - 1)) [] else none
  else none
def zqx : Option (List UInt8) → Value
 | none => .tuple #[.string ⟨#[]⟩, .int .i64 40]
 | some l => .tuple #[.string ⟨l.toArray⟩, .int .i64 0]
theorem zn4 (r : Int) : (⟨(Lib.encodeRune r).toArray⟩ : ByteArray).size ≤ 4 := by
 have h2 := Lib.runeCells_le r
 rw [Lib.runeCells_length] at h2
 exact h2.2
theorem zi2 {s t r : ByteArray} (h : zcc s = some (t, r)) : t.size ≤ 4 ∧ r.size < s.size := by
 have one : ∀ x : UInt8, (⟨#[x]⟩ : ByteArray).size = 1 := fun _ => rfl
 unfold zcc at h
 split at h
 ·cases h
 ·rename_i h0
  split at h
  ·cases h
   refine ⟨by rw [one]; omega, ?_⟩
   rw [ByteArray.size_extract]; omega
  ·split at h
   ·cases h
   ·split at h
    ·cases h
    ·split at h
     ·split at h
      ·cases h
       refine ⟨by rw [one]; omega, ?_⟩
       rw [ByteArray.size_extract]; omega
      ·split at h
       ·cases h
        refine ⟨?_, by rw [ByteArray.size_extract]; omega⟩
        exact zn4 _
       ·cases h
     ·cases h
theorem zet {s : ByteArray} (h : s.size = 0) : s.toList.isEmpty = true := by
 rw [← decide_eq_emptyBytes]
 exact decide_eq_true (by cases s with | mk d => cases d with | mk l => cases l with
  | nil => rfl
  | cons a l => simp [ByteArray.size] at h)
theorem zdC {s : ByteArray} (h : ¬ s.size = 0) : s.toList.isEmpty = false := by
 rw [← decide_eq_emptyBytes]
 exact decide_eq_false (fun h2 => by rw [h2] at h; exact absurd h (by decide))
theorem zfX (dq : Bool) (f : Int) (hf : f = if dq = true then 34 else 96) (k : Nat) (r : ByteArray) (acc : List UInt8) (h : 0 < r.size) :
  zcd dq (k + 1) r acc = if ((r[0]'h).toNat : Int) = f ∨ dq = true ∧ (r[0]'h).toNat = 10 then none
   else if dq = true ∧ (r[0]'h).toNat = 92 then
    match zcc (r.extract 1 r.size) with
    | none => none
    | some x => zcd dq k x.2 (acc ++ x.1.data.toList)
   else zcd dq k (r.extract 1 r.size) (acc ++ [r[0]'h]) := by
 rw [zcd, if_neg (by omega), zfz r h, hf]
theorem zij (s : ByteArray) (hs : s.size ≤ 17592186044416) (w : World) (hG : zaa (G w)) :
    Calls Tryz.prog 14 #[.string s] w fun e w' => e = .returned (zqx (zbO s)) ∧ Below w.heap.size w w' := by
  by_cases h2 : s.size < 2
  · have hr : zbO s = none := by unfold zbO; rw [if_pos h2]
    rw [hr]
    clear hr
    have c3b0 : decide ((s.size : Int) < 2) = true := decide_eq_true (by omega)
    have c3b1 : decide (s.size < 2) = true := decide_eq_true h2
    go_enter Tryz.func14, Tryz.ntmps14
    go_wp2
    go_quiet (fail)
    go_wp2
    go_ret2
    exact ⟨rfl, zbm _ _⟩
  · have c3b0 : decide ((s.size : Int) < 2) = false := decide_eq_false (by omega)
    have c3b1 : decide (s.size < 2) = false := decide_eq_false h2
    have hr : zbO s = if bt s 0 = bt s ((s.size : Int) - 1) then
      if bt s 0 = 34 then zcd true s.size (s.extract 1 (s.size - 1)) []
      else if bt s 0 = 96 then zcd false s.size (s.extract 1 (s.size - 1)) [] else none
      else none := by unfold zbO; rw [if_neg h2]
    have q5 : 0 < s.size := by omega
    have qi5 : 0 < (s.size : Int) := by omega
    have p9 : 0 ≤ (s.size : Int) - 1 := by omega
    have p9b : s.size - 1 < s.size := by omega
    have hx9 : ∀ h, ((s[((s.size : Int) - 1).toNat]'h).toNat : Int) = bt s ((s.size : Int) - 1) := zdE s ((s.size : Int) - 1)
    have hx9b : ∀ h, ((s[s.size - 1]'h).toNat : Int) = bt s ((s.size : Int) - 1) := fun h => by
      have e : ((s.size : Int) - 1).toNat = s.size - 1 := by omega
      rw [← hx9 (by omega)]
      simp only [e]
    have hx5 : ∀ h : 0 < s.size, ((s[0]'h).toNat : Int) = bt s 0 := zdE s 0
    obtain ⟨f, hf⟩ : ∃ f, f = bt s 0 := ⟨_, rfl⟩
    obtain ⟨l, hl⟩ : ∃ l, l = bt s ((s.size : Int) - 1) := ⟨_, rfl⟩
    have hl0 := zf7 s ((s.size : Int) - 1)
    have hf0 := zf7 s 0
    rw [← hf] at hr hx5 hf0
    rw [← hl] at hr hl0
    simp only [← hl] at hx9 hx9b
    clear hf hl
    by_cases hfl : f = l
    · subst hfl
      rw [if_pos rfl] at hr
      have b1 : (f != f) = false := by simp
      by_cases hm : f = 34 ∨ f = 96
      · obtain ⟨dq, hdq⟩ : ∃ dq : Bool, (f == 34) = dq := ⟨_, rfl⟩
        have hru : zbO s = zcd dq s.size (s.extract 1 (s.size - 1)) [] := by
          rw [hr]
          cases dq with
          | true => rw [if_pos (by simpa using hdq)]
          | false => rw [if_neg (by simpa using hdq), if_pos (by have : ¬ f = 34 := by simpa using hdq
                                                                 omega)]
        have hmk : f = if dq = true then 34 else 96 := by
          cases dq with
          | true => simpa using hdq
          | false => have : ¬ f = 34 := by simpa using hdq
                     rw [if_neg (by decide)]; omega
        have hdn : (f != 34) = !dq := by rw [bne, hdq]
        have hne96 : (f == 96) = !dq := by
          cases dq with
          | true => rw [hmk]; rfl
          | false => rw [hmk]; rfl
        have hn96 : dq = false → (f != 96) = false := fun h => by rw [bne, hne96, h]; rfl
        clear hr hm hne96
        obtain ⟨m, hm⟩ : ∃ m, m = zbO s := ⟨_, rfl⟩
        have hsz0 : (s.extract 1 (s.size - 1)).size = s.size - 2 := by rw [ByteArray.size_extract]; omega
        rw [← hm] at hru ⊢
        clear hm
        have HF : zaa (f = if dq = true then 34 else 96) := ⟨hmk⟩
        have HU := zaa.mk hru
        have HS0 := zaa.mk hsz0
        clear hmk hru hsz0
        have hlow : 1 ≤ (s.size : Int) - 1 := by omega
        rcases hq : dq with _ | _
        all_goals (rw [hq] at hdq hdn hn96; simp only [Bool.not_false, Bool.not_true] at hdn)
        · have hn96' := hn96 rfl
          clear hn96
          go_enter Tryz.func14, Tryz.ntmps14
          go_wp2
          go_quiet (fail)
          go_wp2
          go_quiet (fail)
          go_wp2
          go_loopg [0] s.size (fun kq v0 wr => ∃ (r : ByteArray) (acc : List UInt8), v0 = .string r ∧ zaa (r.size < kq ∧ m = zcd false kq r acc ∧ acc.length + 2 * r.size ≤ 2 * s.size) ∧ zaa (Bld w.heap.size w.heap.size acc wr) ∧ zaa (Below w.heap.size w wr))
          case atStart =>
            refine ⟨s.extract 1 (s.size - 1), [], rfl, ⟨by have := HS0.out; omega, by have := HU.out; rw [hq] at this; exact this, by have := HS0.out; simp only [List.length_nil]; omega⟩, ⟨?_⟩, ⟨?_⟩⟩
            · exact zjx (w.drewN _)
            · exact (zbm w _).alloc (by simp) _
          case round =>
            clear hx5 hx9 hx9b c3b0 c3b1 q5 qi5 p9 p9b hlow HU HS0 h2
            obtain ⟨r, acc, rfl, HS, HD, HB⟩ := hrel
            obtain ⟨hS1, hS2, hS3⟩ := HS.out
            clear HS
            obtain ⟨k1, rfl⟩ : ∃ k1, gk = k1 + 1 := ⟨gk - 1, by omega⟩
            by_cases hr0 : r.size = 0
            · have t2 := zet hr0
              have hres : m = some acc := by rw [hS2, zcd, if_pos hr0]
              clear hS2
              go_wp2_with (go_at_call 33; (with_reducible refine (zfx w.heap.size w.heap.size acc _ HD.out HB.out.size).mono ?_); rintro e w3 ⟨rfl, hd3, hb3, hk3⟩)
              go_ret2
              exact ⟨by rw [hres]; rfl, HB.out.trans hb3⟩
            · have t2 := zdC hr0
              have rp : 0 < r.size := by omega
              have rpi : 0 < (r.size : Int) := by omega
              have HE := hS2
              rw [zfX false f (by have := HF.out; rw [hq] at this; exact this) k1 r acc rp] at HE
              clear hS2
              obtain ⟨c, hc⟩ : ∃ c, c = r[0]'rp := ⟨_, rfl⟩
              have hxc : ∀ h, r[0]'h = c := fun _ => hc.symm
              rw [← hc] at HE
              clear hc
              by_cases hcm : (c.toNat : Int) = f
              · have eb1 : ((c.toNat : Int) == f) = true := beq_iff_eq.mpr hcm
                rw [if_pos (Or.inl hcm)] at HE
                have hres : m = none := HE
                clear HE hcm
                go_wp2
                go_ret2
                exact ⟨by rw [hres]; rfl, HB.out⟩
              · have eb1 : ((c.toNat : Int) == f) = false := beq_eq_false_iff_ne.mpr hcm
                rw [if_neg (by rintro (h | ⟨h, _⟩); exact hcm h; cases h)] at HE
                rw [if_neg (by rintro ⟨h, _⟩; cases h)] at HE
                have HE' : zaa (m = zcd false k1 (r.extract 1 r.size) (acc ++ [c])) := ⟨HE⟩
                clear HE
                have HL : zaa ((r.extract 1 r.size).size < k1 ∧ (acc ++ [c]).length + 2 * (r.extract 1 r.size).size ≤ 2 * s.size ∧ acc.length + 1 ≤ 140737488355328) := ⟨by
                  have hrs : (r.extract 1 r.size).size = r.size - 1 := by rw [ByteArray.size_extract]; omega
                  rw [List.length_append]
                  simp only [List.length_cons, List.length_nil]
                  omega⟩
                go_wp2_with (go_at_call 32; (with_reducible refine (zdg w.heap.size w.heap.size acc c _ HD.out HL.out.2.2 HB.out.size).mono ?_); rintro e w4 ⟨rfl, hd4, hb4, hk4⟩; have HB4 := zaa.mk (HB.out.trans hb4); have HD4 := zaa.mk hd4; clear hd4 hb4 hk4)
                go_roundg k1
                case measure => omega
                case rel => exact ⟨r.extract 1 r.size, _, rfl, ⟨HL.out.1, HE'.out, HL.out.2.1⟩, HD4, HB4⟩
        · clear hn96
          go_enter Tryz.func14, Tryz.ntmps14
          go_wp2
          go_quiet (fail)
          go_wp2
          go_quiet (fail)
          go_wp2
          go_loopg [0] s.size (fun kq v0 wr => ∃ (r : ByteArray) (acc : List UInt8), v0 = .string r ∧ zaa (r.size < kq ∧ m = zcd true kq r acc ∧ acc.length + 2 * r.size ≤ 2 * s.size) ∧ zaa (Bld w.heap.size w.heap.size acc wr) ∧ zaa (Below w.heap.size w wr))
          case atStart =>
            refine ⟨s.extract 1 (s.size - 1), [], rfl, ⟨by have := HS0.out; omega, by have := HU.out; rw [hq] at this; exact this, by have := HS0.out; simp only [List.length_nil]; omega⟩, ⟨?_⟩, ⟨?_⟩⟩
            · exact zjx (w.drewN _)
            · exact (zbm w _).alloc (by simp) _
          case round =>
            clear hx5 hx9 hx9b c3b0 c3b1 q5 qi5 p9 p9b hlow HU HS0 h2
            obtain ⟨r, acc, rfl, HS, HD, HB⟩ := hrel
            obtain ⟨hS1, hS2, hS3⟩ := HS.out
            clear HS
            obtain ⟨k1, rfl⟩ : ∃ k1, gk = k1 + 1 := ⟨gk - 1, by omega⟩
            by_cases hr0 : r.size = 0
            · have t2 := zet hr0
              have hres : m = some acc := by rw [hS2, zcd, if_pos hr0]
              clear hS2
              go_wp2_with (go_at_call 33; (with_reducible refine (zfx w.heap.size w.heap.size acc _ HD.out HB.out.size).mono ?_); rintro e w3 ⟨rfl, hd3, hb3, hk3⟩)
              go_ret2
              exact ⟨by rw [hres]; rfl, HB.out.trans hb3⟩
            · have t2 := zdC hr0
              have rp : 0 < r.size := by omega
              have rpi : 0 < (r.size : Int) := by omega
              have HE := hS2
              rw [zfX true f (by have := HF.out; rw [hq] at this; exact this) k1 r acc rp] at HE
              clear hS2
              obtain ⟨c, hc⟩ : ∃ c, c = r[0]'rp := ⟨_, rfl⟩
              have hxc : ∀ h, r[0]'h = c := fun _ => hc.symm
              rw [← hc] at HE
              clear hc
              by_cases hcm : (c.toNat : Int) = f
              · have eb1 : ((c.toNat : Int) == f) = true := beq_iff_eq.mpr hcm
                rw [if_pos (Or.inl hcm)] at HE
                have hres : m = none := HE
                clear HE hcm
                go_wp2
                go_ret2
                exact ⟨by rw [hres]; rfl, HB.out⟩
              · have eb1 : ((c.toNat : Int) == f) = false := beq_eq_false_iff_ne.mpr hcm
                by_cases hnl : c.toNat = 10
                · have eb2 : ((c.toNat : Int) == 10) = true := beq_iff_eq.mpr (by omega)
                  rw [if_pos (Or.inr ⟨rfl, hnl⟩)] at HE
                  have hres : m = none := HE
                  clear HE
                  go_wp2
                  go_ret2
                  exact ⟨by rw [hres]; rfl, HB.out⟩
                · have eb2 : ((c.toNat : Int) == 10) = false := beq_eq_false_iff_ne.mpr (by omega)
                  rw [if_neg (by rintro (h | ⟨_, h⟩); exact hcm h; exact hnl h)] at HE
                  by_cases hsl : c.toNat = 92
                  · -- an escape
                    have eb3 : ((c.toNat : Int) == 92) = true := beq_iff_eq.mpr (by omega)
                    rw [if_pos ⟨rfl, hsl⟩] at HE
                    have hrs : (r.extract 1 r.size).size = r.size - 1 := by rw [ByteArray.size_extract]; omega
                    have hrs2 : (r.extract 1 r.size).size ≤ 17592186044416 := by omega
                    rcases hesc : zcc (r.extract 1 r.size) with _ | ⟨tt, rr⟩
                    · rw [hesc] at HE
                      have hres : m = none := HE
                      have HC : ∀ W, Below w.heap.size w W → Calls Tryz.prog 30 #[.string (r.extract 1 r.size)] W fun e w' => e = .returned (.tuple #[.string ⟨#[]⟩, .string ⟨#[]⟩, .bool false]) ∧ Below W.heap.size W w' := fun W hW => by
                        have := zfQ (r.extract 1 r.size) hrs2 W ⟨hG.out.below hW⟩
                        rw [hesc] at this; exact this
                      clear HE hesc
                      go_wp2_with (go_at_call 30; (with_reducible refine (HC _ HB.out).mono ?_); rintro e w3 ⟨rfl, hb3⟩)
                      go_ret2
                      exact ⟨by rw [hres]; rfl, zab HB.out hb3⟩
                    · rw [hesc] at HE
                      have HE' : zaa (m = zcd true k1 rr (acc ++ tt.data.toList)) := ⟨HE⟩
                      obtain ⟨ht4, hrr⟩ := zi2 hesc
                      have HC : ∀ W, Below w.heap.size w W → Calls Tryz.prog 30 #[.string (r.extract 1 r.size)] W fun e w' => e = .returned (.tuple #[.string tt, .string rr, .bool true]) ∧ Below W.heap.size W w' := fun W hW => by
                        have := zfQ (r.extract 1 r.size) hrs2 W ⟨hG.out.below hW⟩
                        rw [hesc] at this; exact this
                      clear HE hesc
                      have HL : zaa (rr.size < k1 ∧ (acc ++ tt.data.toList).length + 2 * rr.size ≤ 2 * s.size ∧ acc.length + tt.size ≤ 140737488355328) := ⟨by
                        have e1 : tt.data.toList.length = tt.size := (Lib.size_eq tt).symm
                        rw [List.length_append]
                        omega⟩
                      clear ht4 hrr hrs hrs2
                      go_wp2_with (first
                        | (go_at_call 30; (with_reducible refine (HC _ HB.out).mono ?_); rintro e w3 ⟨rfl, hb3⟩; have HB3 := zaa.mk (zab HB.out hb3); have HD3 := zaa.mk (zho HD.out hb3); clear hb3)
                        | (go_at_call 31; (with_reducible refine (zdr w.heap.size w.heap.size acc tt _ HD3.out HL.out.2.2 HB3.out.size).mono ?_); rintro e w4 ⟨rfl, hd4, hb4, hk4⟩; have HB4 := zaa.mk (HB3.out.trans hb4); have HD4 := zaa.mk hd4; clear hd4 hb4 hk4))
                      go_roundg k1
                      case measure => omega
                      case rel => exact ⟨rr, _, rfl, ⟨HL.out.1, HE'.out, HL.out.2.1⟩, HD4, HB4⟩
                  · have eb3 : ((c.toNat : Int) == 92) = false := beq_eq_false_iff_ne.mpr (by omega)
                    rw [if_neg (by rintro ⟨_, h⟩; exact hsl h)] at HE
                    have HE' : zaa (m = zcd true k1 (r.extract 1 r.size) (acc ++ [c])) := ⟨HE⟩
                    clear HE
                    have HL : zaa ((r.extract 1 r.size).size < k1 ∧ (acc ++ [c]).length + 2 * (r.extract 1 r.size).size ≤ 2 * s.size ∧ acc.length + 1 ≤ 140737488355328) := ⟨by
                      have hrs : (r.extract 1 r.size).size = r.size - 1 := by rw [ByteArray.size_extract]; omega
                      rw [List.length_append]
                      simp only [List.length_cons, List.length_nil]
                      omega⟩
                    go_wp2_with (go_at_call 32; (with_reducible refine (zdg w.heap.size w.heap.size acc c _ HD.out HL.out.2.2 HB.out.size).mono ?_); rintro e w4 ⟨rfl, hd4, hb4, hk4⟩; have HB4 := zaa.mk (HB.out.trans hb4); have HD4 := zaa.mk hd4; clear hd4 hb4 hk4)
                    go_roundg k1
                    case measure => omega
                    case rel => exact ⟨r.extract 1 r.size, _, rfl, ⟨HL.out.1, HE'.out, HL.out.2.1⟩, HD4, HB4⟩
      · have hrn : zbO s = none := by rw [hr, if_neg (by omega), if_neg (by omega)]
        rw [hrn]
        have b2 : (f != 34) = true := bne_iff_ne.mpr (by omega)
        have b3 : (f != 96) = true := bne_iff_ne.mpr (by omega)
        clear hr hrn hm
        go_enter Tryz.func14, Tryz.ntmps14
        go_wp2
        go_quiet (fail)
        go_wp2
        go_ret2
        exact ⟨rfl, zbm _ _⟩
    · have b1 : (f != l) = true := bne_iff_ne.mpr hfl
      rw [if_neg hfl] at hr
      rw [hr]
      clear hr hfl
      go_enter Tryz.func14, Tryz.ntmps14
      go_wp2
      go_quiet (fail)
      go_wp2
      go_ret2
      exact ⟨rfl, zbm _ _⟩
end Go.Proofs.YtioofhilohmfbaaGreatDoor
namespace Go.Proofs.YtioofhilohmfbaaGreatDoor.P
open Go Go.RowKit Go.Proofs.YtioofhilohmfbaaGreatDoorW.PrintWords
def zqY : Option (List UInt8) → ByteArray × Int
 | none => (⟨#[]⟩, 40)
 | some l => (⟨l.toArray⟩, 0)
def zcr.f (a0 : ByteArray) : Option (ByteArray × Int) := if a0.size ≤ 17592186044416 then some (zqY (zbO a0)) else none
theorem zcr.calls (a0 : ByteArray) (r1 : ByteArray) (r2 : Int) (w : World) (hG : zaa (G w)) (h : zcr.f a0 = some (r1, r2)) :
  Calls Tryz.prog 14 #[.string a0] w fun e w' => e = .returned (.tuple #[.string r1, .int .i64 r2]) ∧ Below w.heap.size w w' := by
 unfold zcr.f at h
 split at h
 ·rename_i hs
  have := zij a0 hs w hG
  revert h this
  cases zbO a0 with
  | none => intro h this; cases h; exact this
  | some l => intro h this; cases h; exact this
 ·cases h
end Go.Proofs.YtioofhilohmfbaaGreatDoor.P
end
section
open Go Go.RowKit Go.Lib PrintWords PrintLast PrintMore YtioofhilohmfbaaGreatDoor.P
namespace Go.Proofs.YtioofhilohmfbaaGreatDoor
abbrev mkB (l : List UInt8) : ByteArray := ⟨l.toArray⟩
def zd5 (c : UInt8) : Bool := decide (97 ≤ c.toNat ∧ c.toNat ≤ 122) || decide (65 ≤ c.toNat ∧ c.toNat ≤ 90) || c.toNat == 95
def zj5 (c : UInt8) : Bool := decide (48 ≤ c.toNat ∧ c.toNat ≤ 57)
def zdK (own : ByteArray) : Int := if (zhg own).2.2.2 ≠ 4 then 3 else if zfW own = true then 4 else if zhK own = true then 5 else 0
def zbW (q : UInt8) : List UInt8 → Option Nat
 | [] => none
 | [c] => if c = q then some 1 else none
 | c :: d :: t => if c = q then some 1 else if c = 92 ∧ q ≠ 96 then (zbW q t).map (· + 2) else (zbW q (d :: t)).map (· + 1)
def zeW (l : List UInt8) : Option ByteArray := zcx.find? fun x => Lib.hasPrefix l x.data.toList
def zb4 (l : List UInt8) : Int × ByteArray × Nat × Bool :=
 if l = [] then (0, ⟨#[]⟩, 0, false)
 else if zd5 (l.headD 0) = true then (1, mkB (l.take (runN zdj l)), runN zdj l, true)
 else if zj5 (l.headD 0) = true then (zdK (mkB (l.take (runN zfV l))), mkB (l.take (runN zfV l)), runN zfV l, zdK (mkB (l.take (runN zfV l))) != 0)
 else if l.headD 0 = 34 ∨ l.headD 0 = 96 then
  match zbW (l.headD 0) l.tail with
  | none => (2, ⟨#[]⟩, 0, false)
  | some j => (2, (zbO (mkB (l.take (j + 1)))).elim ⟨#[]⟩ mkB, j + 1, (zbO (mkB (l.take (j + 1)))).isSome)
 else match zeW l with
  | none => (0, ⟨#[]⟩, 0, false)
  | some x => (6, x, x.size, true)
theorem zik (p : UInt8 → Bool) : ∀ (l r : List UInt8), runN p l < l.length → runN p (l ++ r) = runN p l
 | [], r, h => absurd h (by simp)
 | c :: t, r, h => by
  rw [List.cons_append, runN, runN]
  rw [runN, List.length_cons] at h
  split
  ·next hc =>
   rw [if_pos hc] at h
   rw [zik p t r (by omega)]
  ·rfl
theorem zil (p : UInt8 → Bool) : ∀ (l : List UInt8), ∀ c ∈ l.take (runN p l), p c = true
 | [], c, h => by rw [List.take_nil] at h; cases h
 | d :: t, c, h => by
  rw [runN] at h
  split at h
  ·next hc =>
   rw [Nat.add_comm, List.take_succ_cons, List.mem_cons] at h
   rcases h with rfl | h
   ·exact hc
   ·exact zil p t c h
  ·cases h
theorem zfI (p : UInt8 → Bool) : ∀ (l : List UInt8) (b : UInt8) (r : List UInt8), (∀ c ∈ l, p c = true) → p b = false → runN p (l ++ b :: r) = l.length
 | [], b, r, _, hb => by rw [List.nil_append, runN, hb, if_neg Bool.false_ne_true]; rfl
 | c :: t, b, r, h, hb => by
  rw [List.cons_append, runN, if_pos (h c (by simp)), zfI p t b r (fun d hd => h d (by simp [hd])) hb, List.length_cons]
  omega
theorem zkF {p : UInt8 → Bool} {l : List UInt8} (h0 : l ≠ []) (h : p (l.headD 0) = true) : 0 < runN p l := by
 cases l with
 | nil => exact absurd rfl h0
 | cons c t => rw [runN, if_pos (show p c = true from h)]; omega
theorem zmK {c : UInt8} (h : zd5 c = true) : zdj c = true := by
 unfold zd5 at h
 unfold zdj
 rw [h, Bool.true_or]
theorem zpH {c : UInt8} (h : zj5 c = true) : zfV c = true := by
 unfold zj5 at h
 unfold zfV zdj
 rw [h, Bool.or_true, Bool.true_or]
theorem zeF (q c : UInt8) (t : List UInt8) (h : ¬ (c = 92 ∧ q ≠ 96)) : zbW q (c :: t) = if c = q then some 1 else (zbW q t).map (· + 1) := by
 cases t with
 | nil => rw [zbW]; rfl
 | cons d t => rw [zbW, if_neg h]
theorem zgQ (q : UInt8) (t : List UInt8) (hq : q ≠ 96) (h92 : q ≠ 92) : zbW q (92 :: t) = (zbW q (t.drop 1)).map (· + 2) := by
 cases t with
 | nil => rw [zbW, if_neg (fun h => h92 h.symm)]; rfl
 | cons d t => rw [zbW, if_neg (fun h => h92 h.symm), if_pos ⟨rfl, hq⟩]; rfl
theorem zgf (q : UInt8) : ∀ (l : List UInt8) (j : Nat), zbW q l = some j → 1 ≤ j ∧ j ≤ l.length ∧ (l.take j).getLast? = some q
 | [], j, h => by cases h
 | [c], j, h => by
  rw [zbW] at h
  split at h
  ·next hc =>
   cases h
   subst hc
   exact ⟨Nat.le_refl 1, Nat.le_refl 1, rfl⟩
  ·cases h
 | c :: d :: t, j, h => by
  rw [zbW] at h
  split at h
  ·next hc =>
   cases h
   subst hc
   exact ⟨Nat.le_refl 1, by simp, rfl⟩
  ·split at h
   ·cases hr : zbW q t with
    | none => rw [hr] at h; cases h
    | some i =>
     rw [hr] at h
     simp only [Option.map_some, Option.some.injEq] at h
     subst h
     obtain ⟨a, b, e⟩ := zgf q t i hr
     refine ⟨by omega, by simp; omega, ?_⟩
     rw [List.take_succ_cons, List.take_succ_cons]
     cases hx : t.take i with
     | nil => rw [hx] at e; cases e
     | cons y ys => rw [hx] at e; simpa using e
   ·cases hr : zbW q (d :: t) with
    | none => rw [hr] at h; cases h
    | some i =>
     rw [hr] at h
     simp only [Option.map_some, Option.some.injEq] at h
     subst h
     obtain ⟨a, b, e⟩ := zgf q (d :: t) i hr
     refine ⟨by omega, by simp only [List.length_cons] at b ⊢; omega, ?_⟩
     rw [List.take_succ_cons]
     cases hx : (d :: t).take i with
     | nil => rw [hx] at e; cases e
     | cons y ys => rw [hx] at e; simpa using e
theorem zmL (q : UInt8) (l r : List UInt8) (j : Nat) (h : zbW q l = some j) : zbW q (l ++ r) = some j := by
 induction l using zbW.induct q generalizing j with
 | case1 => cases h
 | case2 =>
  rw [zbW, if_pos rfl] at h
  cases r with
  | nil => rw [List.append_nil, zbW, if_pos rfl]; exact h
  | cons d r => rw [List.cons_append, List.nil_append, zbW, if_pos rfl]; exact h
 | case3 c hc => rw [zbW, if_neg hc] at h; cases h
 | case4 d t =>
  rw [zbW, if_pos rfl] at h
  rw [List.cons_append, List.cons_append, zbW, if_pos rfl]
  exact h
 | case5 c d t hc hs ih =>
  rw [zbW, if_neg hc, if_pos hs] at h
  rw [List.cons_append, List.cons_append, zbW, if_neg hc, if_pos hs]
  cases hr : zbW q t with
  | none => rw [hr] at h; cases h
  | some i => rw [ih i hr]; rw [hr] at h; exact h
 | case6 c d t hc hs ih =>
  rw [zbW, if_neg hc, if_neg hs] at h
  rw [List.cons_append, List.cons_append, zbW, if_neg hc, if_neg hs]
  cases hr : zbW q (d :: t) with
  | none => rw [hr] at h; cases h
  | some i => rw [← List.cons_append, ih i hr]; rw [hr] at h; exact h
theorem zgR (l p : List UInt8) : Lib.hasPrefix l p = true ↔ p <+: l := by
 rw [← List.isPrefixOf_iff_prefix]
 rfl
theorem zn5 {l p : List UInt8} {m : Nat} (hm : p.length ≤ m) (h : p <+: l) : p <+: l.take m := by
 obtain ⟨r, rfl⟩ := h
 rw [List.take_append, List.take_of_length_le hm]
 exact ⟨_, rfl⟩
theorem zgS : ∀ x ∈ zcx, 1 ≤ x.size ∧ x.size ≤ 2 ∧ x.data.toList.all (fun c => !zbA c) = true := by decide +kernel
theorem zfJ {l : List UInt8} {x : ByteArray} (h : zeW l = some x) : x ∈ zcx ∧ x.data.toList <+: l ∧ ∃ us bs, zcx = us ++ x :: bs ∧ ∀ y ∈ us, ¬ y.data.toList <+: l := by
 unfold zeW at h
 obtain ⟨h1, us, bs, h2, h3⟩ := List.find?_eq_some_iff_append.1 h
 refine ⟨by rw [h2]; simp, (zgR _ _).1 h1, us, bs, h2, fun y hy hp => ?_⟩
 have := h3 y hy
 rw [(zgR _ _).2 hp] at this
 exact absurd this (by decide)
theorem zpI {l : List UInt8} {x : ByteArray} (h : x.data.toList <+: l) {us bs : List ByteArray} (h2 : zcx = us ++ x :: bs) (h3 : ∀ y ∈ us, ¬ y.data.toList <+: l) : zeW l = some x := by
 unfold zeW
 refine List.find?_eq_some_iff_append.2 ⟨(zgR _ _).2 h, us, bs, h2, fun y hy => ?_⟩
 cases hb : Lib.hasPrefix l y.data.toList with
 | false => rfl
 | true => exact absurd ((zgR _ _).1 hb) (h3 y hy)
theorem zmM {p r : List UInt8} {x : ByteArray} (hp : 2 ≤ p.length) (h : zeW p = some x) : zeW (p ++ r) = some x := by
 obtain ⟨h1, h2, us, bs, h3, h4⟩ := zfJ h
 refine zpI (h2.trans ⟨r, rfl⟩) h3 (fun y hy hq => h4 y hy ?_)
 have hl := (zgS y (by rw [h3]; simp [hy])).2.1
 rw [Lib.size_eq] at hl
 have := zn5 (m := p.length) (by omega) hq
 rwa [List.take_left] at this
theorem zls {p : List UInt8} {b : UInt8} {n : Nat} {k : Int} {x : ByteArray} (h : zb4 (p ++ [b]) = (k, x, n, true)) (hn : n ≤ p.length) (h0 : p ≠ []) (r : List UInt8) : zb4 (p ++ b :: r) = (k, x, n, true) := by
 have e : p ++ b :: r = (p ++ [b]) ++ r := by simp
 have hlen : (p ++ [b]).length = p.length + 1 := by simp
 have hp1 : 1 ≤ p.length := by cases p with | nil => exact absurd rfl h0 | cons c t => simp
 rw [e]
 generalize hL : p ++ [b] = l at h hlen ⊢
 clear e hL
 unfold zb4 at h ⊢
 have hl : l ≠ [] := by intro e; rw [e] at hlen; simp at hlen
 have hl2 : l ++ r ≠ [] := by simp [hl]
 have hh : (l ++ r).headD 0 = l.headD 0 := by
  cases l with
  | nil => exact absurd rfl hl
  | cons c t => rfl
 have ht : (l ++ r).tail = l.tail ++ r := by
  cases l with
  | nil => exact absurd rfl hl
  | cons c t => rfl
 have htk : ∀ i, i ≤ l.length → (l ++ r).take i = l.take i := fun i hi => List.take_append_of_le_length hi
 rw [if_neg hl] at h
 rw [if_neg hl2, hh, ht]
 by_cases hw : zd5 (l.headD 0) = true
 ·rw [if_pos hw] at h ⊢
  injection h with e1 h
  injection h with e2 h
  injection h with e3 e4
  rw [zik _ _ _ (by omega), htk _ (by omega), e1, e2, e3]
 rw [if_neg hw] at h ⊢
 by_cases hd : zj5 (l.headD 0) = true
 ·rw [if_pos hd] at h ⊢
  injection h with e1 h
  injection h with e2 h
  injection h with e3 e4
  rw [zik _ _ _ (by omega), htk _ (by omega), e4, e1, e2, e3]
 rw [if_neg hd] at h ⊢
 by_cases hq : l.headD 0 = 34 ∨ l.headD 0 = 96
 ·rw [if_pos hq] at h ⊢
  cases hr : zbW (l.headD 0) l.tail with
  | none => rw [hr] at h; cases h
  | some j =>
   rw [hr] at h
   simp only at h
   injection h with e1 h
   injection h with e2 h
   injection h with e3 e4
   rw [zmL _ _ r j hr]
   simp only
   rw [htk _ (by omega), e2, e4, e3, e1]
 rw [if_neg hq] at h ⊢
 cases hs : zeW l with
 | none => rw [hs] at h; cases h
 | some y =>
  rw [hs] at h
  simp only at h
  injection h with e1 h
  injection h with e2 h
  injection h with e3 e4
  rw [zmM (by omega) hs]
  simp only
  rw [e1, e3, e2]
theorem zlt : ∀ c : Fin 256, zfV (UInt8.ofNat c.val) = true → c.val < 128 ∧ c.val ≠ 45 ∧ zbA (UInt8.ofNat c.val) = false := by decide +kernel
theorem zfj (c : UInt8) (h : zfV c = true) : c.toNat < 128 ∧ c.toNat ≠ 45 ∧ zbA c = false := by
 have := zlt ⟨c.toNat, c.toNat_lt⟩
 simp only [UInt8.ofNat_toNat] at this
 exact this h
structure zqZ (l : List UInt8) (k : Int) (x : ByteArray) (n : Nat) : Prop where
 pos : 0 < n
 le : n ≤ l.length
 last : ∀ b, l[n - 1]? = some b → zbA b = false
 kind : 1 ≤ k ∧ k ≤ 6
 text : k = 2 → zbO (mkB (l.take n)) = some x.data.toList
 own : k ≠ 2 → x = mkB (l.take n)
 num : k = 3 → (zhg (mkB (l.take n))).2.2.2 ≠ 4 ∧ ∀ c ∈ l.take n, zfV c = true
theorem zkG {p : UInt8 → Bool} {l : List UInt8} (hp : ∀ c, p c = true → zbA c = false) (h : 0 < runN p l) : ∀ b, l[runN p l - 1]? = some b → zbA b = false := fun b hb => by
 refine hp b (zil p l b ?_)
 have h2 : (l.take (runN p l))[runN p l - 1]? = some b := by rw [List.getElem?_take_of_lt (by omega)]; exact hb
 exact List.mem_of_getElem? h2
theorem zn6 {c : UInt8} (h : zdj c = true) : zfV c = true := by
 unfold zfV
 rw [h, Bool.true_or]
theorem zj6 (s : ByteArray) : (zdK s = 3 ∧ (zhg s).2.2.2 ≠ 4) ∨ zdK s = 4 ∨ zdK s = 5 ∨ zdK s = 0 := by
 unfold zdK
 split
 ·next h => exact .inl ⟨rfl, h⟩
 ·split
  ·exact .inr (.inl rfl)
  ·split
   ·exact .inr (.inr (.inl rfl))
   ·exact .inr (.inr (.inr rfl))
theorem zi3 {l : List UInt8} {n : Nat} {k : Int} {x : ByteArray} (h : zb4 l = (k, x, n, true)) : zqZ l k x n := by
 unfold zb4 at h
 by_cases hl : l = []
 ·rw [if_pos hl] at h; cases h
 rw [if_neg hl] at h
 by_cases hw : zd5 (l.headD 0) = true
 ·rw [if_pos hw] at h
  injection h with e1 h
  injection h with e2 h
  injection h with e3 e4
  have hpos := zkF (p := zdj) hl (zmK hw)
  subst e1 e2 e3
  exact ⟨hpos, zdc _ _, zkG (fun c hc => (zfj c (zn6 hc)).2.2) hpos, by decide, fun h => absurd h (by decide), fun _ => rfl, fun h => absurd h (by decide)⟩
 rw [if_neg hw] at h
 by_cases hd : zj5 (l.headD 0) = true
 ·rw [if_pos hd] at h
  injection h with e1 h
  injection h with e2 h
  injection h with e3 e4
  have hpos := zkF (p := zfV) hl (zpH hd)
  subst e2 e3
  have hk : zdK (mkB (l.take (runN zfV l))) ≠ 0 := bne_iff_ne.1 e4
  rw [e1] at hk
  have hc := zj6 (mkB (l.take (runN zfV l)))
  rw [e1] at hc
  refine ⟨hpos, zdc _ _, zkG (fun c hc => (zfj c hc).2.2) hpos, ?_, fun h => ?_, fun _ => rfl, fun h => ⟨?_, zil _ _⟩⟩
  ·omega
  ·omega
  ·rcases hc with hc | hc | hc | hc
   ·exact hc.2
   ·omega
   ·omega
   ·omega
 rw [if_neg hd] at h
 by_cases hq : l.headD 0 = 34 ∨ l.headD 0 = 96
 ·rw [if_pos hq] at h
  cases hr : zbW (l.headD 0) l.tail with
  | none => rw [hr] at h; cases h
  | some j =>
   rw [hr] at h
   simp only at h
   injection h with e1 h
   injection h with e2 h
   injection h with e3 e4
   obtain ⟨a, b, e⟩ := zgf _ _ j hr
   obtain ⟨c, t, rfl⟩ : ∃ c t, l = c :: t := by
    cases l with
    | nil => exact absurd rfl hl
    | cons c t => exact ⟨c, t, rfl⟩
   subst e1 e3
   simp only [List.headD_cons, List.tail_cons] at hq a b e hr
   refine ⟨by omega, by simp only [List.length_cons]; omega, fun y hy => ?_, by decide, fun _ => ?_, fun h => absurd rfl h, fun h => absurd h (by decide)⟩
   ·have h2 : t[j - 1]? = some y := by
     have e : j + 1 - 1 = (j - 1) + 1 := by omega
     rw [e, List.getElem?_cons_succ] at hy
     exact hy
    have h3 : (t.take j).getLast? = some y := by
     rw [List.getLast?_eq_getElem?, List.length_take, Nat.min_eq_left b, List.getElem?_take_of_lt (by omega)]
     exact h2
    rw [e] at h3
    cases h3
    rcases hq with rfl | rfl
    ·decide
    ·decide
   ·cases hu : zbO (mkB ((c :: t).take (j + 1))) with
    | none => rw [hu] at e4; cases e4
    | some y =>
     rw [hu] at e2
     rw [← e2]
     rfl
 rw [if_neg hq] at h
 cases hs : zeW l with
 | none => rw [hs] at h; cases h
 | some y =>
  rw [hs] at h
  simp only at h
  injection h with e1 h
  injection h with e2 h
  injection h with e3 e4
  obtain ⟨h1, ⟨r, h2⟩, _⟩ := zfJ hs
  obtain ⟨g1, g2, g3⟩ := zgS y h1
  subst e1 e2 e3
  have hsz := Lib.size_eq y
  have htk : l.take y.size = y.data.toList := by rw [← h2, hsz, List.take_left]
  refine ⟨by omega, by rw [← h2, List.length_append]; omega, fun b hb => ?_, by decide, fun h => absurd h (by decide), fun _ => ?_, fun h => absurd h (by decide)⟩
  ·have h4 : (l.take y.size)[y.size - 1]? = some b := by rw [List.getElem?_take_of_lt (by omega)]; exact hb
   rw [htk] at h4
   have := List.all_eq_true.1 g3 b (List.mem_of_getElem? h4)
   simpa using this
  ·rw [htk]
theorem zpJ (s : ByteArray) (hs : s.size ≤ 1099511627776) (ha : zcJ s.data.toList = true) (hn : Lib.hasPrefix s.data.toList [45] = false) (w : World) : Calls Tryz.prog 15 #[.string s] w (zeU w ((zhg s).2.2.2 ≠ 4)) :=
 (ziZ s hs ha hn w).mono fun e w' ⟨v1, v2, he, h1, h2, hb⟩ => by
  obtain ⟨B1, d1, f1⟩ := Kd.zaC h1
  subst f1
  obtain ⟨B2, d2, f2⟩ := Kd.zaC h2
  subst f2
  exact ⟨_, _, _, _, _, _, _, _, he, ⟨fun h hc => hc h, fun h => Classical.byContradiction h⟩, hb⟩
theorem zhh (s : ByteArray) (hs : s.size ≤ 1099511627776) (ha : zcJ s.data.toList = true) (hn : Lib.hasPrefix s.data.toList [45] = false) (w : World) (hG : zaa (G w)) : Calls Tryz.prog 49 #[.string s] w fun e w' => e = .returned (.tuple #[.int .i64 (zdK s), .bool (zdK s != 0)]) ∧ Below w.heap.size w w' := by
 have CN := zaa.mk (fun W => zpJ s hs ha hn W)
 have CT := zaa.mk (fun W (hW : Below w.heap.size w W) => zlr s hs ha hn W (hG.out.at hW))
 have CS := zaa.mk (fun W (hW : Below w.heap.size w W) => zln s hs ha W (hG.out.at hW))
 clear hs ha hn hG
 have HB0 := zaa.mk (Below.refl w.heap.size w)
 go_enter Tryz.func49, Tryz.ntmps49
 go_wp2
 go_loopg [10] 4 (fun kq v10 wr => ∃ (j : Int), v10 = .int .i64 j ∧ zaa (∃ i : Nat, j = (i : Int) ∧ i ≤ 3 ∧ 3 < kq + i ∧ (0 < i → ¬ (zhg s).2.2.2 ≠ 4) ∧ (1 < i → ¬ zfW s = true) ∧ (2 < i → ¬ zhK s = true)) ∧ zaa (∃ T, wr.heap[w.heap.size]? = some (.cells #[.func (.func 15) #[] #[], .func (.func 74) #[] #[], .func (.func 75) #[] #[]] T (0, 0))) ∧ zaa (Below w.heap.size w wr))
 case atStart => exact ⟨0, rfl, ⟨0, rfl, Nat.zero_le _, by omega, fun h => absurd h (by decide), fun h => absurd h (by decide), fun h => absurd h (by decide)⟩, ⟨_, zcv w _⟩, ⟨zam HB0.out _⟩⟩
 case round =>
  obtain ⟨j, rfl, ⟨i, hij, hi, hk, z0, z1, z2⟩, ⟨T, hBK⟩, HB⟩ := hrel
  have BK := zaa.mk hBK
  have hcell0 := zah hBK 0
  have hcell1 := zah hBK 1
  have hcell2 := zah hBK 2
  simp only [List.getElem?_toArray, List.getElem?_cons_zero, List.getElem?_cons_succ] at hcell0 hcell1 hcell2
  clear hBK
  obtain ⟨kq, rfl⟩ : ∃ kq, gk = kq + 1 := ⟨gk - 1, by omega⟩
  have HJ : zaa (3 < kq + 1 + i) := ⟨hk⟩
  have Z0 := zaa.mk z0
  have Z1 := zaa.mk z1
  have Z2 := zaa.mk z2
  obtain h0 | h0 | h0 | h0 : i = 0 ∨ i = 1 ∨ i = 2 ∨ i = 3 := by omega
  ·subst h0
   obtain rfl : j = 0 := hij
   clear hi hk z0 z1 z2
   by_cases hp : (zhg s).2.2.2 ≠ 4
   ·have HP := zaa.mk hp
    have HK := zaa.mk (show zdK s = 3 by unfold zdK; rw [if_pos hp])
    clear hp
    go_wp2_with ((first | go_at_call 15 | go_at_fn 15); (with_reducible refine (CN.out _).mono ?_); rintro e w1 ⟨x, B1, n1, d1, B2, n2, d2, c, rfl, hc, hb⟩; have BK1 := zaa.mk (zak BK.out hb); have HB1 := zaa.mk (zab HB.out hb); have hce : (c == 4) = false := beq_eq_false_iff_ne.2 (fun h => hc.1 h HP.out); have hcn : (c != 4) = true := bne_iff_ne.2 (fun h => hc.1 h HP.out); clear hc hb)
    go_ret2
    exact ⟨by rw [HK.out]; rfl, zam HB1.out _⟩
   ·have HP := zaa.mk hp
    clear hp
    go_wp2_with ((first | go_at_call 15 | go_at_fn 15); (with_reducible refine (CN.out _).mono ?_); rintro e w1 ⟨x, B1, n1, d1, B2, n2, d2, c, rfl, hc, hb⟩; have BK1 := zaa.mk (zak BK.out hb); have HB1 := zaa.mk (zab HB.out hb); have hce : (c == 4) = true := beq_iff_eq.2 (hc.2 HP.out); have hcn : (c != 4) = false := (by rw [bne_eq_false_iff_eq]; exact hc.2 HP.out); clear hc hb)
    go_roundg kq
    all_goals first | exact Nat.le_refl _ | exact ⟨_, rfl, ⟨1, by first | rfl | decide, by decide, by have := HJ.out; omega, fun _ => HP.out, fun h => absurd h (by decide), fun h => absurd h (by decide)⟩, ⟨_, zai BK1.out _⟩, ⟨zam HB1.out _⟩⟩
  ·subst h0
   obtain rfl : j = 1 := hij
   clear hi hk z0 z1 z2
   by_cases hp : zfW s = true
   ·have HP := zaa.mk hp
    have HK := zaa.mk (show zdK s = 4 by unfold zdK; rw [if_neg (Z0.out (by decide)), if_pos hp])
    clear hp
    go_wp2_with ((first | go_at_call 74 | go_at_fn 74); (with_reducible refine (CT.out _ HB.out).mono ?_); rintro e w1 ⟨x, B1, n1, d1, B2, n2, d2, c, rfl, hc, hb⟩; have BK1 := zaa.mk (zak BK.out hb); have HB1 := zaa.mk (zab HB.out hb); have hce : (c == 4) = false := beq_eq_false_iff_ne.2 (fun h => hc.1 h HP.out); have hcn : (c != 4) = true := bne_iff_ne.2 (fun h => hc.1 h HP.out); clear hc hb)
    go_ret2
    exact ⟨by rw [HK.out]; rfl, zam HB1.out _⟩
   ·have HP := zaa.mk hp
    clear hp
    go_wp2_with ((first | go_at_call 74 | go_at_fn 74); (with_reducible refine (CT.out _ HB.out).mono ?_); rintro e w1 ⟨x, B1, n1, d1, B2, n2, d2, c, rfl, hc, hb⟩; have BK1 := zaa.mk (zak BK.out hb); have HB1 := zaa.mk (zab HB.out hb); have hce : (c == 4) = true := beq_iff_eq.2 (hc.2 HP.out); have hcn : (c != 4) = false := (by rw [bne_eq_false_iff_eq]; exact hc.2 HP.out); clear hc hb)
    go_roundg kq
    all_goals first | exact Nat.le_refl _ | exact ⟨_, rfl, ⟨2, by first | rfl | decide, by decide, by have := HJ.out; omega, fun _ => Z0.out (by decide), fun _ => HP.out, fun h => absurd h (by decide)⟩, ⟨_, zai BK1.out _⟩, ⟨zam HB1.out _⟩⟩
  ·subst h0
   obtain rfl : j = 2 := hij
   clear hi hk z0 z1 z2
   by_cases hp : zhK s = true
   ·have HP := zaa.mk hp
    have HK := zaa.mk (show zdK s = 5 by unfold zdK; rw [if_neg (Z0.out (by decide)), if_neg (Z1.out (by decide)), if_pos hp])
    clear hp
    go_wp2_with ((first | go_at_call 75 | go_at_fn 75); (with_reducible refine (CS.out _ HB.out).mono ?_); rintro e w1 ⟨x, B1, n1, d1, B2, n2, d2, c, rfl, hc, hb⟩; have BK1 := zaa.mk (zak BK.out hb); have HB1 := zaa.mk (zab HB.out hb); have hce : (c == 4) = false := beq_eq_false_iff_ne.2 (fun h => hc.1 h HP.out); have hcn : (c != 4) = true := bne_iff_ne.2 (fun h => hc.1 h HP.out); clear hc hb)
    go_ret2
    exact ⟨by rw [HK.out]; rfl, zam HB1.out _⟩
   ·have HP := zaa.mk hp
    clear hp
    go_wp2_with ((first | go_at_call 75 | go_at_fn 75); (with_reducible refine (CS.out _ HB.out).mono ?_); rintro e w1 ⟨x, B1, n1, d1, B2, n2, d2, c, rfl, hc, hb⟩; have BK1 := zaa.mk (zak BK.out hb); have HB1 := zaa.mk (zab HB.out hb); have hce : (c == 4) = true := beq_iff_eq.2 (hc.2 HP.out); have hcn : (c != 4) = false := (by rw [bne_eq_false_iff_eq]; exact hc.2 HP.out); clear hc hb)
    go_roundg kq
    all_goals first | exact Nat.le_refl _ | exact ⟨_, rfl, ⟨3, by first | rfl | decide, by decide, by have := HJ.out; omega, fun _ => Z0.out (by decide), fun _ => Z1.out (by decide), fun _ => HP.out⟩, ⟨_, zai BK1.out _⟩, ⟨zam HB1.out _⟩⟩
  ·subst h0
   obtain rfl : j = 3 := hij
   have HK := zaa.mk (show zdK s = 0 by unfold zdK; rw [if_neg (z0 (by decide)), if_neg (z1 (by decide)), if_neg (z2 (by decide))])
   clear hi hk z0 z1 z2
   go_wp2
   go_ret2
   exact ⟨by rw [HK.out]; rfl, HB.out⟩
end Go.Proofs.YtioofhilohmfbaaGreatDoor
end
section
open Go.RowKit PrintWords PrintLast PrintMore
namespace Go.Proofs.YtioofhilohmfbaaGreatDoor.P
attribute [local go_sem] za3 za4 zbh zbi zaT zaU za5 za6 zbn
def zbd.l0 : Nat → ByteArray → Int → Option (ByteArray × Bool)
 | 0, _, _ => none
 | k + 1, x0, x4 => if x4 < (x0.size : Int) then (if 0 ≤ x4 then (if 0 < (x0.size : Int) then (if (bt x0 x4) = (bt x0 0) then (if 0 ≤ (wrap64 (x4 + 1)) then (if (wrap64 (x4 + 1)) ≤ (x0.size : Int) then (some (x0.extract 0 ((wrap64 (x4 + 1)) : Int).toNat, true)) else (none)) else (none)) else (if (bt x0 x4) = 92 then (if (bt x0 0) = 96 then (zbd.l0 k x0 (wrap64 (x4 + 1))) else (zbd.l0 k x0 (wrap64 ((wrap64 (x4 + 1)) + 1)))) else (zbd.l0 k x0 (wrap64 (x4 + 1))))) else (none)) else (none)) else (some ((⟨#[]⟩ : ByteArray), false))
def zbd.f (k : Nat) (a0 : ByteArray) : Option (ByteArray × Bool) := zbd.l0 k a0 1
theorem zbd.zbp : ∀ k, (∀ y0 y1, LeO (zbd.l0 k y0 y1) (zbd.l0 (k + 1) y0 y1))
 | 0 => fun _ _ r h => by simp [zbd.l0] at h
 | k + 1 => by
  have ih0 := zbd.zbp k
  ·intro y0 y1
   unfold zbd.l0
   repeat' with_reducible first | exact ih0 _ _ | exact LeO.refl _ | exact LeO.none _ | refine LeO.ite ?_ ?_ | refine LeO.bind ?_ (fun _ => ?_)
theorem zbd.mono : ∀ a0 k, LeO (zbd.f k a0) (zbd.f (k + 1) a0) := by
 intro a0 k
 have ih0 := zbd.zbp k
 unfold zbd.f
 repeat' with_reducible first | exact ih0 _ _ | exact LeO.refl _ | exact LeO.none _ | refine LeO.ite ?_ ?_ | refine LeO.bind ?_ (fun _ => ?_)
theorem zbd.calls (k : Nat) (a0 : ByteArray) (r1 : ByteArray) (r2 : Bool) (w : World) (h : zbd.f k a0 = some (r1, r2)) :
  Calls Tryz.prog 50 #[.string a0] w fun e w' => e = .returned (.tuple #[.string r1, .bool r2]) ∧ zaO w w' := by
 have H : (zbd.l0 k a0 1) = some (r1, r2) := h
 clear h
 have H' := zaa.mk H
 clear H
 go_enter Tryz.func50, Tryz.ntmps50
 go_wp2
 go_loopg [4] k (fun kq v4 w' => ∃ (x4_1 : Int), v4 = .int .i64 x4_1 ∧ zaa (zbd.l0 kq a0 x4_1 = some (r1, r2)) ∧ zaa (kq ≤ k) ∧ zaO w w')
 case atStart => exact ⟨(1), rs, H', ⟨Nat.le_refl _⟩, by repeat (first | exact zaO.refl _ | apply zaO.step)⟩
 case round =>
  clear H'
  obtain ⟨x4_1, rfl, HA, HK1, ⟨m1, rfl⟩⟩ := hrel
  cases gk with
  | zero => exact absurd HA.out (by simp [zbd.l0])
  | succ k1 =>
   have H := HA.out
   clear HA
   simp only [zbd.l0] at H
   by_cases c2 : x4_1 < (a0.size : Int)
   ·rw [if_pos c2] at H
    have c2b0 : decide (x4_1 < (a0.size : Int)) = true := zDT c2
    clear c2
    by_cases c3 : 0 ≤ x4_1
    ·rw [if_pos c3] at H
     have c3b0 : decide (0 ≤ x4_1) = true := zDT c3
     clear c3
     by_cases c5 : 0 < (a0.size : Int)
     ·rw [if_pos c5] at H
      have c5b0 : decide (0 < (a0.size : Int)) = true := zDT c5
      have c5b1 : decide (0 < a0.size) = true := decide_eq_true (by omega)
      clear c5
      by_cases c7 : (bt a0 x4_1) = (bt a0 0)
      ·rw [if_pos c7] at H
       have c7b0 : ((bt a0 x4_1) == (bt a0 0)) = true := beq_iff_eq.mpr c7
       have c7b1 : ((bt a0 x4_1) != (bt a0 0)) = false := bne_eq_false_iff_eq.mpr c7
       clear c7
       obtain ⟨ji8, hji8⟩ : ∃ j_ : Int, (wrap64 (x4_1 + 1)) = j_ := ⟨_, rfl⟩
       replace H : (if 0 ≤ (ji8) then (if (ji8) ≤ (a0.size : Int) then (some (a0.extract 0 ((ji8) : Int).toNat, true)) else (none)) else (none)) = some (r1, r2) := by first | (rw [hji8] at H; exact H) | (simp only [hji8] at H ⊢; exact H)
       have hji8w : (IntKind.i64.wrap (x4_1 + 1)) = ji8 := (zbs _).trans hji8
       by_cases c9 : 0 ≤ (ji8)
       ·rw [if_pos c9] at H
        have c9b0 := eq_true c9
        have c9b1 : decide (0 ≤ (ji8)) = true := zDT c9
        clear c9
        by_cases c10 : (ji8) ≤ (a0.size : Int)
        ·rw [if_pos c10] at H
         have c10b0 := eq_true c10
         have c10b1 : decide ((ji8) ≤ (a0.size : Int)) = true := zDT c10
         clear c10
         simp only [Option.some.injEq, Prod.mk.injEq] at H
         obtain ⟨rfl, rfl⟩ := H
         have p4 : 0 ≤ (x4_1 : Int) := zDO (by first | (with_reducible assumption) | assumption)
         have q4 : x4_1 < (a0.size : Int) := zDO (by first | (with_reducible assumption) | assumption)
         have hx4 := zdE a0 x4_1
         replace p4 := eq_true p4
         replace q4 := eq_true q4
         have p6 : 0 ≤ (0 : Int) := (by omega)
         have q6 : 0 < a0.size := (by have : (0 : Int) < (a0.size : Int) := zDO (by first | (with_reducible assumption) | assumption); omega)
         have hx6 : ∀ h : 0 < a0.size, ((a0[0]'h).toNat : Int) = bt a0 0 := zdE a0 0
         clear p6
         have qi6 : (0 < (a0.size : Int)) = True := eq_true (zDO (by first | (with_reducible assumption) | assumption))
         replace q6 := eq_true q6
         go_wp2
         go_ret2
         exact ⟨by first | rfl | (simp; done) | (simp only [← hji8] <;> (first | rfl | simp)) | (simp [*]; done), by repeat (first | exact zaO.refl _ | apply zaO.step)⟩
        ·rw [if_neg c10] at H
         exact absurd H (by simp)
       ·rw [if_neg c9] at H
        exact absurd H (by simp)
      ·rw [if_neg c7] at H
       have c7b0 : ((bt a0 x4_1) == (bt a0 0)) = false := beq_eq_false_iff_ne.mpr c7
       have c7b1 : ((bt a0 x4_1) != (bt a0 0)) = true := bne_iff_ne.mpr c7
       by_cases c11 : (bt a0 x4_1) = 92
       ·rw [if_pos c11] at H
        have c11b0 : ((bt a0 x4_1) == 92) = true := beq_iff_eq.mpr c11
        have c11b1 : ((bt a0 x4_1) != 92) = false := bne_eq_false_iff_eq.mpr c11
        clear c11
        by_cases c13 : (bt a0 0) = 96
        ·rw [if_pos c13] at H
         have c13b0 : ((bt a0 0) == 96) = true := beq_iff_eq.mpr c13
         have c13b1 : ((bt a0 0) != 96) = false := bne_eq_false_iff_eq.mpr c13
         clear c13
         have H' := zaa.mk H
         clear H
         have p4 : 0 ≤ (x4_1 : Int) := zDO (by first | (with_reducible assumption) | assumption)
         have q4 : x4_1 < (a0.size : Int) := zDO (by first | (with_reducible assumption) | assumption)
         have hx4 := zdE a0 x4_1
         replace p4 := eq_true p4
         replace q4 := eq_true q4
         have p6 : 0 ≤ (0 : Int) := (by omega)
         have q6 : 0 < a0.size := (by have : (0 : Int) < (a0.size : Int) := zDO (by first | (with_reducible assumption) | assumption); omega)
         have hx6 : ∀ h : 0 < a0.size, ((a0[0]'h).toNat : Int) = bt a0 0 := zdE a0 0
         clear p6
         have qi6 : (0 < (a0.size : Int)) = True := eq_true (zDO (by first | (with_reducible assumption) | assumption))
         replace q6 := eq_true q6
         have p12 : 0 ≤ (0 : Int) := (by omega)
         have q12 : 0 < a0.size := (by have : (0 : Int) < (a0.size : Int) := zDO (by first | (with_reducible assumption) | assumption); omega)
         have hx12 : ∀ h : 0 < a0.size, ((a0[0]'h).toNat : Int) = bt a0 0 := zdE a0 0
         clear p12
         have qi12 : (0 < (a0.size : Int)) = True := eq_true (zDO (by first | (with_reducible assumption) | assumption))
         replace q12 := eq_true q12
         go_wp2
         go_roundg k1
         case measure => have := HK1.out; omega
         case rel => exact ⟨(wrap64 (x4_1 + 1)), rs, H', ⟨by have := HK1.out; omega⟩, by repeat (first | exact zaO.refl _ | apply zaO.step)⟩
        ·rw [if_neg c13] at H
         have c13b0 : ((bt a0 0) == 96) = false := beq_eq_false_iff_ne.mpr c13
         have c13b1 : ((bt a0 0) != 96) = true := bne_iff_ne.mpr c13
         have H' := zaa.mk H
         clear H
         have p4 : 0 ≤ (x4_1 : Int) := zDO (by first | (with_reducible assumption) | assumption)
         have q4 : x4_1 < (a0.size : Int) := zDO (by first | (with_reducible assumption) | assumption)
         have hx4 := zdE a0 x4_1
         replace p4 := eq_true p4
         replace q4 := eq_true q4
         have p6 : 0 ≤ (0 : Int) := (by omega)
         have q6 : 0 < a0.size := (by have : (0 : Int) < (a0.size : Int) := zDO (by first | (with_reducible assumption) | assumption); omega)
         have hx6 : ∀ h : 0 < a0.size, ((a0[0]'h).toNat : Int) = bt a0 0 := zdE a0 0
         clear p6
         have qi6 : (0 < (a0.size : Int)) = True := eq_true (zDO (by first | (with_reducible assumption) | assumption))
         replace q6 := eq_true q6
         have p12 : 0 ≤ (0 : Int) := (by omega)
         have q12 : 0 < a0.size := (by have : (0 : Int) < (a0.size : Int) := zDO (by first | (with_reducible assumption) | assumption); omega)
         have hx12 : ∀ h : 0 < a0.size, ((a0[0]'h).toNat : Int) = bt a0 0 := zdE a0 0
         clear p12
         have qi12 : (0 < (a0.size : Int)) = True := eq_true (zDO (by first | (with_reducible assumption) | assumption))
         replace q12 := eq_true q12
         go_wp2
         go_roundg k1
         case measure => have := HK1.out; omega
         case rel => exact ⟨(wrap64 ((wrap64 (x4_1 + 1)) + 1)), rs, H', ⟨by have := HK1.out; omega⟩, by repeat (first | exact zaO.refl _ | apply zaO.step)⟩
       ·rw [if_neg c11] at H
        have c11b0 : ((bt a0 x4_1) == 92) = false := beq_eq_false_iff_ne.mpr c11
        have c11b1 : ((bt a0 x4_1) != 92) = true := bne_iff_ne.mpr c11
        have H' := zaa.mk H
        clear H
        have p4 : 0 ≤ (x4_1 : Int) := zDO (by first | (with_reducible assumption) | assumption)
        have q4 : x4_1 < (a0.size : Int) := zDO (by first | (with_reducible assumption) | assumption)
        have hx4 := zdE a0 x4_1
        replace p4 := eq_true p4
        replace q4 := eq_true q4
        have p6 : 0 ≤ (0 : Int) := (by omega)
        have q6 : 0 < a0.size := (by have : (0 : Int) < (a0.size : Int) := zDO (by first | (with_reducible assumption) | assumption); omega)
        have hx6 : ∀ h : 0 < a0.size, ((a0[0]'h).toNat : Int) = bt a0 0 := zdE a0 0
        clear p6
        have qi6 : (0 < (a0.size : Int)) = True := eq_true (zDO (by first | (with_reducible assumption) | assumption))
        replace q6 := eq_true q6
        go_wp2
        go_roundg k1
        case measure => have := HK1.out; omega
        case rel => exact ⟨(wrap64 (x4_1 + 1)), rs, H', ⟨by have := HK1.out; omega⟩, by repeat (first | exact zaO.refl _ | apply zaO.step)⟩
     ·rw [if_neg c5] at H
      exact absurd H (by simp)
    ·rw [if_neg c3] at H
     exact absurd H (by simp)
   ·rw [if_neg c2] at H
    have c2b0 : decide (x4_1 < (a0.size : Int)) = false := zDF c2
    clear c2
    simp only [Option.some.injEq, Prod.mk.injEq] at H
    obtain ⟨rfl, rfl⟩ := H
    go_wp2
    go_ret2
    exact ⟨by first | rfl | (simp; done) | (simp [*]; done), by repeat (first | exact zaO.refl _ | apply zaO.step)⟩
end Go.Proofs.YtioofhilohmfbaaGreatDoor.P
end
section
open Go Go.RowKit Go.Lib PrintWords PrintLast PrintMore YtioofhilohmfbaaGreatDoor.P
namespace Go.Proofs.YtioofhilohmfbaaGreatDoor
def P.zc8.f (a0 : ByteArray) : Option (Int × ByteArray × Int × Int × Bool) := if 0 < a0.size ∧ a0.size ≤ 4096 then some ((zb4 a0.data.toList).1, (zb4 a0.data.toList).2.1, 0, ((zb4 a0.data.toList).2.2.1 : Int), (zb4 a0.data.toList).2.2.2) else none
theorem zlu : ∀ c : Fin 256, P.zbu.f (c.val : Int) = some (zd5 (UInt8.ofNat c.val)) := by decide +kernel
theorem zmN : ∀ c : Fin 256, P.zb2.f (c.val : Int) = some (zj5 (UInt8.ofNat c.val)) := by decide +kernel
theorem zgg (c : UInt8) : P.zbu.f (c.toNat : Int) = some (zd5 c) := by
 have := zlu ⟨c.toNat, c.toNat_lt⟩
 simpa using this
theorem zj7 (c : UInt8) : P.zb2.f (c.toNat : Int) = some (zj5 c) := by
 have := zmN ⟨c.toNat, c.toNat_lt⟩
 simpa using this
theorem zpK (s : ByteArray) (i : Nat) (h : i < s.size) : ∃ c t, s.data.toList.drop i = c :: t ∧ bt s (i : Int) = c.toNat ∧ s.data.toList.drop (i + 1) = t := by
 have hl : s.data.toList.length = s.size := (Lib.size_eq s).symm
 refine ⟨s.data.toList[i]'(by omega), s.data.toList.drop (i + 1), List.drop_eq_getElem_cons (by omega), ?_, rfl⟩
 have h' : ((i : Int)).toNat < s.size := by rw [Int.toNat_natCast]; exact h
 rw [← zdE s (i : Int) h']
 rfl
theorem zmO (s : ByteArray) (i : Nat) (c : UInt8) (h : s.data.toList[i]? = some c) : bt s (i : Int) = (c.toNat : Int) := by
 have hl : i < s.data.toList.length := (List.getElem?_eq_some_iff.1 h).1
 obtain ⟨c', t', e, hb, _⟩ := zpK s i (by rw [Lib.size_eq]; exact hl)
 rw [List.drop_eq_getElem_cons hl] at e
 injection e with e1 e2
 have h2 := (List.getElem?_eq_some_iff.1 h).2
 rw [hb, ← e1, h2]
theorem zrd (a : Nat) (h : a ≤ 5000) : wrap64 ((a : Int) + 1) = ((a + 1 : Nat) : Int) := by unfold wrap64; omega
theorem zkH {a b : UInt8} (h : ((a.toNat : Int) = (b.toNat : Int))) : a = b := UInt8.toNat_inj.1 (by omega)
theorem zgT (s : ByteArray) (hs : s.size ≤ 4096) (q : UInt8) (t : List UInt8) (he : s.data.toList = q :: t) (hq : q = 34 ∨ q = 96) : ∀ (k i : Nat), 1 ≤ i → i ≤ s.size + 1 → s.size + 1 - i < k →
  P.zbd.l0 k s (i : Int) = match zbW q (s.data.toList.drop i) with | none => some ((⟨#[]⟩ : ByteArray), false) | some j => some (s.extract 0 (i + j), true)
 | 0, i, h1, h2, h3 => by omega
 | k + 1, i, h1, h2, h3 => by
  have h92 : q ≠ 92 := by rcases hq with rfl | rfl <;> decide
  by_cases hi : i < s.size
  ·obtain ⟨c, hc⟩ : ∃ c, s.data.toList[i]? = some c := ⟨_, List.getElem?_eq_getElem (by rw [← Lib.size_eq]; exact hi)⟩
   have hd : s.data.toList.drop i = c :: s.data.toList.drop (i + 1) := by
    obtain ⟨h, e⟩ := List.getElem?_eq_some_iff.1 hc
    rw [← e, List.drop_eq_getElem_cons h]
   have hb := zmO s i c hc
   have hb0 : bt s 0 = (q.toNat : Int) := zmO s 0 q (by rw [he]; rfl)
   have g1 : (i : Int) < (s.size : Int) := by omega
   have g2 : (0 : Int) ≤ (i : Int) := by omega
   have g3 : (0 : Int) < (s.size : Int) := by omega
   have g4 : (0 : Int) ≤ ((i + 1 : Nat) : Int) := by omega
   have g5 : ((i + 1 : Nat) : Int) ≤ (s.size : Int) := by omega
   have g6 : i ≤ 5000 ∧ i + 1 ≤ 5000 := by omega
   have hI1 := zgT s hs q t he hq k (i + 1) (by omega) (by omega) (by omega)
   have hI2 := zgT s hs q t he hq k (i + 1 + 1) (by omega) (by omega) (by omega)
   have hw1 := zrd i g6.1
   have hw2 := zrd (i + 1) g6.2
   rw [P.zbd.l0, hb, hb0, hd]
   refine (if_pos g1).trans ((if_pos g2).trans ((if_pos g3).trans ?_))
   rw [hw1, hw2]
   by_cases hcq : c = q
   ·subst hcq
    refine (if_pos rfl).trans ((if_pos g4).trans ((if_pos g5).trans ?_))
    have hqe : zbW c (c :: s.data.toList.drop (i + 1)) = some 1 := by
     cases s.data.toList.drop (i + 1) with
     | nil => rw [zbW, if_pos rfl]
     | cons d u => rw [zbW, if_pos rfl]
    rw [hqe, Int.toNat_natCast]
   ·refine (if_neg (fun h => hcq (zkH h))).trans ?_
    by_cases h2 : c = 92
    ·subst h2
     refine (if_pos rfl).trans ?_
     rcases hq with rfl | rfl
     ·refine (if_neg (by decide)).trans ?_
      rw [hI2, zgQ 34 _ (by decide) (by decide), List.drop_drop]
      cases zbW 34 (s.data.toList.drop (i + 1 + 1)) with
      | none => rfl
      | some j => simp only [Option.map_some]; congr 3; omega
     ·refine (if_pos rfl).trans ?_
      rw [hI1, zeF 96 92 _ (by decide), if_neg hcq]
      cases zbW 96 (s.data.toList.drop (i + 1)) with
      | none => rfl
      | some j => simp only [Option.map_some]; congr 3; omega
    ·refine (if_neg (fun h => h2 (zkH (b := 92) h))).trans ?_
     rw [hI1, zeF q c _ (fun h => h2 h.1), if_neg hcq]
     cases zbW q (s.data.toList.drop (i + 1)) with
     | none => rfl
     | some j => simp only [Option.map_some]; congr 3; omega
  ·have g1 : ¬ ((i : Int) < (s.size : Int)) := by omega
   rw [P.zbd.l0, List.drop_eq_nil_of_le (by rw [← Lib.size_eq]; omega)]
   exact if_neg g1
theorem zn7 (s : ByteArray) (hs : s.size ≤ 4096) (q : UInt8) (t : List UInt8) (he : s.data.toList = q :: t) (hq : q = 34 ∨ q = 96) : P.zbd.f 5000 s = match zbW q t with | none => some ((⟨#[]⟩ : ByteArray), false) | some j => some (s.extract 0 (j + 1), true) := by
 have h := zgT s hs q t he hq 5000 1 (Nat.le_refl _) (by omega) (by omega)
 rw [he, List.drop_succ_cons, List.drop_zero] at h
 unfold P.zbd.f
 rw [show (1 : Int) = ((1 : Nat) : Int) from rfl, h]
 cases zbW q t with
 | none => rfl
 | some j => simp only; rw [Nat.add_comm]
def TB (w W : World) : Prop := W.heap[w.heap.size]? = some (.cells #[.int .i64 0, .string ⟨#[]⟩, .int .i64 0] 32 (0, 0))
theorem TB.ziW (w : World) : TB w (w.alloc (.cells #[.int .i64 0, .string ⟨#[]⟩, .int .i64 0] 32)) := zcv w _
theorem TB.below {w W W' : World} (h : TB w W) (hb : Below W.heap.size W W') : TB w W' := zak h hb
theorem TB.cells {w W : World} (h : TB w W) : W.cell? ⟨w.heap.size, 0, none⟩ = some (.int .i64 0) ∧ W.cell? ⟨w.heap.size, 1, none⟩ = some (.string ⟨#[]⟩) ∧ W.cell? ⟨w.heap.size, 2, none⟩ = some (.int .i64 0) ∧ W.frozen? ⟨w.heap.size, 0, none⟩ = false ∧ W.frozen? ⟨w.heap.size, 1, none⟩ = false ∧ W.frozen? ⟨w.heap.size, 2, none⟩ = false :=
 ⟨zah h 0, zah h 1, zah h 2, zae h 0, zae h 1, zae h 2⟩
theorem TB.put {w W : World} (h : TB w W) (v0 v1 v2 : Value) : (((W.setCell ⟨w.heap.size, 0, none⟩ v0).setCell ⟨w.heap.size, 1, none⟩ v1).setCell ⟨w.heap.size, 2, none⟩ v2).heap[w.heap.size]? = some (.cells #[v0, v1, v2] 32) :=
 zaB (zaB (zaB h 0 v0 (cs' := #[v0, .string ⟨#[]⟩, .int .i64 0]) rfl) 1 v1 (cs' := #[v0, v1, .int .i64 0]) rfl) 2 v2 rfl
theorem zdR {w W : World} (h : Below w.heap.size w W) (v0 v1 v2 : Value) : Below w.heap.size w (((W.setCell ⟨w.heap.size, 0, none⟩ v0).setCell ⟨w.heap.size, 1, none⟩ v1).setCell ⟨w.heap.size, 2, none⟩ v2) :=
 zbo (zbo (zbo h (Nat.le_refl _)) (Nat.le_refl _)) (Nat.le_refl _)
def zeu (w : World) (v : Int × ByteArray × Nat × Bool) (e : Ending) (w' : World) : Prop := e = .returned (.tuple #[.agg #[.int .i64 v.1, .string v.2.1, .int .i64 0], .int .i64 (v.2.2.1 : Int), .bool v.2.2.2]) ∧ Below w.heap.size w w'
theorem zlv (s : ByteArray) (c : UInt8) (t : List UInt8) (he : s.data.toList = c :: t) (hs : s.size ≤ 4096) (hw : zd5 c = true) (w : World) : Calls Tryz.prog 21 #[.string s] w (zeu w (1, s.extract 0 (runN zdj s.data.toList), runN zdj s.data.toList, true)) := by
 obtain ⟨n, hn⟩ : ∃ n, runN zdj s.data.toList = n := ⟨_, rfl⟩
 have hrun : P.zc1.f s = some (n : Int) := by unfold P.zc1.f; rw [if_pos (by omega), hn]
 have hle : n ≤ s.size := by rw [← hn, Lib.size_eq]; exact zdc _ _
 rw [hn]
 have hf := zgg c
 rw [hw] at hf
 have hsz : 0 < s.size := by rw [Lib.size_eq, he]; simp
 have hb0 : ∀ h' : 0 < s.size, s[0]'h' = c := fun h' => by
  have : s.data.toList[0]? = some c := by rw [he]; rfl
  rw [List.getElem?_eq_getElem (by rw [← Lib.size_eq]; exact h')] at this
  exact Option.some.inj this
 have q0 : (0 < (s.size : Int)) = True := eq_true (by omega)
 have q1 : (0 < s.size) = True := eq_true hsz
 have cb2 : (0 ≤ (n : Int)) = True := eq_true (by omega)
 have cb3 : ((n : Int) ≤ (s.size : Int)) = True := eq_true (by omega)
 have HL := zaa.mk hf
 have HR := zaa.mk hrun
 clear he hs hw hn hrun hle hf hsz
 go_enter Tryz.func21, Tryz.ntmps21
 go_wp2_with (first
  |(go_at_call 45; (try rw [hb0]); (with_reducible refine (P.zbu.calls _ true _ HL.out).mono ?_); rintro e w1 ⟨rfl, hd0⟩; have T1 := zaa.mk (TB.below (TB.ziW w) (zbw hd0)); have H1 := zaa.mk (zab (zam (Below.refl w.heap.size w) _) (zbw hd0)); clear hd0; obtain ⟨hc0, hc1, hc2, hf0, hf1, hf2⟩ := T1.out.cells)
  |(go_at_call 19; (with_reducible refine (P.zc1.calls _ (n : Int) _ HR.out).mono ?_); rintro e w2 ⟨rfl, hb⟩; have T2 := zaa.mk (TB.below T1.out hb); have H2 := zaa.mk (zab H1.out hb); clear hb hc0 hc1 hc2 hf0 hf1 hf2; obtain ⟨hc0, hc1, hc2, hf0, hf1, hf2⟩ := T2.out.cells))
 refine bodyPost_ret (zbl rfl _ _ w.heap.size 32 #[.int .i64 1, .string (s.extract 0 n), .int .i64 0] (0, 0) _ rfl (TB.put T2.out _ _ _) Tryz.underlying32 rfl (by kernel_rfl)) rfl ?_
 exact ⟨rfl, zdR H2.out _ _ _⟩
theorem zmP (s : ByteArray) (c : UInt8) (t : List UInt8) (he : s.data.toList = c :: t) (hs : s.size ≤ 4096) (hw : zd5 c = false) (hd : zj5 c = true) (w : World) (hG : zaa (G w)) : Calls Tryz.prog 21 #[.string s] w (zeu w (zdK (s.extract 0 (runN zfV s.data.toList)), s.extract 0 (runN zfV s.data.toList), runN zfV s.data.toList, zdK (s.extract 0 (runN zfV s.data.toList)) != 0)) := by
 obtain ⟨n, hn⟩ : ∃ n, runN zfV s.data.toList = n := ⟨_, rfl⟩
 have hrun : P.zcQ.f s = some (n : Int) := by unfold P.zcQ.f; rw [if_pos (by omega), hn]
 have hle : n ≤ s.size := by rw [← hn, Lib.size_eq]; exact zdc _ _
 have hall := zil zfV s.data.toList
 rw [hn] at hall ⊢
 have hx : (s.extract 0 n).data.toList = s.data.toList.take n := by
  rw [ByteArray.data_extract, Array.toList_extract, List.extract_eq_take_drop]
  simp
 have HM := zaa.mk (fun W (hW : Below w.heap.size w W) => zhh (s.extract 0 n) (by rw [ByteArray.size_extract]; omega) (by rw [hx]; exact List.all_eq_true.2 fun d hd => decide_eq_true (zfj d (hall d hd)).1) (by
  cases hb : Lib.hasPrefix (s.extract 0 n).data.toList [45] with
  | false => rfl
  | true =>
   obtain ⟨r, hr⟩ := (zgR _ _).1 hb
   rw [hx] at hr
   exact absurd rfl (zfj 45 (hall 45 (by rw [← hr]; simp))).2.1) W (hG.out.at hW))
 have hf := zgg c
 rw [hw] at hf
 have hg := zj7 c
 rw [hd] at hg
 have hsz : 0 < s.size := by rw [Lib.size_eq, he]; simp
 have hb0 : ∀ h' : 0 < s.size, s[0]'h' = c := fun h' => by
  have : s.data.toList[0]? = some c := by rw [he]; rfl
  rw [List.getElem?_eq_getElem (by rw [← Lib.size_eq]; exact h')] at this
  exact Option.some.inj this
 have q0 : (0 < (s.size : Int)) = True := eq_true (by omega)
 have q1 : (0 < s.size) = True := eq_true hsz
 have cb2 : (0 ≤ (n : Int)) = True := eq_true (by omega)
 have cb3 : ((n : Int) ≤ (s.size : Int)) = True := eq_true (by omega)
 have HL := zaa.mk hf
 have HD := zaa.mk hg
 have HR := zaa.mk hrun
 clear he hs hw hd hn hrun hle hf hg hsz hall hx hG
 go_enter Tryz.func21, Tryz.ntmps21
 go_wp2_with (first
  |(go_at_call 45; (try rw [hb0]); (with_reducible refine (P.zbu.calls _ false _ HL.out).mono ?_); rintro e w1 ⟨rfl, hd0⟩; have T1 := zaa.mk (TB.below (TB.ziW w) (zbw hd0)); have H1 := zaa.mk (zab (zam (Below.refl w.heap.size w) _) (zbw hd0)); clear hd0; obtain ⟨hc0, hc1, hc2, hf0, hf1, hf2⟩ := T1.out.cells)
  |(go_at_call 47; (try rw [hb0]); (with_reducible refine (P.zb2.calls _ true _ HD.out).mono ?_); rintro e w2 ⟨rfl, hd0⟩; have T2 := zaa.mk (TB.below T1.out (zbw hd0)); have H2 := zaa.mk (zab H1.out (zbw hd0)); clear hd0 hc0 hc1 hc2 hf0 hf1 hf2; obtain ⟨hc0, hc1, hc2, hf0, hf1, hf2⟩ := T2.out.cells)
  |(go_at_call 19; (with_reducible refine (P.zcQ.calls _ (n : Int) _ HR.out).mono ?_); rintro e w3 ⟨rfl, hb⟩; have T3 := zaa.mk (TB.below T2.out hb); have H3 := zaa.mk (zab H2.out hb); clear hb hc0 hc1 hc2 hf0 hf1 hf2; obtain ⟨hc0, hc1, hc2, hf0, hf1, hf2⟩ := T3.out.cells)
  |(go_at_call 49; (with_reducible refine (HM.out _ H3.out).mono ?_); rintro e w4 ⟨rfl, hb⟩; have T4 := zaa.mk (TB.below T3.out hb); have H4 := zaa.mk (zab H3.out hb); clear hb hc0 hc1 hc2 hf0 hf1 hf2; obtain ⟨hc0, hc1, hc2, hf0, hf1, hf2⟩ := T4.out.cells))
 refine bodyPost_ret (zbl rfl _ _ w.heap.size 32 #[.int .i64 (zdK (s.extract 0 n)), .string (s.extract 0 n), .int .i64 0] (0, 0) _ rfl (TB.put T4.out _ _ _) Tryz.underlying32 rfl (by kernel_rfl)) rfl ?_
 exact ⟨rfl, zdR H4.out _ _ _⟩
theorem zhL (s : ByteArray) (c : UInt8) (t : List UInt8) (he : s.data.toList = c :: t) (hs : s.size ≤ 4096) (hw : zd5 c = false) (hd : zj5 c = false) (hq : c = 34 ∨ c = 96) (own x : ByteArray) (ok : Bool) (er : Int) (hown : P.zbd.f 5000 s = some (own, ok)) (hun : P.zcr.f own = some (x, er)) (hoz : own.size ≤ 4096) (w : World) (hG : zaa (G w)) : Calls Tryz.prog 21 #[.string s] w (zeu w (2, x, own.size, ok && er == 0)) := by
 have hf := zgg c
 rw [hw] at hf
 have hg := zj7 c
 rw [hd] at hg
 have hsz : 0 < s.size := by rw [Lib.size_eq, he]; simp
 have hb0 : ∀ h' : 0 < s.size, s[0]'h' = c := fun h' => by
  have : s.data.toList[0]? = some c := by rw [he]; rfl
  rw [List.getElem?_eq_getElem (by rw [← Lib.size_eq]; exact h')] at this
  exact Option.some.inj this
 have q0 : (0 < (s.size : Int)) = True := eq_true (by omega)
 have q1 : (0 < s.size) = True := eq_true hsz
 have HL := zaa.mk hf
 have HD := zaa.mk hg
 have HO := zaa.mk hown
 have HU := zaa.mk hun
 have HQ : zaa ((c.toNat : Int) = 34 ∨ (c.toNat : Int) = 96) := ⟨by rcases hq with rfl | rfl; exact .inl rfl; exact .inr rfl⟩
 clear he hs hw hd hown hun hf hg hsz hoz hq
 obtain ⟨ci, hci⟩ : ∃ ci : Int, (c.toNat : Int) = ci := ⟨_, rfl⟩
 rw [hci] at HQ HL HD
 have hb1 : ∀ h' : 0 < s.size, ((s[0]'h').toNat : Int) = ci := fun h' => by rw [hb0 h']; exact hci
 have HB1 := zaa.mk hb1
 clear hb0 hci hb1
 have hcq : (ci == 34) = true ∨ ((ci == 34) = false ∧ (ci == 96) = true) := by
  rcases HQ.out with h | h
  ·exact .inl (beq_iff_eq.2 h)
  ·exact .inr ⟨by rw [h]; rfl, beq_iff_eq.2 h⟩
 rcases hcq with hc1 | ⟨hc1, hc2⟩
 all_goals cases ok
 all_goals go_enter Tryz.func21, Tryz.ntmps21
 all_goals go_wp2_with (first
  |(go_at_call 45; rw [HB1.out]; (with_reducible refine (P.zbu.calls _ false _ HL.out).mono ?_); rintro e w1 ⟨rfl, hd0⟩; have T1 := zaa.mk (TB.below (TB.ziW w) (zbw hd0)); have H1 := zaa.mk (zab (zam (Below.refl w.heap.size w) _) (zbw hd0)); clear hd0; obtain ⟨hc0, hc1, hc2, hf0, hf1, hf2⟩ := T1.out.cells)
  |(go_at_call 47; skip; (with_reducible refine (P.zb2.calls _ false _ HD.out).mono ?_); rintro e w2 ⟨rfl, hd0⟩; have T2 := zaa.mk (TB.below T1.out (zbw hd0)); have H2 := zaa.mk (zab H1.out (zbw hd0)); clear hd0 hc0 hc1 hc2 hf0 hf1 hf2; obtain ⟨hc0, hc1, hc2, hf0, hf1, hf2⟩ := T2.out.cells)
  |(go_at_call 50; (with_reducible refine (P.zbd.calls 5000 _ _ _ _ HO.out).mono ?_); rintro e w3 ⟨rfl, hd0⟩; have hb := zbw hd0; clear hd0; have T3 := zaa.mk (TB.below T2.out hb); have H3 := zaa.mk (zab H2.out hb); clear hb hc0 hc1 hc2 hf0 hf1 hf2; obtain ⟨hc0, hc1, hc2, hf0, hf1, hf2⟩ := T3.out.cells)
  |(go_at_call 14; (with_reducible refine (P.zcr.calls _ _ _ _ (hG.out.at H3.out) HU.out).mono ?_); rintro e w4 ⟨rfl, hb⟩; have T4 := zaa.mk (TB.below T3.out hb); have H4 := zaa.mk (zab H3.out hb); clear hb hc0 hc1 hc2 hf0 hf1 hf2; obtain ⟨hc0, hc1, hc2, hf0, hf1, hf2⟩ := T4.out.cells))
 all_goals refine bodyPost_ret (zbl rfl _ _ w.heap.size 32 #[.int .i64 2, .string x, .int .i64 0] (0, 0) _ rfl (TB.put T4.out _ _ _) Tryz.underlying32 rfl (by kernel_rfl)) rfl ?_
 all_goals exact ⟨rfl, zdR H4.out _ _ _⟩
theorem zpL (i : Nat) (y : ByteArray) (h : zcx[i]? = some y) (j : Int) (hj : j = (i : Int)) : zdd ByteArray.empty zcx j = y := by
 subst hj
 unfold zdd
 rw [Int.toNat_natCast, List.getD_eq_getElem?_getD, h]
 rfl
theorem zn8 {l : List UInt8} {i : Nat} {y : ByteArray} (h : zcx[i]? = some y) (hp : Lib.hasPrefix l y.data.toList = true) (hn : ∀ k z, k < i → zcx[k]? = some z → Lib.hasPrefix l z.data.toList = false) : zeW l = some y := by
 unfold zeW
 obtain ⟨hlt, e⟩ := List.getElem?_eq_some_iff.1 h
 refine List.find?_eq_some_iff_getElem.2 ⟨hp, i, hlt, e, fun k hk => ?_⟩
 rw [hn k _ hk (List.getElem?_eq_getElem (by omega))]
 rfl
theorem zpM {l : List UInt8} (hn : ∀ k z, k < 23 → zcx[k]? = some z → Lib.hasPrefix l z.data.toList = false) : zeW l = none := by
 unfold zeW
 refine List.find?_eq_none.2 fun x hx => ?_
 obtain ⟨k, hk, e⟩ := List.mem_iff_getElem.1 hx
 rw [hn k x hk (by rw [List.getElem?_eq_getElem hk, e])]
 exact Bool.false_ne_true
def zlw (l : List UInt8) : Int × ByteArray × Nat × Bool := match zeW l with
 | none => (0, ⟨#[]⟩, 0, false)
 | some x => (6, x, x.size, true)
theorem zlx (s : ByteArray) (c : UInt8) (t : List UInt8) (he : s.data.toList = c :: t) (hs : s.size ≤ 4096) (hw : zd5 c = false) (hd : zj5 c = false) (hq : ¬ (c = 34 ∨ c = 96)) (w : World) (hG : zaa (G w)) : Calls Tryz.prog 21 #[.string s] w (zeu w (zlw s.data.toList)) := by
 have hf := zgg c
 rw [hw] at hf
 have hg := zj7 c
 rw [hd] at hg
 have hsz : 0 < s.size := by rw [Lib.size_eq, he]; simp
 have hb0 : ∀ h' : 0 < s.size, s[0]'h' = c := fun h' => by
  have : s.data.toList[0]? = some c := by rw [he]; rfl
  rw [List.getElem?_eq_getElem (by rw [← Lib.size_eq]; exact h')] at this
  exact Option.some.inj this
 have q1 : (0 < s.size) = True := eq_true hsz
 have q0 : (0 < (s.size : Int)) = True := eq_true (by omega)
 have q1 : (0 < s.size) = True := eq_true hsz
 have HL := zaa.mk hf
 have HD := zaa.mk hg
 have hq1 : ¬ ((c.toNat : Int) = 34) := fun h => hq (.inl (zkH (b := 34) h))
 have hq2 : ¬ ((c.toNat : Int) = 96) := fun h => hq (.inr (zkH (b := 96) h))
 have hqb1 : ((c.toNat : Int) == 34) = false := beq_eq_false_iff_ne.2 hq1
 have hqb2 : ((c.toNat : Int) == 96) = false := beq_eq_false_iff_ne.2 hq2
 clear he hs hw hd hf hg hsz hq hq1 hq2
 obtain ⟨ci, hci⟩ : ∃ ci : Int, (c.toNat : Int) = ci := ⟨_, rfl⟩
 rw [hci] at hqb1 hqb2 HL HD
 have hb1 : ∀ h' : 0 < s.size, ((s[0]'h').toNat : Int) = ci := fun h' => by rw [hb0 h']; exact hci
 have HB1 := zaa.mk hb1
 clear hb0 hci hb1
 obtain ⟨ad, cp, hgc, hcap, hC⟩ := hG.out.signs
 have HGC := zaa.mk (fun W (hW : Below w.heap.size w W) => zbM hW hgc)
 have HC := zaa.mk (fun W (hW : Below w.heap.size w W) => Kd.zaY hC hW)
 clear hgc hcap hC
 go_enter Tryz.func21, Tryz.ntmps21
 go_wp2_with (first
  |(go_at_call 45; rw [HB1.out]; (with_reducible refine (P.zbu.calls _ false _ HL.out).mono ?_); rintro e w1 ⟨rfl, hd0⟩; have T1 := zaa.mk (TB.below (TB.ziW w) (zbw hd0)); have H1 := zaa.mk (zab (zam (Below.refl w.heap.size w) _) (zbw hd0)); clear hd0)
  |(go_at_call 47; (with_reducible refine (P.zb2.calls _ false _ HD.out).mono ?_); rintro e w2 ⟨rfl, hd0⟩; have T2 := zaa.mk (TB.below T1.out (zbw hd0)); have H2 := zaa.mk (zab H1.out (zbw hd0)); clear hd0; have hgc := HGC.out _ H2.out))
 go_loopg [73] 24 (fun kq v73 wr => ∃ (j : Int), v73 = .int .i64 j ∧ zaa (∃ i : Nat, j = (i : Int) ∧ i ≤ 23 ∧ 23 < kq + i ∧ ∀ k z, k < i → zcx[k]? = some z → Lib.hasPrefix s.data.toList z.data.toList = false) ∧ zaa (TB w wr) ∧ zaa (Below w.heap.size w wr))
 case atStart => exact ⟨0, rfl, ⟨0, rfl, Nat.zero_le _, by omega, fun k z hk => absurd hk (Nat.not_lt_zero _)⟩, T2, H2⟩
 case round =>
  obtain ⟨j, rfl, ⟨i, hij, hi, hk, hN⟩, TR, HR⟩ := hrel
  obtain ⟨kq, rfl⟩ : ∃ kq, gk = kq + 1 := ⟨gk - 1, by omega⟩
  obtain ⟨hc0, hc1, hc2, hf0, hf1, hf2⟩ := TR.out.cells
  have TRA := TR
  have HRA := HR
  have HN := zaa.mk hN
  have HJ : zaa (j = (i : Int) ∧ i ≤ 23 ∧ 23 < kq + 1 + i) := ⟨hij, hi, hk⟩
  by_cases hlt : i < 23
  ·obtain ⟨y, hy⟩ : ∃ y, zcx[i]? = some y := ⟨_, List.getElem?_eq_getElem (by simpa [zcx] using hlt)⟩
   have HY := zaa.mk hy
   have HLT := zaa.mk hlt
   have hlen : zcx.length = 23 := rfl
   have hg0 : decide (j < (zcx.length : Int)) = true := decide_eq_true (by omega)
   have p4 : 0 ≤ j := by omega
   have q4 : j < (zcx.length : Int) := by omega
   obtain ⟨ad4, e4, hx4⟩ := Kd.zeZ (HC.out _ HR.out) j p4 q4
   cases e4
   rw [zpL i y hy j hij] at hx4
   replace p4 := eq_true p4
   replace q4 := eq_true q4
   clear hN hij hi hk hlt hy hlen TR HR
   cases hp : Lib.hasPrefix s.data.toList y.data.toList with
   | true =>
    have HP : zaa (P.strings_HasPrefix.f s y = some true) := ⟨by unfold P.strings_HasPrefix.f; rw [hp]⟩
    have HV : zaa (zlw s.data.toList = (6, y, y.size, true)) := ⟨by unfold zlw; rw [zn8 HY.out hp HN.out]⟩
    clear hp
    go_wp2_with (go_at_call 40; (with_reducible refine (P.strings_HasPrefix.calls _ _ true _ HP.out).mono ?_); rintro e w3 ⟨rfl, hb⟩; have T3 := zaa.mk (TB.below TRA.out hb); have H3 := zaa.mk (zab HRA.out hb); clear hb hc0 hc1 hc2 hf0 hf1 hf2; obtain ⟨hc0, hc1, hc2, hf0, hf1, hf2⟩ := T3.out.cells)
    refine bodyPost_ret (zbl rfl _ _ w.heap.size 32 #[.int .i64 6, .string y, .int .i64 0] (0, 0) _ rfl (TB.put T3.out _ _ _) Tryz.underlying32 rfl (by kernel_rfl)) rfl ?_
    rw [HV.out]
    exact ⟨rfl, zdR H3.out _ _ _⟩
   | false =>
    have HP : zaa (P.strings_HasPrefix.f s y = some false) := ⟨by unfold P.strings_HasPrefix.f; rw [hp]⟩
    have HPF := zaa.mk hp
    clear hp
    go_wp2_with (go_at_call 40; (with_reducible refine (P.strings_HasPrefix.calls _ _ false _ HP.out).mono ?_); rintro e w3 ⟨rfl, hb⟩; have T3 := zaa.mk (TB.below TRA.out hb); have H3 := zaa.mk (zab HRA.out hb); clear hb)
    go_roundg kq
    all_goals first | exact Nat.le_refl _ | (have := HJ.out; omega) | exact ⟨wrap64 (j + 1), rfl, ⟨i + 1, by have := HJ.out; unfold wrap64; omega, by have := HLT.out; omega, by have := HJ.out; omega, fun k z hk hz => (Nat.lt_succ_iff_lt_or_eq.1 hk).elim (fun h => HN.out k z h hz) (fun h => by rw [h, HY.out] at hz; cases hz; exact HPF.out)⟩, T3, H3⟩
  ·have hlen : zcx.length = 23 := rfl
   have hg0 : decide (j < (zcx.length : Int)) = false := decide_eq_false (by omega)
   have hi23 : i = 23 := by omega
   subst hi23
   have HV : zaa (zlw s.data.toList = (0, ⟨#[]⟩, 0, false)) := ⟨by unfold zlw; rw [zpM HN.out]⟩
   clear TR HR hN hij hi hk hlt hlen
   go_wp2
   refine bodyPost_ret (zbl rfl _ _ w.heap.size 32 #[.int .i64 0, .string ⟨#[]⟩, .int .i64 0] (0, 0) _ rfl (TB.put TRA.out _ _ _) Tryz.underlying32 rfl (by kernel_rfl)) rfl ?_
   rw [HV.out]
   exact ⟨rfl, zdR HRA.out _ _ _⟩
theorem zim (s : ByteArray) (n : Nat) : s.extract 0 n = mkB (s.data.toList.take n) := by
 refine ByteArray.ext (Array.toList_inj.1 ?_)
 rw [ByteArray.data_extract, Array.toList_extract, List.extract_eq_take_drop]
 simp
theorem zqy (v : Option (List UInt8)) : P.zqY v = (v.elim ⟨#[]⟩ mkB, if v.isSome then 0 else 40) := by cases v <;> rfl
theorem zj8 (s : ByteArray) (h0 : 0 < s.size) (hs : s.size ≤ 4096) (w : World) (hG : zaa (G w)) : Calls Tryz.prog 21 #[.string s] w (zeu w (zb4 s.data.toList)) := by
 obtain ⟨c, t, he⟩ : ∃ c t, s.data.toList = c :: t := by
  cases h : s.data.toList with
  | nil => rw [Lib.size_eq, h] at h0; exact absurd h0 (by decide)
  | cons c t => exact ⟨c, t, rfl⟩
 have hne : s.data.toList ≠ [] := by rw [he]; exact List.cons_ne_nil _ _
 have hh : s.data.toList.headD 0 = c := by rw [he]; rfl
 have htl : s.data.toList.tail = t := by rw [he]; rfl
 unfold zb4
 rw [if_neg hne, hh, htl]
 cases hw : zd5 c with
 | true =>
  rw [if_pos rfl, ← zim]
  exact zlv s c t he hs hw w
 | false =>
  rw [if_neg Bool.false_ne_true]
  cases hd : zj5 c with
  | true =>
   rw [if_pos rfl, ← zim]
   exact zmP s c t he hs hw hd w hG
  | false =>
   rw [if_neg Bool.false_ne_true]
   by_cases hq : c = 34 ∨ c = 96
   ·rw [if_pos hq]
    have hqf := zn7 s hs c t he hq
    cases hr : zbW c t with
    | none =>
     rw [hr] at hqf
     exact zhL s c t he hs hw hd hq ⟨#[]⟩ ⟨#[]⟩ false 40 hqf (by decide) (by decide) w hG
    | some j =>
     rw [hr] at hqf
     have hjl := (zgf c t j hr).2.1
     have hs1 : s.size = t.length + 1 := by rw [Lib.size_eq, he]; rfl
     have hsz : (s.extract 0 (j + 1)).size = j + 1 := by
      rw [ByteArray.size_extract]
      omega
     have hu : P.zcr.f (s.extract 0 (j + 1)) = some (P.zqY (zbO (s.extract 0 (j + 1)))) := by
      unfold P.zcr.f
      rw [if_pos (by omega)]
     rw [zqy] at hu
     have h := zhL s c t he hs hw hd hq (s.extract 0 (j + 1)) _ true _ hqf hu (by omega) w hG
     rw [hsz] at h
     simp only
     rw [← zim]
     have e : (true && (if (zbO (s.extract 0 (j + 1))).isSome = true then (0 : Int) else 40) == 0) = (zbO (s.extract 0 (j + 1))).isSome := by
      cases (zbO (s.extract 0 (j + 1))).isSome <;> rfl
     rw [e] at h
     exact h
   ·rw [if_neg hq]
    have h := zlx s c t he hs hw hd hq w hG
    unfold zlw at h
    exact h
theorem P.zc8.calls (a0 : ByteArray) (r1 : Int) (r2 : ByteArray) (r3 r4 : Int) (r5 : Bool) (w : World) (hG : zaa (G w)) (h : P.zc8.f a0 = some (r1, r2, r3, r4, r5)) :
  Calls Tryz.prog 21 #[.string a0] w fun e w' => e = .returned (.tuple #[.agg #[.int .i64 r1, .string r2, .int .i64 r3], .int .i64 r4, .bool r5]) ∧ Below w.heap.size w w' := by
 unfold P.zc8.f at h
 by_cases hc : 0 < a0.size ∧ a0.size ≤ 4096
 case neg => rw [if_neg hc] at h; cases h
 rw [if_pos hc] at h
 have := zj8 a0 hc.1 hc.2 w hG
 cases h
 exact this
end Go.Proofs.YtioofhilohmfbaaGreatDoor
end
section
open Go.RowKit PrintWords PrintLast PrintMore
namespace Go.Proofs.YtioofhilohmfbaaGreatDoor.P
attribute [local go_sem] za3 za4 zbh zbi zaT zaU za5 za6 zbn
def zaF.l0 : Nat → ByteArray → List (S32) → Int → Option ((List (S32)) × Int × Int)
 | 0, _, _, _ => none
 | k + 1, x0, x2, x5 => if x5 < (x0.size : Int) then (if 0 ≤ x5 then (if x5 ≤ (x0.size : Int) then ((zc8.f (x0.extract (x5 : Int).toNat x0.size)).bind fun bt2 => (if bt2.2.2.2.2 = true then (if x2.length < 4398046511104 then (if 0 ≤ (wrap64 (x5 + bt2.2.2.2.1)) then (if (wrap64 (x5 + bt2.2.2.2.1)) ≤ (x0.size : Int) then ((zbF.f (x0.extract ((wrap64 (x5 + bt2.2.2.2.1)) : Int).toNat x0.size)).bind fun t11 => (zaF.l0 k x0 (x2 ++ [(⟨bt2.1, bt2.2.1, x5⟩ : S32)]) (wrap64 ((wrap64 (x5 + bt2.2.2.2.1)) + t11)))) else (none)) else (none)) else (none)) else (some (([] : List (S32)), x5, 200)))) else (none)) else (none)) else (some (x2, 0, 0))
def zaF.f (k : Nat) (a0 : ByteArray) : Option ((List (S32)) × Int × Int) := if (a0.size : Int) > 4096 then (some (([] : List (S32)), 0, 5)) else ((zbF.f a0).bind fun t1 => (zaF.l0 k a0 ([] : List (S32)) t1))
theorem zaF.zbp : ∀ k, (∀ y0 y1 y2, LeO (zaF.l0 k y0 y1 y2) (zaF.l0 (k + 1) y0 y1 y2))
 | 0 => fun _ _ _ r h => by simp [zaF.l0] at h
 | k + 1 => by
  have ih0 := zaF.zbp k
  ·intro y0 y1 y2
   unfold zaF.l0
   repeat' with_reducible first | exact ih0 _ _ _ | exact LeO.refl _ | exact LeO.none _ | refine LeO.ite ?_ ?_ | refine LeO.bind ?_ (fun _ => ?_)
theorem zaF.mono : ∀ a0 k, LeO (zaF.f k a0) (zaF.f (k + 1) a0) := by
 intro a0 k
 have ih0 := zaF.zbp k
 unfold zaF.f
 repeat' with_reducible first | exact ih0 _ _ _ | exact LeO.refl _ | exact LeO.none _ | refine LeO.ite ?_ ?_ | refine LeO.bind ?_ (fun _ => ?_)
theorem zaF.calls (k : Nat) (a0 : ByteArray) (r1 : List (S32)) (r2 : Int) (r3 : Int) (w : World) (hG : zaa (G w)) (h : zaF.f k a0 = some (r1, r2, r3)) :
  Calls Tryz.prog 8 #[.string a0] w fun e w' => ∃ v0_ : Value, e = .returned (.tuple #[v0_, .int .i64 r2, .int .i64 r3]) ∧ Kd.R k32 32 w' w.heap.size (fun _ => True) v0_ r1 ∧ Below w.heap.size w w' := by
 have hu32 := Tryz.underlying32
 have HB := zaa.mk (Below.refl w.heap.size w)
 have H : (if (a0.size : Int) > 4096 then (some (([] : List (S32)), 0, 5)) else ((zbF.f a0).bind fun t1 => (zaF.l0 k a0 ([] : List (S32)) t1))) = some (r1, r2, r3) := h
 clear h
 by_cases c2 : (a0.size : Int) > 4096
 ·rw [if_pos c2] at H
  have c2b0 : decide (4096 < (a0.size : Int)) = true := zDT c2
  have c2b1 : decide (4096 < a0.size) = true := decide_eq_true (by omega)
  clear c2
  simp only [Option.some.injEq, Prod.mk.injEq] at H
  obtain ⟨rfl, rfl, rfl⟩ := H
  go_enter Tryz.func8, Tryz.ntmps8
  go_wp2
  go_ret3
  exact ⟨_, by first | rfl | (simp [zaf, zag] <;> rfl) | (simp [*, zaf, zag] <;> rfl), by first | exact Kd.zcl _ _ _ _ _ | exact Kd.zdi _ _ _ _ _ | exact Kd.zcA _ _ _ _ _ | exact Kd.zdf _ _ _ _ _ | exact Kd.zdh _ _ _ _ _, lb⟩
 ·rw [if_neg c2] at H
  have c2b0 : decide (4096 < (a0.size : Int)) = false := zDF c2
  have c2b1 : decide (4096 < a0.size) = false := decide_eq_false (by omega)
  clear c2
  replace H := zBE H
  obtain ⟨t1, A30, H⟩ := H
  replace H : (zaF.l0 k a0 ([] : List (S32)) t1) = some (r1, r2, r3) := H
  have A3 := zaa.mk A30
  clear A30
  have H' := zaa.mk H
  clear H
  go_enter Tryz.func8, Tryz.ntmps8
  go_wp2_with (first | (go_at_call 19; (with_reducible refine (zbF.calls a0 t1 _ A3.out).mono ?_); rintro e w4 ⟨rfl, hb⟩; have n0_ := zaa.mk (zab (lc HB.out) hb); clear HB; have HB := n0_; clear n0_; (try clear hb); (try clear hb2); (try clear hk); (try clear hi)))
  go_loopg [2, 5] k (fun kq v2 v5 w' => ∃ (x2_1 : List (S32)) (x5_1 : Int), v5 = .int .i64 x5_1 ∧ zaa (zaF.l0 kq a0 x2_1 x5_1 = some (r1, r2, r3)) ∧ zaa (kq ≤ k) ∧ zaa (Kd.R k32 32 w' w.heap.size (fun _ => True) v2 x2_1) ∧ zaa (Below w.heap.size w w'))
  case atStart => exact ⟨(([] : List (S32))), (t1), rs, H', ⟨Nat.le_refl _⟩, ⟨by first | exact Kd.zcl _ _ _ _ _ | exact Kd.zdi _ _ _ _ _ | exact Kd.zcA _ _ _ _ _ | exact Kd.zdf _ _ _ _ _ | exact Kd.zdh _ _ _ _ _⟩, ⟨lb⟩⟩
  case round =>
   clear H'
   try clear c2
   try clear c2b0
   try clear c2b1
   try clear p2
   obtain ⟨x2_1, x5_1, rfl, HA, HK1, HO_2, HB⟩ := hrel
   cases gk with
   | zero => exact absurd HA.out (by simp [zaF.l0])
   | succ k1 =>
    have H := HA.out
    clear HA
    simp only [zaF.l0] at H
    by_cases c5 : x5_1 < (a0.size : Int)
    ·rw [if_pos c5] at H
     have c5b0 : decide (x5_1 < (a0.size : Int)) = true := zDT c5
     clear c5
     by_cases c6 : 0 ≤ x5_1
     ·rw [if_pos c6] at H
      have c6b0 := eq_true c6
      have c6b1 : decide (0 ≤ x5_1) = true := zDT c6
      clear c6
      by_cases c7 : x5_1 ≤ (a0.size : Int)
      ·rw [if_pos c7] at H
       have c7b0 := eq_true c7
       have c7b1 : decide (x5_1 ≤ (a0.size : Int)) = true := zDT c7
       clear c7
       replace H := zBE H
       obtain ⟨⟨t2, t3, t4, t5, t6⟩, A80, H⟩ := H
       replace H : (if t6 = true then (if x2_1.length < 4398046511104 then (if 0 ≤ (wrap64 (x5_1 + t5)) then (if (wrap64 (x5_1 + t5)) ≤ (a0.size : Int) then ((zbF.f (a0.extract ((wrap64 (x5_1 + t5)) : Int).toNat a0.size)).bind fun t11 => (zaF.l0 k1 a0 (x2_1 ++ [(⟨t2, t3, x5_1⟩ : S32)]) (wrap64 ((wrap64 (x5_1 + t5)) + t11)))) else (none)) else (none)) else (none)) else (some (([] : List (S32)), x5_1, 200))) = some (r1, r2, r3) := H
       have A8 := zaa.mk A80
       clear A80
       by_cases c9 : t6 = true
       ·subst c9
        have H1 : (if x2_1.length < 4398046511104 then (if 0 ≤ (wrap64 (x5_1 + t5)) then (if (wrap64 (x5_1 + t5)) ≤ (a0.size : Int) then ((zbF.f (a0.extract ((wrap64 (x5_1 + t5)) : Int).toNat a0.size)).bind fun t11 => (zaF.l0 k1 a0 (x2_1 ++ [(⟨t2, t3, x5_1⟩ : S32)]) (wrap64 ((wrap64 (x5_1 + t5)) + t11)))) else (none)) else (none)) else (none)) = some (r1, r2, r3) := by rw [if_pos rfl] at H; exact H
        clear H
        have H := H1
        clear H1
        by_cases c10 : x2_1.length < 4398046511104
        ·rw [if_pos c10] at H
         have LMc10 := zaa.mk c10
         clear c10
         obtain ⟨y8, hy8⟩ : ∃ y_ : List (S32), y_ = (x2_1 ++ [(⟨t2, t3, x5_1⟩ : S32)]) := ⟨_, rfl⟩
         replace H : (if 0 ≤ (wrap64 (x5_1 + t5)) then (if (wrap64 (x5_1 + t5)) ≤ (a0.size : Int) then ((zbF.f (a0.extract ((wrap64 (x5_1 + t5)) : Int).toNat a0.size)).bind fun t11 => (zaF.l0 k1 a0 y8 (wrap64 ((wrap64 (x5_1 + t5)) + t11)))) else (none)) else (none)) = some (r1, r2, r3) := by first | (rw [hy8]; with_reducible exact H) | (have H2_ := (Option.bind_some _ _).symm.trans H; rw [hy8]; with_reducible exact H2_) | (have H2_ := (Option.bind_some _ _).symm.trans H; with_reducible exact H2_) | with_reducible exact H | (rw [hy8]; exact H) | exact H
         have Ny8 := zaa.mk hy8
         clear hy8
         obtain ⟨ji11, hji11⟩ : ∃ j_ : Int, (wrap64 (x5_1 + t5)) = j_ := ⟨_, rfl⟩
         replace H : (if 0 ≤ (ji11) then (if (ji11) ≤ (a0.size : Int) then ((zbF.f (a0.extract ((ji11) : Int).toNat a0.size)).bind fun t11 => (zaF.l0 k1 a0 y8 (wrap64 ((ji11) + t11)))) else (none)) else (none)) = some (r1, r2, r3) := by first | (rw [hji11] at H; exact H) | (simp only [hji11] at H ⊢; exact H)
         (try rw [hji11] at A8)
         have hji11w : (IntKind.i64.wrap (x5_1 + t5)) = ji11 := (zbs _).trans hji11
         by_cases c12 : 0 ≤ (ji11)
         ·rw [if_pos c12] at H
          have c12b0 := eq_true c12
          have c12b1 : decide (0 ≤ (ji11)) = true := zDT c12
          clear c12
          by_cases c13 : (ji11) ≤ (a0.size : Int)
          ·rw [if_pos c13] at H
           have c13b0 := eq_true c13
           have c13b1 : decide ((ji11) ≤ (a0.size : Int)) = true := zDT c13
           clear c13
           replace H := zBE H
           obtain ⟨t11, A140, H⟩ := H
           replace H : (zaF.l0 k1 a0 y8 (wrap64 ((ji11) + t11))) = some (r1, r2, r3) := H
           have A14 := zaa.mk A140
           clear A140
           have H' := zaa.mk H
           clear H
           go_wp2_with (first | (go_at_call 21; (with_reducible refine (zc8.calls (a0.extract (x5_1 : Int).toNat a0.size) t2 t3 t4 t5 true _ ?side1 A8.out).mono ?_); (case side1 => exact G.at hG.out (lc HB.out)); rintro e w15 ⟨rfl, hb⟩; have n0_ := zaa.mk (Kd.zaS (rc HO_2.out) hb); have n1_ := zaa.mk (zab (lc HB.out) hb); clear HO_2; clear HB; have HO_2 := n0_; have HB := n1_; clear n0_ n1_; (try clear hb); (try clear hb2); (try clear hk); (try clear hi)) | ((with_reducible refine zaA (N := 6) rfl ?_); refine zaN ?hg (N := 6) ?hd (cs := #[.int .i64 0, .string (⟨#[]⟩ : ByteArray), .int .i64 0]) (t := 32) ?hr ?_; (case hd => rfl); (case hg => rfl); (case hr => first | (go_simp; done) | (go_simp; rfl)); intro gb7 hg w16 hbox hb; have n0_ := zaa.mk (Kd.zaS (Kd.zga (rc HO_2.out) gb7 (Nat.le_of_eq hg.symm)) hb); have n1_ := zaa.mk (zab (lc HB.out) hb); have n2_ := zaa.mk (hbox); have n3_ := zaa.mk ((by rw [hg]; exact (zad (lc HB.out)) : w.heap.size ≤ gb7)); have n4_ := zaa.mk ((by rw [hg]; exact (zad (lc HB.out)) : w.heap.size ≤ gb7)); clear HO_2; clear HB; have HO_2 := n0_; have HB := n1_; have BK7 := n2_; have GW7 := n3_; have GE7 := n4_; clear n0_ n1_ n2_ n3_ n4_; clear hb hbox hg; have hcz17_0 : w16.cell? ⟨gb7, 0, none⟩ = some (.int .i64 0) := (zah BK7.out 0).trans rfl; have hcz17_1 : w16.cell? ⟨gb7, 1, none⟩ = some (.string (⟨#[]⟩ : ByteArray)) := (zah BK7.out 1).trans rfl; have hcz17_2 : w16.cell? ⟨gb7, 2, none⟩ = some (.int .i64 0) := (zah BK7.out 2).trans rfl; have hfz17_0 := zae BK7.out 0; have hfz17_1 := zae BK7.out 1; have hfz17_2 := zae BK7.out 2; (try have hbz_gb7_0 : w16.cell? ⟨gb7, 0, none⟩ = some (.int .i64 0) := (zah BK7.out 0).trans rfl); (try have hbf_gb7_0 := zae BK7.out 0); (try have hbz_gb7_1 : w16.cell? ⟨gb7, 1, none⟩ = some (.string (⟨#[]⟩ : ByteArray)) := (zah BK7.out 1).trans rfl); (try have hbf_gb7_1 := zae BK7.out 1); (try have hbz_gb7_2 : w16.cell? ⟨gb7, 2, none⟩ = some (.int .i64 0) := (zah BK7.out 2).trans rfl); (try have hbf_gb7_2 := zae BK7.out 2); (try have hst_gb7 : ∀ a_ b_ c_ d_ : Value, ((((w16.setCell ⟨gb7, 0, none⟩ a_).setCell ⟨gb7, 1, none⟩ b_).setCell ⟨gb7, 2, none⟩ c_).setCell ⟨gb7, 2, none⟩ d_).cell? ⟨gb7, 2, none⟩ = some d_ := fun a_ b_ c_ d_ => (zah (zaB (zaB (zaB (zaB BK7.out 0 a_ rfl) 1 b_ rfl) 2 c_ rfl) 2 d_ rfl) 2).trans rfl)) | ((with_reducible refine zcO (b := .append) (xs := #[.tmp 37, .tmp 39]) rfl ?_); at_builtin; refine Kd.zhT k32 (w0 := w) w.heap.size rfl (.tmp 37) (.tmp 39) 22 32 (.agg #[(.int .i64 0), (.string ⟨#[]⟩), (.int .i64 0)]) 32 rfl Tryz.underlying22 zqd rfl (by decide) (by omega) u2 x2_1 (⟨t2, t3, x5_1⟩ : S32) [.int .i64 t2, .string t3, .int .i64 x5_1] (fun k_ => k_ ≠ gb7) (fun _ => False) rfl (by first | (go_simp; done) | (go_simp; rfl)) ?aP (fun _ hk => hk.elim) ?aF ?aO ?aB ?aS ?aL ?_; (case aP => exact zph _ _ _ (⟨t2, t3, x5_1⟩ : S32)); (case aB => exact lb); (case aF => exact (fun k_ hk => Kd.ze1 (g := gb7) (o := .cells #[.int .i64 t2, .string t3, .int .i64 x5_1] 32 (0, 0)) (by (with_reducible repeat (first | refine zap ?_ _ | refine zar ?_ | refine zai ?_ _)); refine zaB (cs := #[.int .i64 t2, .string t3, .int .i64 t4]) ?_ 2 _ rfl; (with_reducible repeat (first | refine zap ?_ _ | refine zar ?_ | refine zai ?_ _)); refine zaB (cs := #[.int .i64 t2, .string t3, .int .i64 0]) ?_ 2 _ rfl; (with_reducible repeat (first | refine zap ?_ _ | refine zar ?_ | refine zai ?_ _)); refine zaB (cs := #[.int .i64 t2, .string (⟨#[]⟩ : ByteArray), .int .i64 0]) ?_ 1 _ rfl; (with_reducible repeat (first | refine zap ?_ _ | refine zar ?_ | refine zai ?_ _)); refine zaB (cs := #[.int .i64 0, .string (⟨#[]⟩ : ByteArray), .int .i64 0]) ?_ 0 _ rfl; (with_reducible repeat (first | refine zap ?_ _ | refine zar ?_ | refine zai ?_ _)); exact BK7.out) k_ hk)); (case aO => exact (by (with_reducible repeat (first | apply Kd.zaQ | apply Kd.zaR | apply Kd.zbb)); exact Kd.za7 (Kd.zck (p := ⟨gb7, 2, none⟩) (Kd.zck (p := ⟨gb7, 2, none⟩) (Kd.zck (p := ⟨gb7, 1, none⟩) (Kd.zck (p := ⟨gb7, 0, none⟩) (Kd.za7 HO_2.out (fun k_ hk => (⟨hk, hk.2⟩ : _ ∧ k_ ≠ gb7))) (fun _ hk => hk.2) (.int .i64 t2)) (fun _ hk => hk.2) (.string t3)) (fun _ hk => hk.2) (.int .i64 t4)) (fun _ hk => hk.2) (.int .i64 x5_1)) (fun _ hk => hk.1.2))); (case aS => exact (zad lb)); (case aL => have := LMc10.out; omega); intro v9 w18 ho hb hg hat; rw [← Ny8.out] at ho; have n0_ := zaa.mk (zgi (g := gb7) (o := .cells #[.int .i64 t2, .string t3, .int .i64 x5_1] 32 (0, 0)) (by (with_reducible repeat (first | refine zap ?_ _ | refine zar ?_ | refine zai ?_ _)); refine zaB (cs := #[.int .i64 t2, .string t3, .int .i64 t4]) ?_ 2 _ rfl; (with_reducible repeat (first | refine zap ?_ _ | refine zar ?_ | refine zai ?_ _)); refine zaB (cs := #[.int .i64 t2, .string t3, .int .i64 0]) ?_ 2 _ rfl; (with_reducible repeat (first | refine zap ?_ _ | refine zar ?_ | refine zai ?_ _)); refine zaB (cs := #[.int .i64 t2, .string (⟨#[]⟩ : ByteArray), .int .i64 0]) ?_ 1 _ rfl; (with_reducible repeat (first | refine zap ?_ _ | refine zar ?_ | refine zai ?_ _)); refine zaB (cs := #[.int .i64 0, .string (⟨#[]⟩ : ByteArray), .int .i64 0]) ?_ 0 _ rfl; (with_reducible repeat (first | refine zap ?_ _ | refine zar ?_ | refine zai ?_ _)); exact BK7.out) hg (Kd.zdN HO_2.out (fun _ hk => hk.2))); have n1_ := zaa.mk (hb); have n2_ := zaa.mk (ho); clear BK7; clear HB; clear HO_2; have BK7 := n0_; have HB := n1_; have HO10 := n2_; clear n0_ n1_ n2_; clear ho hb hg hat) | ((with_reducible refine zcL (f := 19) rfl ?_); refine zgC (some 22) rfl rfl Tryz.func19 (by kernel_rfl) rfl #[.string (a0.extract ((ji11) : Int).toNat a0.size), .func (.func 20) #[] #[]] rfl (by (try simp only [List.map_toArray, List.map_cons, List.map_nil]); first | done | (simp only [hji11]; rfl) | rfl | (simp only [List.length_drop, List.length_take]; rfl)) ?_; (with_reducible refine (zbF.calls (a0.extract ((ji11) : Int).toNat a0.size) t11 _ A14.out).mono ?_); rintro e w19 ⟨rfl, hb⟩; refine ⟨_, rfl, ?_⟩; have n0_ := zaa.mk (Kd.zaS (rc HO10.out) hb); have n1_ := zaa.mk (zak (g := gb7) (o := .cells #[.int .i64 t2, .string t3, .int .i64 x5_1] 32 (0, 0)) (bc BK7.out) hb); have n2_ := zaa.mk (zab lb hb); clear HO10; clear BK7; clear HB; have HO10 := n0_; have BK7 := n1_; have HB := n2_; clear n0_ n1_ n2_; (try clear hb); (try clear hb2); (try clear hk); (try clear hi)))
           go_roundg k1
           case measure => have := HK1.out; omega
           case rel => exact ⟨(y8), (wrap64 ((ji11) + t11)), (by first | rfl | (simp; done) | (simp only [← hji11] <;> (first | rfl | simp)) | (simp [*]; done)), H', ⟨by have := HK1.out; omega⟩, ⟨by (with_reducible repeat (first | apply Kd.zaQ | apply Kd.zaR | apply Kd.zbb)); exact Kd.za7 HO10.out (fun _ hk => trivial)⟩, ⟨lb⟩⟩
          ·rw [if_neg c13] at H
           exact absurd H (by simp)
         ·rw [if_neg c12] at H
          exact absurd H (by simp)
        ·rw [if_neg c10] at H
         exact absurd H (by simp)
       ·replace c9 := Bool.eq_false_iff.mpr c9
        subst c9
        have H1 : (some (([] : List (S32)), x5_1, 200)) = some (r1, r2, r3) := by rw [if_neg (show ¬ (false = true) by decide)] at H; exact H
        clear H
        have H := H1
        clear H1
        simp only [Option.some.injEq, Prod.mk.injEq] at H
        obtain ⟨rfl, rfl, rfl⟩ := H
        go_wp2_with (first | (go_at_call 21; (with_reducible refine (zc8.calls (a0.extract (x5_1 : Int).toNat a0.size) t2 t3 t4 t5 false _ ?side1 A8.out).mono ?_); (case side1 => exact G.at hG.out (lc HB.out)); rintro e w20 ⟨rfl, hb⟩; have n0_ := zaa.mk (Kd.zaS (rc HO_2.out) hb); have n1_ := zaa.mk (zab (lc HB.out) hb); clear HO_2; clear HB; have HO_2 := n0_; have HB := n1_; clear n0_ n1_; (try clear hb); (try clear hb2); (try clear hk); (try clear hi)) | ((with_reducible refine zaA (N := 6) rfl ?_); refine zaN ?hg (N := 6) ?hd (cs := #[.int .i64 0, .string (⟨#[]⟩ : ByteArray), .int .i64 0]) (t := 32) ?hr ?_; (case hd => rfl); (case hg => rfl); (case hr => first | (go_simp; done) | (go_simp; rfl)); intro gb7 hg w21 hbox hb; have n0_ := zaa.mk (Kd.zaS (Kd.zga (rc HO_2.out) gb7 (Nat.le_of_eq hg.symm)) hb); have n1_ := zaa.mk (zab (lc HB.out) hb); have n2_ := zaa.mk (hbox); have n3_ := zaa.mk ((by rw [hg]; exact (zad (lc HB.out)) : w.heap.size ≤ gb7)); have n4_ := zaa.mk ((by rw [hg]; exact (zad (lc HB.out)) : w.heap.size ≤ gb7)); clear HO_2; clear HB; have HO_2 := n0_; have HB := n1_; have BK7 := n2_; have GW7 := n3_; have GE7 := n4_; clear n0_ n1_ n2_ n3_ n4_; clear hb hbox hg; have hcz22_0 : w21.cell? ⟨gb7, 0, none⟩ = some (.int .i64 0) := (zah BK7.out 0).trans rfl; have hcz22_1 : w21.cell? ⟨gb7, 1, none⟩ = some (.string (⟨#[]⟩ : ByteArray)) := (zah BK7.out 1).trans rfl; have hcz22_2 : w21.cell? ⟨gb7, 2, none⟩ = some (.int .i64 0) := (zah BK7.out 2).trans rfl; have hfz22_0 := zae BK7.out 0; have hfz22_1 := zae BK7.out 1; have hfz22_2 := zae BK7.out 2))
        go_ret3
        exact ⟨_, by first | rfl | (simp [zaf, zag] <;> rfl) | (simp [*, zaf, zag] <;> rfl), by first | exact Kd.zcl _ _ _ _ _ | exact Kd.zdi _ _ _ _ _ | exact Kd.zcA _ _ _ _ _ | exact Kd.zdf _ _ _ _ _ | exact Kd.zdh _ _ _ _ _, lb⟩
      ·rw [if_neg c7] at H
       exact absurd H (by simp)
     ·rw [if_neg c6] at H
      exact absurd H (by simp)
    ·rw [if_neg c5] at H
     have c5b0 : decide (x5_1 < (a0.size : Int)) = false := zDF c5
     clear c5
     simp only [Option.some.injEq, Prod.mk.injEq] at H
     obtain ⟨rfl, rfl, rfl⟩ := H
     go_wp2
     go_ret3
     exact ⟨_, by first | rfl | (simp [zaf, zag] <;> rfl) | (simp [*, zaf, zag] <;> rfl), by (with_reducible repeat (first | apply Kd.zaQ | apply Kd.zaR | apply Kd.zbb)); exact HO_2.out, lb⟩
def zaH.l0 : Nat → ByteArray → List (S32) → Int → Int → ByteArray → Int → Option (Bool)
 | 0, _, _, _, _, _, _ => none
 | k + 1, x1, x5, x6, x7, x8, x9 => if x9 < (x5.length : Int) then (if x9 > 0 then (if x8.size + 1 ≤ 9223372036854775807 then (if 0 ≤ x9 then (if (x8 ++ (⟨#[32]⟩ : ByteArray)).size + ((zbB x5 x9).f1).size ≤ 9223372036854775807 then (zaH.l0 k x1 x5 x6 x7 ((x8 ++ (⟨#[32]⟩ : ByteArray)) ++ ((zbB x5 x9).f1)) (wrap64 (x9 + 1))) else (none)) else (none)) else (none)) else (if 0 ≤ x9 then (if x8.size + ((zbB x5 x9).f1).size ≤ 9223372036854775807 then (zaH.l0 k x1 x5 x6 x7 (x8 ++ ((zbB x5 x9).f1)) (wrap64 (x9 + 1))) else (none)) else (none))) else (if x7 = 0 then (if x6 = 0 then (some (x8.toList == x1.toList)) else (some false)) else (some false))
def zaH.f (k : Nat) (a0 : ByteArray) (a1 : ByteArray) : Option (Bool) := (zaF.f k a0).bind fun bt1 => (zaH.l0 k a1 bt1.1 bt1.2.1 bt1.2.2 (⟨#[]⟩ : ByteArray) 0)
theorem zaH.zbp : ∀ k, (∀ y0 y1 y2 y3 y4 y5, LeO (zaH.l0 k y0 y1 y2 y3 y4 y5) (zaH.l0 (k + 1) y0 y1 y2 y3 y4 y5))
 | 0 => fun _ _ _ _ _ _ r h => by simp [zaH.l0] at h
 | k + 1 => by
  have ih0 := zaH.zbp k
  ·intro y0 y1 y2 y3 y4 y5
   unfold zaH.l0
   repeat' with_reducible first | exact ih0 _ _ _ _ _ _ | exact zaF.mono _ _ | exact LeO.refl _ | exact LeO.none _ | refine LeO.ite ?_ ?_ | refine LeO.bind ?_ (fun _ => ?_)
theorem zaH.mono : ∀ a0 a1 k, LeO (zaH.f k a0 a1) (zaH.f (k + 1) a0 a1) := by
 intro a0 a1 k
 have ih0 := zaH.zbp k
 unfold zaH.f
 repeat' with_reducible first | exact ih0 _ _ _ _ _ _ | exact zaF.mono _ _ | exact LeO.refl _ | exact LeO.none _ | refine LeO.ite ?_ ?_ | refine LeO.bind ?_ (fun _ => ?_)
theorem zaH.calls (k : Nat) (a0 : ByteArray) (a1 : ByteArray) (r : Bool) (w : World) (hG : zaa (G w)) (h : zaH.f k a0 a1 = some r) :
  Calls Tryz.prog 25 #[.string a0, .string a1] w fun e w' => e = .returned (.bool r) ∧ Below w.heap.size w w' := by
 have HB := zaa.mk (Below.refl w.heap.size w)
 have H : ((zaF.f k a0).bind fun bt1 => (zaH.l0 k a1 bt1.1 bt1.2.1 bt1.2.2 (⟨#[]⟩ : ByteArray) 0)) = some r := h
 clear h
 replace H := zBE H
 obtain ⟨⟨t1, t2, t3⟩, A30, H⟩ := H
 replace H : (zaH.l0 k a1 t1 t2 t3 (⟨#[]⟩ : ByteArray) 0) = some r := H
 have A3 := zaa.mk A30
 clear A30
 have H' := zaa.mk H
 clear H
 go_enter Tryz.func25, Tryz.ntmps25
 go_wp2_with (first | (go_at_call 8; (with_reducible refine (zaF.calls k a0 t1 t2 t3 _ ?side1 A3.out).mono ?_); (case side1 => exact G.at hG.out (lc HB.out)); rintro e w4 ⟨v4, rfl, ho0, hb⟩; have n0_ := zaa.mk (Kd.zaz ho0 (zad (lc HB.out))); have n1_ := zaa.mk (zab (lc HB.out) hb); clear HB; have HO5 := n0_; have HB := n1_; clear n0_ n1_; (try clear hb); (try clear hb2); (try clear hk); (try clear hi); (try clear ho0)))
 go_loopg [8, 9] k (fun kq v8 v9 w' => ∃ (x8_1 : ByteArray) (x9_1 : Int), v8 = .string x8_1 ∧ v9 = .int .i64 x9_1 ∧ zaa (zaH.l0 kq a1 t1 t2 t3 x8_1 x9_1 = some r) ∧ zaa (kq ≤ k) ∧ zaa (Kd.R k32 32 w' w.heap.size (fun _ => True) v4 t1) ∧ zaa (Below w.heap.size w w'))
 case atStart => exact ⟨((⟨#[]⟩ : ByteArray)), (0), rs, rs, H', ⟨Nat.le_refl _⟩, ⟨by (with_reducible repeat (first | apply Kd.zaQ | apply Kd.zaR | apply Kd.zbb)); exact HO5.out⟩, ⟨lb⟩⟩
 case round =>
  clear H'
  try clear c2
  try clear p2
  obtain ⟨x8_1, x9_1, rfl, rfl, HA, HK1, HO_5, HB⟩ := hrel
  cases gk with
  | zero => exact absurd HA.out (by simp [zaH.l0])
  | succ k1 =>
   have H := HA.out
   clear HA
   simp only [zaH.l0] at H
   by_cases c5 : x9_1 < (t1.length : Int)
   ·rw [if_pos c5] at H
    have c5b0 : decide (x9_1 < (t1.length : Int)) = true := zDT c5
    clear c5
    by_cases c6 : x9_1 > 0
    ·rw [if_pos c6] at H
     have c6b0 : decide (0 < x9_1) = true := zDT c6
     clear c6
     by_cases c7 : x8_1.size + 1 ≤ 9223372036854775807
     ·rw [if_pos c7] at H
      have c7b0 := eq_true c7
      have c7b1 : decide (x8_1.size + 1 ≤ 9223372036854775807) = true := zDT c7
      try have c7b2 : (9223372036854775807 < x8_1.size + 1) = False := eq_false (Nat.not_lt.2 c7)
      by_cases c8 : 0 ≤ x9_1
      ·rw [if_pos c8] at H
       have c8b0 : decide (0 ≤ x9_1) = true := zDT c8
       clear c8
       by_cases c9 : (x8_1 ++ (⟨#[32]⟩ : ByteArray)).size + ((zbB t1 x9_1).f1).size ≤ 9223372036854775807
       ·rw [if_pos c9] at H
        have c9b0 := eq_true c9
        have c9b1 : decide ((x8_1 ++ (⟨#[32]⟩ : ByteArray)).size + ((zbB t1 x9_1).f1).size ≤ 9223372036854775807) = true := zDT c9
        try have c9b2 : (9223372036854775807 < (x8_1 ++ (⟨#[32]⟩ : ByteArray)).size + ((zbB t1 x9_1).f1).size) = False := eq_false (Nat.not_lt.2 c9)
        have H' := zaa.mk H
        clear H
        obtain ⟨Ao10, co10, eo10⟩ := Kd.zaC HO_5.out
        subst eo10
        have p6 : 0 ≤ (x9_1 : Int) := zDO (by first | (with_reducible assumption) | assumption)
        have q6 : x9_1 < (t1.length : Int) := zDO (by first | (with_reducible assumption) | assumption)
        obtain ⟨ad6, e6, hx6_0, hx6_1, hx6_2⟩ := zgG (Kd.zax HO_5.out).2.2 x9_1 p6 q6
        cases e6
        replace p6 := eq_true p6
        replace q6 := eq_true q6
        go_wp2
        go_roundg k1
        case measure => have := HK1.out; omega
        case rel => exact ⟨((x8_1 ++ (⟨#[32]⟩ : ByteArray)) ++ ((zbB t1 x9_1).f1)), (wrap64 (x9_1 + 1)), rs, rs, H', ⟨by have := HK1.out; omega⟩, ⟨by (with_reducible repeat (first | apply Kd.zaQ | apply Kd.zaR | apply Kd.zbb)); exact HO_5.out⟩, ⟨lb⟩⟩
       ·rw [if_neg c9] at H
        exact absurd H (by simp)
      ·rw [if_neg c8] at H
       exact absurd H (by simp)
     ·rw [if_neg c7] at H
      exact absurd H (by simp)
    ·rw [if_neg c6] at H
     have c6b0 : decide (0 < x9_1) = false := zDF c6
     clear c6
     by_cases c11 : 0 ≤ x9_1
     ·rw [if_pos c11] at H
      have c11b0 : decide (0 ≤ x9_1) = true := zDT c11
      clear c11
      by_cases c12 : x8_1.size + ((zbB t1 x9_1).f1).size ≤ 9223372036854775807
      ·rw [if_pos c12] at H
       have c12b0 := eq_true c12
       have c12b1 : decide (x8_1.size + ((zbB t1 x9_1).f1).size ≤ 9223372036854775807) = true := zDT c12
       try have c12b2 : (9223372036854775807 < x8_1.size + ((zbB t1 x9_1).f1).size) = False := eq_false (Nat.not_lt.2 c12)
       have H' := zaa.mk H
       clear H
       obtain ⟨Ao13, co13, eo13⟩ := Kd.zaC HO_5.out
       subst eo13
       have p7 : 0 ≤ (x9_1 : Int) := zDO (by first | (with_reducible assumption) | assumption)
       have q7 : x9_1 < (t1.length : Int) := zDO (by first | (with_reducible assumption) | assumption)
       obtain ⟨ad7, e7, hx7_0, hx7_1, hx7_2⟩ := zgG (Kd.zax HO_5.out).2.2 x9_1 p7 q7
       cases e7
       replace p7 := eq_true p7
       replace q7 := eq_true q7
       go_wp2
       go_roundg k1
       case measure => have := HK1.out; omega
       case rel => exact ⟨(x8_1 ++ ((zbB t1 x9_1).f1)), (wrap64 (x9_1 + 1)), rs, rs, H', ⟨by have := HK1.out; omega⟩, ⟨by (with_reducible repeat (first | apply Kd.zaQ | apply Kd.zaR | apply Kd.zbb)); exact HO_5.out⟩, ⟨lb⟩⟩
      ·rw [if_neg c12] at H
       exact absurd H (by simp)
     ·rw [if_neg c11] at H
      exact absurd H (by simp)
   ·rw [if_neg c5] at H
    have c5b0 : decide (x9_1 < (t1.length : Int)) = false := zDF c5
    clear c5
    by_cases c14 : t3 = 0
    ·rw [if_pos c14] at H
     have c14b0 : (t3 == 0) = true := beq_iff_eq.mpr c14
     have c14b1 : (t3 != 0) = false := bne_eq_false_iff_eq.mpr c14
     clear c14
     by_cases c15 : t2 = 0
     ·rw [if_pos c15] at H
      have c15b0 : (t2 == 0) = true := beq_iff_eq.mpr c15
      have c15b1 : (t2 != 0) = false := bne_eq_false_iff_eq.mpr c15
      clear c15
      obtain rfl := Option.some.inj H
      obtain ⟨Ao16, co16, eo16⟩ := Kd.zaC HO_5.out
      subst eo16
      go_wp2
      go_ret
      exact ⟨by first | rfl | (simp [zaf, zag] <;> rfl) | (simp [*, zaf, zag] <;> rfl), lb⟩
     ·rw [if_neg c15] at H
      have c15b0 : (t2 == 0) = false := beq_eq_false_iff_ne.mpr c15
      have c15b1 : (t2 != 0) = true := bne_iff_ne.mpr c15
      obtain rfl := Option.some.inj H
      obtain ⟨Ao17, co17, eo17⟩ := Kd.zaC HO_5.out
      subst eo17
      go_wp2
      go_ret
      exact ⟨by first | rfl | (simp [zaf, zag] <;> rfl) | (simp [*, zaf, zag] <;> rfl), lb⟩
    ·rw [if_neg c14] at H
     have c14b0 : (t3 == 0) = false := beq_eq_false_iff_ne.mpr c14
     have c14b1 : (t3 != 0) = true := bne_iff_ne.mpr c14
     obtain rfl := Option.some.inj H
     obtain ⟨Ao18, co18, eo18⟩ := Kd.zaC HO_5.out
     subst eo18
     go_wp2
     go_ret
     exact ⟨by first | rfl | (simp [zaf, zag] <;> rfl) | (simp [*, zaf, zag] <;> rfl), lb⟩
def zaP.f (k : Nat) (a0 : ByteArray) (a1 : Int) : Option (Bool) := (zaF.f k a0).bind fun bt1 => (if bt1.2.2 = 200 then (if bt1.2.1 = a1 then (some ((bt1.1.length : Int) == 0)) else (some false)) else (some false))
theorem zaP.mono : ∀ a0 a1 k, LeO (zaP.f k a0 a1) (zaP.f (k + 1) a0 a1) := by
 intro a0 a1 k
 unfold zaP.f
 repeat' with_reducible first | exact zaF.mono _ _ | exact LeO.refl _ | exact LeO.none _ | refine LeO.ite ?_ ?_ | refine LeO.bind ?_ (fun _ => ?_)
theorem zaP.calls (k : Nat) (a0 : ByteArray) (a1 : Int) (r : Bool) (w : World) (hG : zaa (G w)) (h : zaP.f k a0 a1 = some r) :
  Calls Tryz.prog 24 #[.string a0, .int .i64 a1] w fun e w' => e = .returned (.bool r) ∧ Below w.heap.size w w' := by
 have HB := zaa.mk (Below.refl w.heap.size w)
 have H : ((zaF.f k a0).bind fun bt1 => (if bt1.2.2 = 200 then (if bt1.2.1 = a1 then (some ((bt1.1.length : Int) == 0)) else (some false)) else (some false))) = some r := h
 clear h
 replace H := zBE H
 obtain ⟨⟨t1, t2, t3⟩, A30, H⟩ := H
 replace H : (if t3 = 200 then (if t2 = a1 then (some ((t1.length : Int) == 0)) else (some false)) else (some false)) = some r := H
 have A3 := zaa.mk A30
 clear A30
 by_cases c4 : t3 = 200
 ·rw [if_pos c4] at H
  have c4b0 : (t3 == 200) = true := beq_iff_eq.mpr c4
  have c4b1 : (t3 != 200) = false := bne_eq_false_iff_eq.mpr c4
  clear c4
  by_cases c5 : t2 = a1
  ·rw [if_pos c5] at H
   have c5b0 : (t2 == a1) = true := beq_iff_eq.mpr c5
   have c5b1 : (t2 != a1) = false := bne_eq_false_iff_eq.mpr c5
   clear c5
   obtain rfl := Option.some.inj H
   go_enter Tryz.func24, Tryz.ntmps24
   go_wp2_with (first | (go_at_call 8; (with_reducible refine (zaF.calls k a0 t1 t2 t3 _ ?side1 A3.out).mono ?_); (case side1 => exact G.at hG.out (lc HB.out)); rintro e w6 ⟨v4, rfl, ho0, hb⟩; have n0_ := zaa.mk (Kd.zaz ho0 (zad (lc HB.out))); have n1_ := zaa.mk (zab (lc HB.out) hb); clear HB; have HO5 := n0_; have HB := n1_; clear n0_ n1_; (try clear hb); (try clear hb2); (try clear hk); (try clear hi); (try clear ho0); obtain ⟨Ao7, co7, eo7⟩ := Kd.zaC HO5.out; subst eo7))
   go_ret
   exact ⟨by first | rfl | (simp [zaf, zag] <;> rfl) | (simp [*, zaf, zag] <;> rfl), lb⟩
  ·rw [if_neg c5] at H
   have c5b0 : (t2 == a1) = false := beq_eq_false_iff_ne.mpr c5
   have c5b1 : (t2 != a1) = true := bne_iff_ne.mpr c5
   obtain rfl := Option.some.inj H
   go_enter Tryz.func24, Tryz.ntmps24
   go_wp2_with (first | (go_at_call 8; (with_reducible refine (zaF.calls k a0 t1 t2 t3 _ ?side1 A3.out).mono ?_); (case side1 => exact G.at hG.out (lc HB.out)); rintro e w8 ⟨v4, rfl, ho0, hb⟩; have n0_ := zaa.mk (Kd.zaz ho0 (zad (lc HB.out))); have n1_ := zaa.mk (zab (lc HB.out) hb); clear HB; have HO5 := n0_; have HB := n1_; clear n0_ n1_; (try clear hb); (try clear hb2); (try clear hk); (try clear hi); (try clear ho0)))
   go_ret
   exact ⟨by first | rfl | (simp [zaf, zag] <;> rfl) | (simp [*, zaf, zag] <;> rfl), lb⟩
 ·rw [if_neg c4] at H
  have c4b0 : (t3 == 200) = false := beq_eq_false_iff_ne.mpr c4
  have c4b1 : (t3 != 200) = true := bne_iff_ne.mpr c4
  obtain rfl := Option.some.inj H
  go_enter Tryz.func24, Tryz.ntmps24
  go_wp2_with (first | (go_at_call 8; (with_reducible refine (zaF.calls k a0 t1 t2 t3 _ ?side1 A3.out).mono ?_); (case side1 => exact G.at hG.out (lc HB.out)); rintro e w9 ⟨v4, rfl, ho0, hb⟩; have n0_ := zaa.mk (Kd.zaz ho0 (zad (lc HB.out))); have n1_ := zaa.mk (zab (lc HB.out) hb); clear HB; have HO5 := n0_; have HB := n1_; clear n0_ n1_; (try clear hb); (try clear hb2); (try clear hk); (try clear hi); (try clear ho0)))
  go_ret
  exact ⟨by first | rfl | (simp [zaf, zag] <;> rfl) | (simp [*, zaf, zag] <;> rfl), lb⟩
def zaJ.f (k : Nat)  : Option (Bool) := (zaP.f k (⟨#[123, 97, 61, 126, 34, 120, 34, 125, 32, 124, 61, 32, 39, 121]⟩ : ByteArray) 12).bind fun t1 => (if t1 = true then ((zaH.f k (⟨#[114, 97, 116, 101, 40, 123, 97, 33, 61, 34, 120, 92, 34, 34, 125, 91, 53, 109, 93, 41, 32, 62, 61, 32, 49, 46, 53]⟩ : ByteArray) (⟨#[114, 97, 116, 101, 32, 40, 32, 123, 32, 97, 32, 33, 61, 32, 120, 34, 32, 125, 32, 91, 32, 53, 109, 32, 93, 32, 41, 32, 62, 61, 32, 49, 46, 53]⟩ : ByteArray)).bind fun t2 => (if t2 = true then ((zaP.f k (⟨#[53, 75, 66, 32, 53, 120]⟩ : ByteArray) 4).bind fun t3 => (some t3)) else (some false))) else (some false))
theorem zaJ.mono : ∀ k, LeO (zaJ.f k ) (zaJ.f (k + 1) ) := by
 intro  k
 unfold zaJ.f
 repeat' with_reducible first | exact zaH.mono _ _ _ | exact zaP.mono _ _ _ | exact LeO.refl _ | exact LeO.none _ | refine LeO.ite ?_ ?_ | refine LeO.bind ?_ (fun _ => ?_)
theorem zaJ.calls (k : Nat)  (r : Bool) (w : World) (hG : zaa (G w)) (h : zaJ.f k  = some r) :
  Calls Tryz.prog 12 #[] w fun e w' => e = .returned (.bool r) ∧ Below w.heap.size w w' := by
 have HB := zaa.mk (Below.refl w.heap.size w)
 have H : ((zaP.f k (⟨#[123, 97, 61, 126, 34, 120, 34, 125, 32, 124, 61, 32, 39, 121]⟩ : ByteArray) 12).bind fun t1 => (if t1 = true then ((zaH.f k (⟨#[114, 97, 116, 101, 40, 123, 97, 33, 61, 34, 120, 92, 34, 34, 125, 91, 53, 109, 93, 41, 32, 62, 61, 32, 49, 46, 53]⟩ : ByteArray) (⟨#[114, 97, 116, 101, 32, 40, 32, 123, 32, 97, 32, 33, 61, 32, 120, 34, 32, 125, 32, 91, 32, 53, 109, 32, 93, 32, 41, 32, 62, 61, 32, 49, 46, 53]⟩ : ByteArray)).bind fun t2 => (if t2 = true then ((zaP.f k (⟨#[53, 75, 66, 32, 53, 120]⟩ : ByteArray) 4).bind fun t3 => (some t3)) else (some false))) else (some false))) = some r := h
 clear h
 replace H := zBE H
 obtain ⟨t1, A10, H⟩ := H
 replace H : (if t1 = true then ((zaH.f k (⟨#[114, 97, 116, 101, 40, 123, 97, 33, 61, 34, 120, 92, 34, 34, 125, 91, 53, 109, 93, 41, 32, 62, 61, 32, 49, 46, 53]⟩ : ByteArray) (⟨#[114, 97, 116, 101, 32, 40, 32, 123, 32, 97, 32, 33, 61, 32, 120, 34, 32, 125, 32, 91, 32, 53, 109, 32, 93, 32, 41, 32, 62, 61, 32, 49, 46, 53]⟩ : ByteArray)).bind fun t2 => (if t2 = true then ((zaP.f k (⟨#[53, 75, 66, 32, 53, 120]⟩ : ByteArray) 4).bind fun t3 => (some t3)) else (some false))) else (some false)) = some r := H
 have A1 := zaa.mk A10
 clear A10
 by_cases c2 : t1 = true
 ·subst c2
  have H1 : ((zaH.f k (⟨#[114, 97, 116, 101, 40, 123, 97, 33, 61, 34, 120, 92, 34, 34, 125, 91, 53, 109, 93, 41, 32, 62, 61, 32, 49, 46, 53]⟩ : ByteArray) (⟨#[114, 97, 116, 101, 32, 40, 32, 123, 32, 97, 32, 33, 61, 32, 120, 34, 32, 125, 32, 91, 32, 53, 109, 32, 93, 32, 41, 32, 62, 61, 32, 49, 46, 53]⟩ : ByteArray)).bind fun t2 => (if t2 = true then ((zaP.f k (⟨#[53, 75, 66, 32, 53, 120]⟩ : ByteArray) 4).bind fun t3 => (some t3)) else (some false))) = some r := by rw [if_pos rfl] at H; exact H
  clear H
  have H := H1
  clear H1
  replace H := zBE H
  obtain ⟨t2, A30, H⟩ := H
  replace H : (if t2 = true then ((zaP.f k (⟨#[53, 75, 66, 32, 53, 120]⟩ : ByteArray) 4).bind fun t3 => (some t3)) else (some false)) = some r := H
  have A3 := zaa.mk A30
  clear A30
  by_cases c4 : t2 = true
  ·subst c4
   have H1 : ((zaP.f k (⟨#[53, 75, 66, 32, 53, 120]⟩ : ByteArray) 4).bind fun t3 => (some t3)) = some r := by rw [if_pos rfl] at H; exact H
   clear H
   have H := H1
   clear H1
   replace H := zBE H
   obtain ⟨t3, A50, H⟩ := H
   replace H : (some t3) = some r := H
   have A5 := zaa.mk A50
   clear A50
   obtain rfl := Option.some.inj H
   go_enter Tryz.func12, Tryz.ntmps12
   go_wp2_with (first | (go_at_call 24; (with_reducible refine (zaP.calls k (⟨#[123, 97, 61, 126, 34, 120, 34, 125, 32, 124, 61, 32, 39, 121]⟩ : ByteArray) 12 true _ ?side1 A1.out).mono ?_); (case side1 => exact G.at hG.out (lc HB.out)); rintro e w6 ⟨rfl, hb⟩; have n0_ := zaa.mk (zab (lc HB.out) hb); clear HB; have HB := n0_; clear n0_; (try clear hb); (try clear hb2); (try clear hk); (try clear hi)) | (go_at_call 25; (with_reducible refine (zaH.calls k (⟨#[114, 97, 116, 101, 40, 123, 97, 33, 61, 34, 120, 92, 34, 34, 125, 91, 53, 109, 93, 41, 32, 62, 61, 32, 49, 46, 53]⟩ : ByteArray) (⟨#[114, 97, 116, 101, 32, 40, 32, 123, 32, 97, 32, 33, 61, 32, 120, 34, 32, 125, 32, 91, 32, 53, 109, 32, 93, 32, 41, 32, 62, 61, 32, 49, 46, 53]⟩ : ByteArray) true _ ?side1 A3.out).mono ?_); (case side1 => exact G.at hG.out (lc HB.out)); rintro e w7 ⟨rfl, hb⟩; have n0_ := zaa.mk (zab (lc HB.out) hb); clear HB; have HB := n0_; clear n0_; (try clear hb); (try clear hb2); (try clear hk); (try clear hi)) | (go_at_call 24; (with_reducible refine (zaP.calls k (⟨#[53, 75, 66, 32, 53, 120]⟩ : ByteArray) 4 t3 _ ?side1 A5.out).mono ?_); (case side1 => exact G.at hG.out (lc HB.out)); rintro e w8 ⟨rfl, hb⟩; have n0_ := zaa.mk (zab (lc HB.out) hb); clear HB; have HB := n0_; clear n0_; (try clear hb); (try clear hb2); (try clear hk); (try clear hi)))
   go_ret
   exact ⟨by first | rfl | (simp [zaf, zag] <;> rfl) | (simp [*, zaf, zag] <;> rfl), lb⟩
  ·replace c4 := Bool.eq_false_iff.mpr c4
   subst c4
   have H1 : (some false) = some r := by rw [if_neg (show ¬ (false = true) by decide)] at H; exact H
   clear H
   have H := H1
   clear H1
   obtain rfl := Option.some.inj H
   go_enter Tryz.func12, Tryz.ntmps12
   go_wp2_with (first | (go_at_call 24; (with_reducible refine (zaP.calls k (⟨#[123, 97, 61, 126, 34, 120, 34, 125, 32, 124, 61, 32, 39, 121]⟩ : ByteArray) 12 true _ ?side1 A1.out).mono ?_); (case side1 => exact G.at hG.out (lc HB.out)); rintro e w9 ⟨rfl, hb⟩; have n0_ := zaa.mk (zab (lc HB.out) hb); clear HB; have HB := n0_; clear n0_; (try clear hb); (try clear hb2); (try clear hk); (try clear hi)) | (go_at_call 25; (with_reducible refine (zaH.calls k (⟨#[114, 97, 116, 101, 40, 123, 97, 33, 61, 34, 120, 92, 34, 34, 125, 91, 53, 109, 93, 41, 32, 62, 61, 32, 49, 46, 53]⟩ : ByteArray) (⟨#[114, 97, 116, 101, 32, 40, 32, 123, 32, 97, 32, 33, 61, 32, 120, 34, 32, 125, 32, 91, 32, 53, 109, 32, 93, 32, 41, 32, 62, 61, 32, 49, 46, 53]⟩ : ByteArray) false _ ?side1 A3.out).mono ?_); (case side1 => exact G.at hG.out (lc HB.out)); rintro e w10 ⟨rfl, hb⟩; have n0_ := zaa.mk (zab (lc HB.out) hb); clear HB; have HB := n0_; clear n0_; (try clear hb); (try clear hb2); (try clear hk); (try clear hi)))
   go_ret
   exact ⟨by first | rfl | (simp [zaf, zag] <;> rfl) | (simp [*, zaf, zag] <;> rfl), lb⟩
 ·replace c2 := Bool.eq_false_iff.mpr c2
  subst c2
  have H1 : (some false) = some r := by rw [if_neg (show ¬ (false = true) by decide)] at H; exact H
  clear H
  have H := H1
  clear H1
  obtain rfl := Option.some.inj H
  go_enter Tryz.func12, Tryz.ntmps12
  go_wp2_with (first | (go_at_call 24; (with_reducible refine (zaP.calls k (⟨#[123, 97, 61, 126, 34, 120, 34, 125, 32, 124, 61, 32, 39, 121]⟩ : ByteArray) 12 false _ ?side1 A1.out).mono ?_); (case side1 => exact G.at hG.out (lc HB.out)); rintro e w11 ⟨rfl, hb⟩; have n0_ := zaa.mk (zab (lc HB.out) hb); clear HB; have HB := n0_; clear n0_; (try clear hb); (try clear hb2); (try clear hk); (try clear hi)))
  go_ret
  exact ⟨by first | rfl | (simp [zaf, zag] <;> rfl) | (simp [*, zaf, zag] <;> rfl), lb⟩
def zan.l0 : Nat → List (S32) → List (S33) → Int → Option ((List (S33)))
 | 0, _, _, _ => none
 | k + 1, x0, x3, x4 => if x4 < (x0.length : Int) then (if 0 ≤ x4 then (if x3.length < 4398046511104 then (zan.l0 k x0 (x3 ++ [(⟨(zbB x0 x4).f0, (zbB x0 x4).f1, (zbB x0 x4).f2⟩ : S33)]) (wrap64 (x4 + 1))) else (none)) else (none)) else (some x3)
def zan.f (k : Nat) (l0 : List (S32)) : Option ((List (S33))) := zan.l0 k l0 ([] : List (S33)) 0
theorem zan.zbp : ∀ k, (∀ y0 y1 y2, LeO (zan.l0 k y0 y1 y2) (zan.l0 (k + 1) y0 y1 y2))
 | 0 => fun _ _ _ r h => by simp [zan.l0] at h
 | k + 1 => by
  have ih0 := zan.zbp k
  ·intro y0 y1 y2
   unfold zan.l0
   repeat' with_reducible first | exact ih0 _ _ _ | exact LeO.refl _ | exact LeO.none _ | refine LeO.ite ?_ ?_ | refine LeO.bind ?_ (fun _ => ?_)
theorem zan.mono : ∀ a0 k, LeO (zan.f k a0) (zan.f (k + 1) a0) := by
 intro a0 k
 have ih0 := zan.zbp k
 unfold zan.f
 repeat' with_reducible first | exact ih0 _ _ _ | exact LeO.refl _ | exact LeO.none _ | refine LeO.ite ?_ ?_ | refine LeO.bind ?_ (fun _ => ?_)
def zan.T5 : Bool × List (List Nat × List Nat) := (true, [([], []), ([], []), ([], []), ([1, 2], [1, 2]), ([3], [3]), ([4], [4]), ([], []), ([], []), ([6, 7], [6, 7]), ([8], [8]), ([9], [9]), ([], []), ([], []), ([11, 12], [11, 12]), ([13], [13]), ([14], [14]), ([5, 10, 15], [5, 10, 15]), ([16], [16]), ([0, 17], [0, 17]), ([18, 18, 0, 1, 2, 3, 4, 5, 6, 7, 8, 9, 10, 11, 12, 13, 14, 15, 16, 17, 18], [0, 18])])
def zan.B5 : List Nat := [0, 0, 0, 6, 14, 30, 0, 0, 192, 448, 960, 0, 0, 6144, 14336, 30720, 65534, 131070, 262143, 524287]
theorem zan.zrk : zgD .any (opsOf Tryz.f11 5) = zan.T5 := by kernel_rfl
theorem zan.zq0 : zeQ zan.T5.2 zan.B5 = true := by kernel_rfl
theorem zan.calls (k : Nat) (A0 : Option Addr) (c0 : Nat) (l0 : List (S32)) (r : List (S33)) (w : World) (hr0 : Kd.C k32 w A0 l0.length l0) (hc0 : l0.length ≤ c0) (h : zan.f k l0 = some r) :
  Calls Tryz.prog 11 #[.slice A0 l0.length c0] w fun e w' => ∃ v0_ : Value, e = .returned (v0_) ∧ Kd.R k33 33 w' w.heap.size (fun _ => True) v0_ r ∧ Below w.heap.size w w' := by
 have hu33 := Tryz.underlying33
 have HR0 := zaa.mk hr0
 have HC0 := zaa.mk hc0
 clear hr0 hc0
 have HB := zaa.mk (Below.refl w.heap.size w)
 have H : (zan.l0 k l0 ([] : List (S33)) 0) = some r := h
 clear h
 have H' := zaa.mk H
 clear H
 go_enter Tryz.func11, Tryz.ntmps11
 go_wp2
 go_loopg [3, 4] k (fun kq v3 v4 w' => ∃ (x3_1 : List (S33)) (x4_1 : Int), v4 = .int .i64 x4_1 ∧ zaa (zan.l0 kq l0 x3_1 x4_1 = some r) ∧ zaa (kq ≤ k) ∧ zaa (Kd.R k33 33 w' w.heap.size (fun _ => True) v3 x3_1) ∧ zaa (Below w.heap.size w w'))
 case atStart => exact ⟨(([] : List (S33))), (0), rs, H', ⟨Nat.le_refl _⟩, ⟨by first | exact Kd.zcl _ _ _ _ _ | exact Kd.zdi _ _ _ _ _ | exact Kd.zcA _ _ _ _ _ | exact Kd.zdf _ _ _ _ _ | exact Kd.zdh _ _ _ _ _⟩, ⟨lb⟩⟩
 case round =>
  clear H'
  try clear c1
  obtain ⟨x3_1, x4_1, rfl, HA, HK1, HO_3, HB⟩ := hrel
  cases gk with
  | zero => exact absurd HA.out (by simp [zan.l0])
  | succ k1 =>
   have H := HA.out
   clear HA
   simp only [zan.l0] at H
   by_cases c2 : x4_1 < (l0.length : Int)
   ·rw [if_pos c2] at H
    have c2b0 : decide (x4_1 < (l0.length : Int)) = true := zDT c2
    clear c2
    by_cases c3 : 0 ≤ x4_1
    ·rw [if_pos c3] at H
     have c3b0 : decide (0 ≤ x4_1) = true := zDT c3
     clear c3
     by_cases c4 : x3_1.length < 4398046511104
     ·rw [if_pos c4] at H
      have LMc4 := zaa.mk c4
      clear c4
      obtain ⟨y4, hy4⟩ : ∃ y_ : List (S33), y_ = (x3_1 ++ [(⟨(zbB l0 x4_1).f0, (zbB l0 x4_1).f1, (zbB l0 x4_1).f2⟩ : S33)]) := ⟨_, rfl⟩
      replace H : (zan.l0 k1 l0 y4 (wrap64 (x4_1 + 1))) = some r := by first | (rw [hy4]; with_reducible exact H) | (have H2_ := (Option.bind_some _ _).symm.trans H; rw [hy4]; with_reducible exact H2_) | (have H2_ := (Option.bind_some _ _).symm.trans H; with_reducible exact H2_) | with_reducible exact H | (rw [hy4]; exact H) | exact H
      have Ny4 := zaa.mk hy4
      clear hy4
      have H' := zaa.mk H
      clear H
      try go_wp2
      have n0_ := zaa.mk (Kd.zbb HO_3.out)
      have n1_ := zaa.mk (zav HB.out)
      clear HO_3
      clear HB
      have HO_3 := n0_
      have HB := n1_
      clear n0_ n1_
      have p1 : 0 ≤ (x4_1 : Int) := zDO (by first | (with_reducible assumption) | assumption)
      have q1 : x4_1 < (l0.length : Int) := zDO (by first | (with_reducible assumption) | assumption)
      obtain ⟨ad1, e1, hx1_0, hx1_1, hx1_2⟩ := zgG HR0.out x4_1 p1 q1
      have hw1_2 := hx1_2
      have hw1_1 := hx1_1
      have hw1_0 := hx1_0
      cases e1
      replace hx1_0 := (HB.out.cell (World.block_lt_of_cell? w _ hx1_0)).trans hx1_0
      replace hx1_1 := (HB.out.cell (World.block_lt_of_cell? w _ hx1_1)).trans hx1_1
      replace hx1_2 := (HB.out.cell (World.block_lt_of_cell? w _ hx1_2)).trans hx1_2
      replace p1 := eq_true p1
      replace q1 := eq_true q1
      have p2 : 0 ≤ (x4_1 : Int) := zDO (by first | (with_reducible assumption) | assumption)
      have q2 : x4_1 < (l0.length : Int) := zDO (by first | (with_reducible assumption) | assumption)
      obtain ⟨ad2, e2, hx2_0, hx2_1, hx2_2⟩ := zgG HR0.out x4_1 p2 q2
      have hw2_2 := hx2_2
      have hw2_1 := hx2_1
      have hw2_0 := hx2_0
      obtain rfl : ad1 = ad2 := (by injection e2)
      replace hx2_0 := (HB.out.cell (World.block_lt_of_cell? w _ hx2_0)).trans hx2_0
      replace hx2_1 := (HB.out.cell (World.block_lt_of_cell? w _ hx2_1)).trans hx2_1
      replace hx2_2 := (HB.out.cell (World.block_lt_of_cell? w _ hx2_2)).trans hx2_2
      replace p2 := eq_true p2
      replace q2 := eq_true q2
      have p3 : 0 ≤ (x4_1 : Int) := zDO (by first | (with_reducible assumption) | assumption)
      have q3 : x4_1 < (l0.length : Int) := zDO (by first | (with_reducible assumption) | assumption)
      obtain ⟨ad3, e3, hx3_0, hx3_1, hx3_2⟩ := zgG HR0.out x4_1 p3 q3
      have hw3_2 := hx3_2
      have hw3_1 := hx3_1
      have hw3_0 := hx3_0
      obtain rfl : ad1 = ad3 := (by injection e3)
      replace hx3_0 := (HB.out.cell (World.block_lt_of_cell? w _ hx3_0)).trans hx3_0
      replace hx3_1 := (HB.out.cell (World.block_lt_of_cell? w _ hx3_1)).trans hx3_1
      replace hx3_2 := (HB.out.cell (World.block_lt_of_cell? w _ hx3_2)).trans hx3_2
      replace p3 := eq_true p3
      replace q3 := eq_true q3
      refine zl1 (n := 20) (S := fun w' => w'.cell? (ad1.add ((x4_1).toNat * 3)) = some (.int .i64 ((zbB l0 x4_1).f0)) ∧ w'.cell? ⟨(ad1.add ((x4_1).toNat * 3)).block, (ad1.add ((x4_1).toNat * 3)).off + 1, none⟩ = some (.string ((zbB l0 x4_1).f1)) ∧ w'.cell? ⟨(ad1.add ((x4_1).toNat * 3)).block, (ad1.add ((x4_1).toNat * 3)).off + 2, none⟩ = some (.int .i64 ((zbB l0 x4_1).f2)) ∧ w'.cell? (ad1.add ((x4_1).toNat * 3)) = some (.int .i64 ((zbB l0 x4_1).f0)) ∧ w'.cell? ⟨(ad1.add ((x4_1).toNat * 3)).block, (ad1.add ((x4_1).toNat * 3)).off + 1, none⟩ = some (.string ((zbB l0 x4_1).f1)) ∧ w'.cell? ⟨(ad1.add ((x4_1).toNat * 3)).block, (ad1.add ((x4_1).toNat * 3)).off + 2, none⟩ = some (.int .i64 ((zbB l0 x4_1).f2)) ∧ w'.cell? (ad1.add ((x4_1).toNat * 3)) = some (.int .i64 ((zbB l0 x4_1).f0)) ∧ w'.cell? ⟨(ad1.add ((x4_1).toNat * 3)).block, (ad1.add ((x4_1).toNat * 3)).off + 1, none⟩ = some (.string ((zbB l0 x4_1).f1)) ∧ w'.cell? ⟨(ad1.add ((x4_1).toNat * 3)).block, (ad1.add ((x4_1).toNat * 3)).off + 2, none⟩ = some (.int .i64 ((zbB l0 x4_1).f2))) (ds := []) #[false, false, false, false, false, false, false, false, false, false, false, false, false, false, false, false, false, false, false, false] (by kernel_rfl) rfl rfl ⟨((HB.out.cell (World.block_lt_of_cell? w _ hw1_0)).trans hw1_0), ((HB.out.cell (World.block_lt_of_cell? w _ hw1_1)).trans hw1_1), ((HB.out.cell (World.block_lt_of_cell? w _ hw1_2)).trans hw1_2), ((HB.out.cell (World.block_lt_of_cell? w _ hw2_0)).trans hw2_0), ((HB.out.cell (World.block_lt_of_cell? w _ hw2_1)).trans hw2_1), ((HB.out.cell (World.block_lt_of_cell? w _ hw2_2)).trans hw2_2), ((HB.out.cell (World.block_lt_of_cell? w _ hw3_0)).trans hw3_0), ((HB.out.cell (World.block_lt_of_cell? w _ hw3_1)).trans hw3_1), ((HB.out.cell (World.block_lt_of_cell? w _ hw3_2)).trans hw3_2)⟩ (fun hHeld => ?_); refine zgF zan.zrk zan.zq0 (fun HT_ HW_ => ?_)
      generalize wr.drew = w5 at HO_3 HB hx1_0 hx1_1 hx1_2 hx2_0 hx2_1 hx2_2 hx3_0 hx3_1 hx3_2 hHeld ⊢
      refine zcK (i := 0) (N := some 11) (v := ?_) (a' := ?_) #[true, false, false, false, false, false, false, false, false, false, false, false, false, false, false, false, false, false, false, false] rfl rfl (zb8 HT_.out (by kernel_rfl)) (fun _ _ _ h => h) (Or.inl ⟨by rfl, ?_⟩) ?_ ?_
      rotate_left
      ·intro w'
       go_simp
       with_reducible rfl
      rotate_left
      ·simp only [Act.put, List.setIfInBounds_toArray, List.set_cons_zero, List.set_cons_succ, zbs, zbR]
       rfl
      refine zcK (i := 1) (N := some 12) (v := ?_) (a' := ?_) #[true, true, false, false, false, false, false, false, false, false, false, false, false, false, false, false, false, false, false, false] rfl rfl (zb8 HT_.out (by kernel_rfl)) (fun _ _ _ h => h) (Or.inl ⟨by rfl, ?_⟩) ?_ ?_
      rotate_left
      ·intro w'
       go_simp
       with_reducible rfl
      rotate_left
      ·simp only [Act.put, List.setIfInBounds_toArray, List.set_cons_zero, List.set_cons_succ, zbs, zbR]
       rfl
      refine zcK (i := 2) (N := some 13) (v := ?_) (a' := ?_) #[true, true, true, false, false, false, false, false, false, false, false, false, false, false, false, false, false, false, false, false] rfl rfl (zb8 HT_.out (by kernel_rfl)) (fun _ _ _ h => h) (Or.inl ⟨by rfl, ?_⟩) ?_ ?_
      rotate_left
      ·intro w'
       go_simp
       with_reducible rfl
      rotate_left
      ·simp only [Act.put, List.setIfInBounds_toArray, List.set_cons_zero, List.set_cons_succ, zbs, zbR]
       rfl
      refine zcK (i := 3) (N := some 14) (v := ?_) (a' := ?_) #[true, true, true, true, false, false, false, false, false, false, false, false, false, false, false, false, false, false, false, false] rfl rfl (zb8 HT_.out (by kernel_rfl)) (fun _ _ _ h => h) (Or.inl ⟨by rfl, ?_⟩) ?_ ?_
      rotate_left
      ·intro w'
       go_simp
       with_reducible rfl
      rotate_left
      ·simp only [Act.put, List.setIfInBounds_toArray, List.set_cons_zero, List.set_cons_succ, zbs, zbR]
       rfl
      refine zcK (i := 4) (N := some 15) (v := ?_) (a' := ?_) #[true, true, true, true, true, false, false, false, false, false, false, false, false, false, false, false, false, false, false, false] rfl rfl (zb8 HT_.out (by kernel_rfl)) (fun _ _ _ h => h) (Or.inl ⟨by rfl, ?_⟩) ?_ ?_
      rotate_left
      ·intro w'
       go_simp
       with_reducible rfl
      rotate_left
      ·simp only [Act.put, List.setIfInBounds_toArray, List.set_cons_zero, List.set_cons_succ, zbs, zbR]
       rfl
      refine zcK (i := 6) (N := some 17) (v := ?_) (a' := ?_) #[true, true, true, true, true, false, true, false, false, false, false, false, false, false, false, false, false, false, false, false] rfl rfl (zb8 HT_.out (by kernel_rfl)) (fun _ _ _ h => h) (Or.inl ⟨by rfl, ?_⟩) ?_ ?_
      rotate_left
      ·intro w'
       go_simp
       with_reducible rfl
      rotate_left
      ·simp only [Act.put, List.setIfInBounds_toArray, List.set_cons_zero, List.set_cons_succ, zbs, zbR]
       rfl
      refine zcK (i := 7) (N := some 18) (v := ?_) (a' := ?_) #[true, true, true, true, true, false, true, true, false, false, false, false, false, false, false, false, false, false, false, false] rfl rfl (zb8 HT_.out (by kernel_rfl)) (fun _ _ _ h => h) (Or.inl ⟨by rfl, ?_⟩) ?_ ?_
      rotate_left
      ·intro w'
       go_simp
       with_reducible rfl
      rotate_left
      ·simp only [Act.put, List.setIfInBounds_toArray, List.set_cons_zero, List.set_cons_succ, zbs, zbR]
       rfl
      refine zcK (i := 8) (N := some 19) (v := ?_) (a' := ?_) #[true, true, true, true, true, false, true, true, true, false, false, false, false, false, false, false, false, false, false, false] rfl rfl (zb8 HT_.out (by kernel_rfl)) (fun _ _ _ h => h) (Or.inl ⟨by rfl, ?_⟩) ?_ ?_
      rotate_left
      ·intro w'
       go_simp
       with_reducible rfl
      rotate_left
      ·simp only [Act.put, List.setIfInBounds_toArray, List.set_cons_zero, List.set_cons_succ, zbs, zbR]
       rfl
      refine zcK (i := 9) (N := some 20) (v := ?_) (a' := ?_) #[true, true, true, true, true, false, true, true, true, true, false, false, false, false, false, false, false, false, false, false] rfl rfl (zb8 HT_.out (by kernel_rfl)) (fun _ _ _ h => h) (Or.inl ⟨by rfl, ?_⟩) ?_ ?_
      rotate_left
      ·intro w'
       go_simp
       with_reducible rfl
      rotate_left
      ·simp only [Act.put, List.setIfInBounds_toArray, List.set_cons_zero, List.set_cons_succ, zbs, zbR]
       rfl
      refine zcK (i := 11) (N := some 22) (v := ?_) (a' := ?_) #[true, true, true, true, true, false, true, true, true, true, false, true, false, false, false, false, false, false, false, false] rfl rfl (zb8 HT_.out (by kernel_rfl)) (fun _ _ _ h => h) (Or.inl ⟨by rfl, ?_⟩) ?_ ?_
      rotate_left
      ·intro w'
       go_simp
       with_reducible rfl
      rotate_left
      ·simp only [Act.put, List.setIfInBounds_toArray, List.set_cons_zero, List.set_cons_succ, zbs, zbR]
       rfl
      refine zcK (i := 12) (N := some 23) (v := ?_) (a' := ?_) #[true, true, true, true, true, false, true, true, true, true, false, true, true, false, false, false, false, false, false, false] rfl rfl (zb8 HT_.out (by kernel_rfl)) (fun _ _ _ h => h) (Or.inl ⟨by rfl, ?_⟩) ?_ ?_
      rotate_left
      ·intro w'
       go_simp
       with_reducible rfl
      rotate_left
      ·simp only [Act.put, List.setIfInBounds_toArray, List.set_cons_zero, List.set_cons_succ, zbs, zbR]
       rfl
      refine zcK (i := 13) (N := some 24) (v := ?_) (a' := ?_) #[true, true, true, true, true, false, true, true, true, true, false, true, true, true, false, false, false, false, false, false] rfl rfl (zb8 HT_.out (by kernel_rfl)) (fun _ _ _ h => h) (Or.inl ⟨by rfl, ?_⟩) ?_ ?_
      rotate_left
      ·intro w'
       go_simp
       with_reducible rfl
      rotate_left
      ·simp only [Act.put, List.setIfInBounds_toArray, List.set_cons_zero, List.set_cons_succ, zbs, zbR]
       rfl
      refine zcK (i := 14) (N := some 25) (v := ?_) (a' := ?_) #[true, true, true, true, true, false, true, true, true, true, false, true, true, true, true, false, false, false, false, false] rfl rfl (zb8 HT_.out (by kernel_rfl)) (fun _ _ _ h => h) (Or.inl ⟨by rfl, ?_⟩) ?_ ?_
      rotate_left
      ·intro w'
       go_simp
       with_reducible rfl
      rotate_left
      ·simp only [Act.put, List.setIfInBounds_toArray, List.set_cons_zero, List.set_cons_succ, zbs, zbR]
       rfl
      refine zit (i := 5) (N := some 16) (v := ?_) (a' := ?_) #[true, true, true, true, true, true, true, true, true, true, false, true, true, true, true, false, false, false, false, false] rfl rfl (zeA HT_.out HW_.out (by kernel_rfl)) (fun _ _ _ h => h) (Or.inl ⟨by rfl, ?_⟩) hHeld ?_ ?_
      rotate_left
      ·rintro w' ⟨s0, s1, s2, s3, s4, s5, s6, s7, s8⟩
       go_simp
       with_reducible rfl
      rotate_left
      ·simp only [Act.put, List.setIfInBounds_toArray, List.set_cons_zero, List.set_cons_succ, zbs, zbR]
       rfl
      refine zit (i := 10) (N := some 21) (v := ?_) (a' := ?_) #[true, true, true, true, true, true, true, true, true, true, true, true, true, true, true, false, false, false, false, false] rfl rfl (zeA HT_.out HW_.out (by kernel_rfl)) (fun _ _ _ h => h) (Or.inl ⟨by rfl, ?_⟩) hHeld ?_ ?_
      rotate_left
      ·rintro w' ⟨s0, s1, s2, s3, s4, s5, s6, s7, s8⟩
       go_simp
       with_reducible rfl
      rotate_left
      ·simp only [Act.put, List.setIfInBounds_toArray, List.set_cons_zero, List.set_cons_succ, zbs, zbR]
       rfl
      refine zit (i := 15) (N := some 26) (v := ?_) (a' := ?_) #[true, true, true, true, true, true, true, true, true, true, true, true, true, true, true, true, false, false, false, false] rfl rfl (zeA HT_.out HW_.out (by kernel_rfl)) (fun _ _ _ h => h) (Or.inl ⟨by rfl, ?_⟩) hHeld ?_ ?_
      rotate_left
      ·rintro w' ⟨s0, s1, s2, s3, s4, s5, s6, s7, s8⟩
       go_simp
       with_reducible rfl
      rotate_left
      ·simp only [Act.put, List.setIfInBounds_toArray, List.set_cons_zero, List.set_cons_succ, zbs, zbR]
       rfl
      refine zcK (i := 16) (N := some 27) (v := ?_) (a' := ?_) #[true, true, true, true, true, true, true, true, true, true, true, true, true, true, true, true, true, false, false, false] rfl rfl (zb8 HT_.out (by kernel_rfl)) (fun _ _ _ h => h) (Or.inl ⟨by rfl, ?_⟩) ?_ ?_
      rotate_left
      ·intro w'
       go_simp
       with_reducible rfl
      rotate_left
      ·simp only [Act.put, List.setIfInBounds_toArray, List.set_cons_zero, List.set_cons_succ, zbs, zbR]
       rfl
      refine znt (i := 17) (N := some 28) #[true, true, true, true, true, true, true, true, true, true, true, true, true, true, true, true, true, true, false, false] rfl rfl (zfc HT_.out (by kernel_rfl)) (by decide) (fun K hK => ?_)
      refine zou (w1 := ?_) (v := ?_) (by rfl) rfl ?_ ?_
      rotate_left 2
      ·go_simp
       constructor
       ·rfl
       ·rfl
      refine hK.out _ _ ⟨(World.cell?_alloc_lt _ _ _ (World.block_lt_of_cell? _ _ (((HB.out.cell (World.block_lt_of_cell? w _ hw1_0)).trans hw1_0)))).trans (((HB.out.cell (World.block_lt_of_cell? w _ hw1_0)).trans hw1_0)), (World.cell?_alloc_lt _ _ _ (World.block_lt_of_cell? _ _ (((HB.out.cell (World.block_lt_of_cell? w _ hw1_1)).trans hw1_1)))).trans (((HB.out.cell (World.block_lt_of_cell? w _ hw1_1)).trans hw1_1)), (World.cell?_alloc_lt _ _ _ (World.block_lt_of_cell? _ _ (((HB.out.cell (World.block_lt_of_cell? w _ hw1_2)).trans hw1_2)))).trans (((HB.out.cell (World.block_lt_of_cell? w _ hw1_2)).trans hw1_2)), (World.cell?_alloc_lt _ _ _ (World.block_lt_of_cell? _ _ (((HB.out.cell (World.block_lt_of_cell? w _ hw2_0)).trans hw2_0)))).trans (((HB.out.cell (World.block_lt_of_cell? w _ hw2_0)).trans hw2_0)), (World.cell?_alloc_lt _ _ _ (World.block_lt_of_cell? _ _ (((HB.out.cell (World.block_lt_of_cell? w _ hw2_1)).trans hw2_1)))).trans (((HB.out.cell (World.block_lt_of_cell? w _ hw2_1)).trans hw2_1)), (World.cell?_alloc_lt _ _ _ (World.block_lt_of_cell? _ _ (((HB.out.cell (World.block_lt_of_cell? w _ hw2_2)).trans hw2_2)))).trans (((HB.out.cell (World.block_lt_of_cell? w _ hw2_2)).trans hw2_2)), (World.cell?_alloc_lt _ _ _ (World.block_lt_of_cell? _ _ (((HB.out.cell (World.block_lt_of_cell? w _ hw3_0)).trans hw3_0)))).trans (((HB.out.cell (World.block_lt_of_cell? w _ hw3_0)).trans hw3_0)), (World.cell?_alloc_lt _ _ _ (World.block_lt_of_cell? _ _ (((HB.out.cell (World.block_lt_of_cell? w _ hw3_1)).trans hw3_1)))).trans (((HB.out.cell (World.block_lt_of_cell? w _ hw3_1)).trans hw3_1)), (World.cell?_alloc_lt _ _ _ (World.block_lt_of_cell? _ _ (((HB.out.cell (World.block_lt_of_cell? w _ hw3_2)).trans hw3_2)))).trans (((HB.out.cell (World.block_lt_of_cell? w _ hw3_2)).trans hw3_2))⟩ (fun hHeld => ?_)
      clear hK K
      refine ziC (a' := ?_) ?_ ?_
      rotate_left
      ·show Act.put _ (some 28) _ = _
       simp only [Act.put, List.setIfInBounds_toArray, List.set_cons_zero, List.set_cons_succ, zbs, zbR]
       rfl
      refine znt (i := 18) (N := some 29) #[true, true, true, true, true, true, true, true, true, true, true, true, true, true, true, true, true, true, true, false] rfl rfl (zfc HT_.out (by kernel_rfl)) (by decide) (fun K hK => ?_)
      refine Kd.zhU k33 (w0 := w) w.heap.size (by rfl) (.tmp 11) (.tmp 28) 26 33 (.agg #[(.int .i64 0), (.string ⟨#[]⟩), (.int .i64 0)]) 32 rfl Tryz.underlying26 zme rfl (by decide) (by omega) u3 x3_1 (⟨(zbB l0 x4_1).f0, (zbB l0 x4_1).f1, (zbB l0 x4_1).f2⟩ : S33) [.int .i64 ((zbB l0 x4_1).f0), .string ((zbB l0 x4_1).f1), .int .i64 ((zbB l0 x4_1).f2)] (fun _ => True) (fun _ => False) rfl rfl ?aP (fun _ hk => hk.elim) ?aF ?aO ?aB ?aS ?aL ?_
      (case aP => exact zjF _ _ _ (⟨(zbB l0 x4_1).f0, (zbB l0 x4_1).f1, (zbB l0 x4_1).f2⟩ : S33))
      (case aB => exact (lc HB.out))
      (case aF => exact (fun _ _ => trivial))
      (case aO => exact (rc HO_3.out))
      (case aS => exact (zad (lc HB.out)))
      (case aL => have := LMc4.out; omega)
      intro v5 w6 ho hb hg hat
      rw [← Ny4.out] at ho
      have n0_ := zaa.mk (hb)
      have n1_ := zaa.mk (ho)
      clear HB
      clear HO_3
      have HB := n0_
      have HO6 := n1_
      clear n0_ n1_
      clear ho hb hg hat
      refine hK.out _ _ ⟨((HB.out.cell (World.block_lt_of_cell? w _ hw1_0)).trans hw1_0), ((HB.out.cell (World.block_lt_of_cell? w _ hw1_1)).trans hw1_1), ((HB.out.cell (World.block_lt_of_cell? w _ hw1_2)).trans hw1_2), ((HB.out.cell (World.block_lt_of_cell? w _ hw2_0)).trans hw2_0), ((HB.out.cell (World.block_lt_of_cell? w _ hw2_1)).trans hw2_1), ((HB.out.cell (World.block_lt_of_cell? w _ hw2_2)).trans hw2_2), ((HB.out.cell (World.block_lt_of_cell? w _ hw3_0)).trans hw3_0), ((HB.out.cell (World.block_lt_of_cell? w _ hw3_1)).trans hw3_1), ((HB.out.cell (World.block_lt_of_cell? w _ hw3_2)).trans hw3_2)⟩ (fun hHeld => ?_)
      clear hK K
      refine ziC (a' := ?_) ?_ ?_
      rotate_left
      ·show Act.put _ (some 29) _ = _
       simp only [Act.put, List.setIfInBounds_toArray, List.set_cons_zero, List.set_cons_succ, zbs, zbR]
       rfl
      refine zcK (i := 19) (N := some 3) (v := ?_) (a' := ?_) #[true, true, true, true, true, true, true, true, true, true, true, true, true, true, true, true, true, true, true, true] rfl rfl (zb8 HT_.out (by kernel_rfl)) (fun _ _ _ h => h) (Or.inl ⟨by rfl, ?_⟩) ?_ ?_
      rotate_left
      ·intro w'
       go_simp
       with_reducible rfl
      rotate_left
      ·simp only [Act.put, List.setIfInBounds_toArray, List.set_cons_zero, List.set_cons_succ, zbs, zbR]
       rfl
      refine zo4 (zjE HT_.out (by kernel_rfl)) ?_
      try go_wp2
      go_roundg k1
      case measure => have := HK1.out; omega
      case rel => exact ⟨(y4), (wrap64 (x4_1 + 1)), rs, H', ⟨by have := HK1.out; omega⟩, ⟨by (with_reducible repeat (first | apply Kd.zaQ | apply Kd.zaR | apply Kd.zbb)); exact HO6.out⟩, ⟨lb⟩⟩
     ·rw [if_neg c4] at H
      exact absurd H (by simp)
    ·rw [if_neg c3] at H
     exact absurd H (by simp)
   ·rw [if_neg c2] at H
    have c2b0 : decide (x4_1 < (l0.length : Int)) = false := zDF c2
    clear c2
    obtain rfl := Option.some.inj H
    go_wp2
    go_ret
    exact ⟨_, by first | rfl | (simp [zaf, zag] <;> rfl) | (simp [*, zaf, zag] <;> rfl), by (with_reducible repeat (first | apply Kd.zaQ | apply Kd.zaR | apply Kd.zbb)); exact HO_3.out, lb⟩
def zaK.f (a0 : Int) (a1 : Int) : Option (Int) := if a1 ≤ 0 then (some 0) else (if a1 = 0 then (none) else (if (Int.tmod a0 a1) < 0 then (some (wrap64 ((Int.tmod a0 a1) + a1))) else (some (Int.tmod a0 a1))))
theorem zaK.calls (a0 : Int) (a1 : Int) (r : Int) (w : World) (h : zaK.f a0 a1 = some r) :
  Calls Tryz.prog 43 #[.int .i64 a0, .int .i64 a1] w fun e w' => e = .returned (.int .i64 r) ∧ zaO w w' := by
 have H : (if a1 ≤ 0 then (some 0) else (if a1 = 0 then (none) else (if (Int.tmod a0 a1) < 0 then (some (wrap64 ((Int.tmod a0 a1) + a1))) else (some (Int.tmod a0 a1))))) = some r := h
 clear h
 by_cases c3 : a1 ≤ 0
 ·rw [if_pos c3] at H
  have c3b0 : decide (a1 ≤ 0) = true := zDT c3
  clear c3
  obtain rfl := Option.some.inj H
  go_enter Tryz.func43, Tryz.ntmps43
  go_wp2
  go_ret
  exact ⟨by first | rfl | (simp; done) | (simp [*]; done), by repeat (first | exact zaO.refl _ | apply zaO.step)⟩
 ·rw [if_neg c3] at H
  have c3b0 : decide (a1 ≤ 0) = false := zDF c3
  clear c3
  by_cases c4 : a1 = 0
  ·rw [if_pos c4] at H
   exact absurd H (by simp)
  ·rw [if_neg c4] at H
   have c4b0 : (a1 == 0) = false := beq_eq_false_iff_ne.mpr c4
   have c4b1 : (a1 != 0) = true := bne_iff_ne.mpr c4
   by_cases c5 : (Int.tmod a0 a1) < 0
   ·rw [if_pos c5] at H
    have c5b0 : decide ((Int.tmod a0 a1) < 0) = true := zDT c5
    clear c5
    obtain rfl := Option.some.inj H
    go_enter Tryz.func43, Tryz.ntmps43
    go_wp2
    go_ret
    exact ⟨by first | rfl | (simp; done) | (simp [*]; done), by repeat (first | exact zaO.refl _ | apply zaO.step)⟩
   ·rw [if_neg c5] at H
    have c5b0 : decide ((Int.tmod a0 a1) < 0) = false := zDF c5
    clear c5
    obtain rfl := Option.some.inj H
    go_enter Tryz.func43, Tryz.ntmps43
    go_wp2
    go_ret
    exact ⟨by first | rfl | (simp; done) | (simp [*]; done), by repeat (first | exact zaO.refl _ | apply zaO.step)⟩
end Go.Proofs.YtioofhilohmfbaaGreatDoor.P
end
section
open Go Go.RowKit
namespace Go.Proofs.YtioofhilohmfbaaGreatDoor
variable {F : Fence} {n : Nat} {P : Program}
def zkI {α : Type} (F : Fence) (n : Nat) (P : Program) (g : Nat) (lb : Array Value) (encs : α → Array Value) (Kp St : World → World → Prop) (S Sp : List α → Prop) (Al : List α → α → Prop) (w : World) : Prop :=
 ∀ (l : Nat) (J Jx : List α → World → Prop) (W : World), Below w.heap.size w W → (∀ s A B, J s A → St A B → J s B) → (∀ s A B, Jx s A → St A B → Jx s B) →
  (∀ pre x W1, J pre W1 → Al pre x → YieldAt F (n - 1) P l (encs x) W1 fun e W' =>
   (e = .returned (.bool true) ∧ J (pre ++ [x]) W' ∧ Kp W1 W') ∨ (e = .returned (.bool false) ∧ Jx (pre ++ [x]) W')) →
  J [] W →
  CallsIn F n P g (#[.func (.yield l) #[] #[]] ++ lb) W fun e W' => (∃ v, e = .returned v) ∧ ((∃ xs, S xs ∧ J xs W') ∨ (∃ pre, Sp pre ∧ Jx pre W'))
theorem zgU {α : Type} {g : Operand} {ps : Array Tmp} {assign body : Code} {Q : Exit → Act → World → Prop} {a : Act} {w : World}
  (hro : F.round = none) (h1 : 1 ≤ n) {gf : Nat} {lb : Array Value} (hg : a.eval g = .func (.func gf) #[] lb) (hFg : F.fn gf) (eg : ∀ args w, (callFunc gf args).run P w = .ok (.enter gf args) w)
  {encs : α → Array Value} {Kp St : World → World → Prop} {S Sp : List α → Prop} {Al : List α → α → Prop} {w0 : World} (hseq : zkI F (n - 1) P gf lb encs Kp St S Sp Al w0)
  (hKt : ∀ {A B C : World}, Kp A B → Kp B C → Kp A C) (hKb : ∀ (W : World) (l : Nat) (o o' : Obj), w.heap.size ≤ l → W.heap[l]? = some o → o.isCells = false → o.isWalk = false → Kp W (W.putObj l o'))
  (hSt : ∀ A B, St A B → ∀ (k : Nat) (o : Obj), w.heap.size ≤ k → A.heap[k]? = some o → o.isCells = false → B.heap[k]? = some o)
  (hb0 : Below w0.heap.size w0 w) (hps : ∀ x, (encs x).size = ps.size)
  (I : List α → World → Prop) (Ix : Code → List α → World → Prop) (hI : OwnFrom w.heap.size I) (hIx : ∀ c, OwnFrom w.heap.size (Ix c))
  (hIS : ∀ s A B, I s A → St A B → I s B) (hIxS : ∀ c s A B, Ix c s A → St A B → Ix c s B) (h0 : I [] w) (a₁ : α → Act)
  (hassign : ∀ (l : Nat) (x : α) (W : World) (K : Act → World → Prop), K (a₁ x) W →
   assign.wpIn (F.inRound l) (n - 1 - 1) P (Exit.then K (fun _ _ _ => False)) { tmps := (ps.zip (encs x)).foldl (fun t (p, v) => t.setIfInBounds p v) a.tmps, defers := [] } W)
  (hbody : ∀ (l : Nat) (pre : List α) (x : α) (W : World), I pre W → Al pre x → body.wpIn (F.inRound l) (n - 1 - 1) P (ownPostG w.heap.size Kp I Ix (pre ++ [x]) W) (a₁ x) W)
  (hdone : ∀ (D : Nat) (xs : List α) (W : World), w.heap.size ≤ D → S xs → I xs W → W.heap[D]? = some (.deferred (some [])) → Q .normal { a with defers := { target := .collected D, args := #[] } :: a.defers } W)
  (hstop : ∀ (D : Nat) (c : Code) (pre : List α) (W : World), w.heap.size ≤ D → Sp pre → Ix c pre W → W.heap[D]? = some (.deferred (some [])) → c.wpIn F n P Q { a with defers := { target := .collected D, args := #[] } :: a.defers } W) :
  (Code.rangeFunc g ps assign body).wpIn F n P Q a w := by
 refine wpIn_rangeFunc ?_
 intro fn hfn
 rw [hro]
 obtain ⟨rec, hrec⟩ : ∃ rec : LoopState → Option Code → Loop, rec = fun st pe => { state := st, pending := pe, fn, tmps := a.tmps, params := ps, assign, body, defers := w.heap.size } := ⟨_, rfl⟩
 obtain ⟨W1, hW1⟩ : ∃ W1, (w.alloc (.deferred (some []))).alloc (.loop (rec .ready none)) = W1 := ⟨_, rfl⟩
 have hL1 : W1.heap[w.heap.size + 1]? = some (.loop (rec .ready none)) := by
  rw [← hW1]; have := World.alloc_heap_new (w.alloc (.deferred (some []))) (.loop (rec .ready none)); rwa [World.size_alloc] at this
 have hK1 : W1.heap[w.heap.size]? = some (.deferred (some [])) := by
  rw [← hW1]; exact (Below.heap_alloc _ _ _ (by simp)).trans (World.alloc_heap_new w _)
 have hI1 : I [] W1 := by rw [← hW1]; exact hI.alloc _ (hI.alloc _ h0)
 have hb1 : Below w0.heap.size w0 W1 := by
  rw [← hW1]; exact hb0.trans ((((Below.refl _ w).alloc (Nat.le_refl _) _).alloc (by simp) _).mono hb0.size)
 refine ⟨w.heap.size + 1, [{ target := .collected w.heap.size, args := #[] }], W1, { target := .fn (.func gf) lb, args := #[.func (.yield (w.heap.size + 1)) #[] #[]] }, W1, gf,
  #[.func (.yield (w.heap.size + 1)) #[] #[]] ++ lb, W1, ?_, ?_, ?_, ?_, fun _ => h1, ?_⟩
 ·rw [← hW1, hrec]; exact run_enterLoop_outer _ _ _ _ _
 ·simp only [resolve, hg]
  simp [go_sem]
 ·intro f' hf'; simp [Target.leads] at hf'; subst hf'; exact hFg
 ·simp [invoke, go_sem, eg]
 ·refine (hseq (w.heap.size + 1)
   (fun pre W => I pre W ∧ W.heap[w.heap.size + 1]? = some (.loop (rec .ready none)) ∧ W.heap[w.heap.size]? = some (.deferred (some [])))
   (fun pre W => ∃ c, Ix c pre W ∧ W.heap[w.heap.size + 1]? = some (.loop (rec .done (some c))) ∧ W.heap[w.heap.size]? = some (.deferred (some [])))
   W1 hb1
   (fun s A B hs hst => ⟨hIS s A B hs.1 hst, hSt A B hst _ _ (by omega) hs.2.1 rfl, hSt A B hst _ _ (Nat.le_refl _) hs.2.2 rfl⟩)
   (fun s A B hs hst => by
    obtain ⟨c, hc, hl, hk⟩ := hs
    exact ⟨c, hIxS c s A B hc hst, hSt A B hst _ _ (by omega) hl rfl, hSt A B hst _ _ (Nat.le_refl _) hk rfl⟩)
   ?_ ⟨hI1, hL1, hK1⟩).mono ?_
  ·rintro pre x W ⟨hi, hl, hk⟩ hlen
   have hlt : w.heap.size + 1 < W.heap.size := (Array.getElem?_eq_some_iff.1 hl).1
   have hy := run_yield (P := P) (args := encs x) hl (by rw [hrec]; exact hps x)
   rw [hrec] at hy
   refine ⟨fn, _, assign, body, hy, roundIn_of_wpIn hfn (hassign _ x W _ ⟨_, run_beginRound hl (by rw [hrec]), ?_⟩)⟩
   have hl2 : (W.putObj (w.heap.size + 1) (.loop { rec .ready none with state := .busy })).heap[w.heap.size + 1]? = some (.loop { rec .ready none with state := .busy }) := World.putObj_heap_same hlt
   have hk2 : (W.putObj (w.heap.size + 1) (.loop { rec .ready none with state := .busy })).heap[w.heap.size]? = some (.deferred (some [])) := (World.putObj_heap_other (by omega)).trans hk
   have hw2 : Kp W (W.putObj (w.heap.size + 1) (.loop { rec .ready none with state := .busy })) := hKb _ _ _ _ (by omega) hl rfl rfl
   refine wpIn_mono (hbody _ pre x _ (hI.putObj _ hi (by omega) hl rfl) hlen) ?_
   have fin : ∀ (jump : Option Code) (W3 : World), KeepsFrom w.heap.size (W.putObj (w.heap.size + 1) (.loop { rec .ready none with state := .busy })) W3 →
     (Instr.endRound (w.heap.size + 1) jump).run P W3 = .ok (.bool jump.isNone) (W3.putObj (w.heap.size + 1) (.loop (rec (if jump.isNone then .ready else .done) jump))) ∧
     W3.heap[w.heap.size + 1]? = some (.loop { rec .ready none with state := .busy }) ∧
     (W3.putObj (w.heap.size + 1) (.loop (rec (if jump.isNone then .ready else .done) jump))).heap[w.heap.size + 1]? = some (.loop (rec (if jump.isNone then .ready else .done) jump)) ∧
     (W3.putObj (w.heap.size + 1) (.loop (rec (if jump.isNone then .ready else .done) jump))).heap[w.heap.size]? = some (.deferred (some [])) := fun jump W3 hk3 => by
    have hl3 := hk3.same _ _ (by omega) hl2 rfl
    have := run_endRound (P := P) jump hl3
    rw [hrec] at this ⊢
    exact ⟨this, by rw [hrec] at hl3; exact hl3, World.putObj_heap_same (Array.getElem?_eq_some_iff.1 hl3).1, (World.putObj_heap_other (by omega)).trans (hk3.same _ _ (Nat.le_refl _) hk2 rfl)⟩
   rintro e a3 W3 hp
   cases e with
   | normal =>
    obtain ⟨hk3, hkp3, hi3⟩ := hp
    obtain ⟨hr, hl3, hl4, hk4⟩ := fin none W3 hk3
    exact ⟨_, _, hr, .inl ⟨rfl, ⟨hI.putObj _ hi3 (by omega) hl3 rfl, hl4, hk4⟩, hKt (hKt hw2 hkp3) (hKb _ _ _ _ (by omega) hl3 rfl rfl)⟩⟩
   | ret =>
    obtain ⟨hk3, hi3⟩ := hp
    obtain ⟨hr, hl3, hl4, hk4⟩ := fin (some .ret) W3 hk3
    exact ⟨_, _, hr, .inr ⟨rfl, .ret, (hIx _).putObj _ hi3 (by omega) hl3 rfl, hl4, hk4⟩⟩
   | exit id =>
    obtain ⟨hk3, hi3⟩ := hp
    obtain ⟨hr, hl3, hl4, hk4⟩ := fin (some (.exit id)) W3 hk3
    exact ⟨_, _, hr, .inr ⟨rfl, .exit id, (hIx _).putObj _ hi3 (by omega) hl3 rfl, hl4, hk4⟩⟩
   | goto t =>
    obtain ⟨hk3, hi3⟩ := hp
    obtain ⟨hr, hl3, hl4, hk4⟩ := fin (some (.goto t)) W3 hk3
    exact ⟨_, _, hr, .inr ⟨rfl, .goto t, (hIx _).putObj _ hi3 (by omega) hl3 rfl, hl4, hk4⟩⟩
   | panic ch => exact hp.elim
   | outgrown => exact hp.elim
  ·rintro e W2 ⟨⟨v, rfl⟩, (⟨xs, hS, hi, hl, hk⟩ | ⟨pre, hSp, c, hi, hl, hk⟩)⟩
   ·exact ⟨none, _, by have := run_endLoop (P := P) hl (by rw [hrec]; simp); rw [hrec] at this; exact this, hdone _ xs _ (Nat.le_refl _) hS (hI.putObj _ hi (by omega) hl rfl) ((World.putObj_heap_other (by omega)).trans hk)⟩
   ·exact ⟨some c, _, by have := run_endLoop (P := P) hl (by rw [hrec]; simp); rw [hrec] at this; exact this, hstop _ c pre _ (Nat.le_refl _) hSp ((hIx c).putObj _ hi (by omega) hl rfl) ((World.putObj_heap_other (by omega)).trans hk)⟩
end Go.Proofs.YtioofhilohmfbaaGreatDoor
end
section
open Go
namespace Go.Proofs.YtioofhilohmfbaaGreatDoor
def pieces : Nat → ByteArray → List (Int × ByteArray)
 | 0, _ => []
 | k + 1, s => if s.size = 0 then [] else (((Lib.decodeGo s).1 : Int), s.extract 0 (Lib.decodeGo s).2) :: pieces k (s.extract (Lib.decodeGo s).2 s.size)
theorem zhi (n b0 b1 b2 b3 : Nat) (hn : 1 ≤ n) (h0 : b0 < 256) : 1 ≤ (Lib.decodeN n b0 b1 b2 b3).2 ∧ (Lib.decodeN n b0 b1 b2 b3).2 ≤ n ∧ (Lib.decodeN n b0 b1 b2 b3).2 ≤ 4 ∧ (Lib.decodeN n b0 b1 b2 b3).1 ≤ 1114111 := by
 unfold Lib.decodeN
 repeat' split
 all_goals (simp only; omega)
theorem zj9 (s : ByteArray) (h : s.size ≠ 0) : Lib.decodeGo s = Lib.decodeN s.size (s.get! 0).toNat (s.get! 1).toNat (s.get! 2).toNat (s.get! 3).toNat := by
 unfold Lib.decodeGo
 rw [if_neg h, Lib.decode_at]
 rfl
theorem zco (s : ByteArray) (h : s.size ≠ 0) : 1 ≤ (Lib.decodeGo s).2 ∧ (Lib.decodeGo s).2 ≤ s.size ∧ (Lib.decodeGo s).2 ≤ 4 ∧ (Lib.decodeGo s).1 ≤ 1114111 := by
 rw [zj9 s h]
 exact zhi _ _ _ _ _ (by omega) (by simpa using (s.get! 0).toNat_lt)
theorem extract_size (s : ByteArray) (a b : Nat) : (s.extract a b).size = min b s.size - a := by simp
def zfK (x : Int × ByteArray) : Prop := 0 < x.2.size ∧ x.2.size ≤ 4 ∧ 0 ≤ x.1 ∧ x.1 ≤ 1114111
theorem zi4 : ∀ (k : Nat) (s : ByteArray), ∀ x ∈ pieces k s, zfK x
 | 0, _, x, h => by simp [pieces] at h
 | k + 1, s, x, h => by
  unfold pieces at h
  split at h
  ·simp at h
  ·rename_i hs
   have hb := zco s hs
   rcases List.mem_cons.1 h with rfl | h
   ·unfold zfK
    simp only [extract_size]
    omega
   ·exact zi4 k _ x h
theorem zdl (k : Nat) (s : ByteArray) (h : s.size = 0) : pieces k s = [] := by
 cases k with
 | zero => rfl
 | succ k => simp [pieces, h]
theorem zd6 (k : Nat) (s : ByteArray) (h : s.size ≠ 0) : pieces (k + 1) s = (((Lib.decodeGo s).1 : Int), s.extract 0 (Lib.decodeGo s).2) :: pieces k (s.extract (Lib.decodeGo s).2 s.size) := by
 simp [pieces, h]
theorem zgV : ∀ (k m : Nat) (s : ByteArray), s.size ≤ k → s.size ≤ m → pieces k s = pieces m s
 | 0, m, s, h, _ => by rw [zdl 0 s (by omega), zdl m s (by omega)]
 | k + 1, m, s, h, h2 => by
  by_cases hs : s.size = 0
  ·rw [zdl _ s hs, zdl _ s hs]
  ·cases m with
   | zero => omega
   | succ m =>
    have hb := zco s hs
    rw [zd6 k s hs, zd6 m s hs, zgV k m _ (by rw [extract_size]; omega) (by rw [extract_size]; omega)]
theorem zfk : ∀ (k : Nat) (s : ByteArray), (pieces k s).length ≤ s.size
 | 0, _ => by simp [pieces]
 | k + 1, s => by
  by_cases hs : s.size = 0
  ·rw [zdl _ s hs]; simp
  ·have hb := zco s hs
   rw [zd6 k s hs]
   have := zfk k (s.extract (Lib.decodeGo s).2 s.size)
   rw [extract_size] at this
   simp
   omega
def zbG (s : ByteArray) : List (Int × ByteArray) := pieces s.size s
theorem zfY (s : ByteArray) (h : s.size = 0) : zbG s = [] := zdl _ s h
theorem zfl (s : ByteArray) (h : s.size ≠ 0) : zbG s = (((Lib.decodeGo s).1 : Int), s.extract 0 (Lib.decodeGo s).2) :: zbG (s.extract (Lib.decodeGo s).2 s.size) := by
 have hb := zco s h
 unfold zbG
 obtain ⟨m, hm⟩ : ∃ m, s.size = m + 1 := ⟨s.size - 1, by omega⟩
 rw [hm, zd6 m s h, ← hm]
 rw [zgV m _ _ (by rw [extract_size]; omega) (Nat.le_refl _)]
theorem zeX (s : ByteArray) : ∀ x ∈ zbG s, zfK x := zi4 _ s
theorem zev (s : ByteArray) : (zbG s).length ≤ s.size := zfk _ s
end Go.Proofs.YtioofhilohmfbaaGreatDoor
end
section
open Go Go.RowKit PrintWords
namespace Go.Proofs.YtioofhilohmfbaaGreatDoor.P
def utf8_DecodeRuneInString.f (a0 : ByteArray) : Option (Int × Int) := some (((Lib.decodeGo a0).1 : Int), ((Lib.decodeGo a0).2 : Int))
theorem utf8_DecodeRuneInString.calls (a0 : ByteArray) (r1 : Int) (r2 : Int) (w : World) (hG : zaa (G w)) (h : utf8_DecodeRuneInString.f a0 = some (r1, r2)) :
  Calls Tryz.prog 68 #[.string a0] w fun e w' => e = .returned (.tuple #[.int .i32 r1, .int .i64 r2]) ∧ Below w.heap.size w w' := by
 simp only [utf8_DecodeRuneInString.f, Option.some.injEq, Prod.mk.injEq] at h
 obtain ⟨rfl, rfl⟩ := h
 exact Tryz.utf8_DecodeRuneInString a0 w hG.out.utf8
end Go.Proofs.YtioofhilohmfbaaGreatDoor.P
end
section
open Go.RowKit PrintWords PrintLast PrintMore
namespace Go.Proofs.YtioofhilohmfbaaGreatDoor.P
attribute [local go_sem] za3 za4 zbh zbi zaT zaU za5 za6 zbn
def zc9.f (a0 : ByteArray) : Option (Int × Int) := if a0.toList = ([] : List UInt8) then (some (0, 0)) else ((utf8_DecodeRuneInString.f a0).bind fun bt1 => (some (bt1.1, bt1.2)))
theorem zc9.calls (a0 : ByteArray) (r1 : Int) (r2 : Int) (w : World) (hG : zaa (G w)) (h : zc9.f a0 = some (r1, r2)) :
  Calls Tryz.prog 100 #[.string a0] w fun e w' => e = .returned (.tuple #[.int .i32 r1, .int .i64 r2]) ∧ Below w.heap.size w w' := by
 have HB := zaa.mk (Below.refl w.heap.size w)
 have H : (if a0.toList = ([] : List UInt8) then (some (0, 0)) else ((utf8_DecodeRuneInString.f a0).bind fun bt1 => (some (bt1.1, bt1.2)))) = some (r1, r2) := h
 clear h
 by_cases c2 : a0.toList = ([] : List UInt8)
 ·rw [if_pos c2] at H
  have c2b0 : (a0.toList == ([] : List UInt8)) = true := beq_iff_eq.mpr c2
  have c2b1 : (a0.toList != ([] : List UInt8)) = false := bne_eq_false_iff_eq.mpr c2
  clear c2
  simp only [Option.some.injEq, Prod.mk.injEq] at H
  obtain ⟨rfl, rfl⟩ := H
  go_enter Tryz.func100, Tryz.ntmps100
  go_wp2
  go_ret2
  exact ⟨by first | rfl | (simp [zaf, zag] <;> rfl) | (simp [*, zaf, zag] <;> rfl), lb⟩
 ·rw [if_neg c2] at H
  have c2b0 : (a0.toList == ([] : List UInt8)) = false := beq_eq_false_iff_ne.mpr c2
  have c2b1 : (a0.toList != ([] : List UInt8)) = true := bne_iff_ne.mpr c2
  replace H := zBE H
  obtain ⟨⟨t1, t2⟩, A30, H⟩ := H
  replace H : (some (t1, t2)) = some (r1, r2) := H
  have A3 := zaa.mk A30
  clear A30
  simp only [Option.some.injEq, Prod.mk.injEq] at H
  obtain ⟨rfl, rfl⟩ := H
  go_enter Tryz.func100, Tryz.ntmps100
  go_wp2_with (first | (go_at_call 68; (with_reducible refine (utf8_DecodeRuneInString.calls a0 t1 t2 _ ?side1 A3.out).mono ?_); (case side1 => exact G.at hG.out (lc HB.out)); rintro e w4 ⟨rfl, hb⟩; have n0_ := zaa.mk (zab (lc HB.out) hb); clear HB; have HB := n0_; clear n0_; (try clear hb); (try clear hb2); (try clear hk); (try clear hi)))
  go_ret2
  exact ⟨by first | rfl | (simp [zaf, zag] <;> rfl) | (simp [*, zaf, zag] <;> rfl), lb⟩
end Go.Proofs.YtioofhilohmfbaaGreatDoor.P
end
section
open Go Go.RowKit Go.Shelf PrintWords YtioofhilohmfbaaGreatDoor.P
namespace Go.Proofs.YtioofhilohmfbaaGreatDoor
attribute [local go_sem] Oper.semAt_some
abbrev zi5 (x : Int × ByteArray) : Array Value := #[.int .i32 x.1, .string x.2]
def zfm (n₀ Bs : Nat) (W W' : World) : Prop :=
 Below n₀ W W' ∧ (∀ v, W.cell? ⟨Bs, 0, none⟩ = some v → W'.cell? ⟨Bs, 0, none⟩ = some v ∧ (W.frozen? ⟨Bs, 0, none⟩ = false → W'.frozen? ⟨Bs, 0, none⟩ = false))
def zhM (Bs : Nat) (A B : World) : Prop := Below A.heap.size A B ∨ ∃ v : ByteArray, B = A.setCell ⟨Bs, 0, none⟩ (.string v)
def zmQ (Bs : Nat) (W : World) : Nat := match W.cell? ⟨Bs, 0, none⟩ with
 | some (.string v) => v.size
 | _ => 0
theorem zi6 {Bs : Nat} {W : World} {v : ByteArray} (h : W.cell? ⟨Bs, 0, none⟩ = some (.string v)) : zmQ Bs W = v.size := by simp [zmQ, h]
theorem zfZ {w w' : World} (hb : Below w.heap.size w w') {g o : Nat} (hg : g < w.heap.size) (hf : w.frozen? ⟨g, o, none⟩ = false) : w'.frozen? ⟨g, o, none⟩ = false :=
 (hb.frozen (p := ⟨g, o, none⟩) hg).trans hf
theorem zi7 {s : ByteArray} (h : s.toList = []) : s.size = 0 := by
 rw [ByteArray.toList_eq] at h
 have := congrArg List.length h
 rw [Array.length_toList] at this
 exact this
theorem zly {s : ByteArray} (h : s.size = 0) : s.toList = [] := by
 rw [ByteArray.toList_eq]
 exact List.eq_nil_of_length_eq_zero (by rw [Array.length_toList]; exact h)
theorem zka {s : ByteArray} (h : s.size ≠ 0) : zc9.f s = some (((Lib.decodeGo s).1 : Int), ((Lib.decodeGo s).2 : Int)) := by
 unfold zc9.f
 rw [if_neg (fun e => h (zi7 e))]
 rfl
theorem zlz (s : ByteArray) (w : World) : Calls Tryz.prog 73 #[.string s] w fun e w' =>
  e = .returned (.func (.func 99) #[] #[.pointer (some ⟨w.heap.size, 0, none⟩)]) ∧ w' = w.alloc (.cells #[.string s] 9) := by
 go_enter Tryz.func73, Tryz.ntmps73
 go_wp2
 go_ret
 exact ⟨rfl, rfl⟩
theorem zkb (n : Nat) (hn : 1 ≤ n) (s : ByteArray) (hs : s.size ≤ 140737488351232) (Bs : Nat) (w0 w : World) (hG : zaa (G w0)) (hb : Below w0.heap.size w0 w) (hle : w0.heap.size ≤ Bs)
  (hc : w.cell? ⟨Bs, 0, none⟩ = some (.string s)) (hf : w.frozen? ⟨Bs, 0, none⟩ = false) :
  zkI Fence.wide n Tryz.prog 99 #[.pointer (some ⟨Bs, 0, none⟩)] zi5 (zfm w0.heap.size Bs) (zhM Bs) (fun xs => xs = zbG s) (fun _ => True) (fun pre x => pre ++ [x] <+: zbG s) w :=
 fun l J Jx W hW hJ hJx hY h0 => by
 have hcW : W.cell? ⟨Bs, 0, none⟩ = some (.string s) := zbM hW hc
 have hfW : W.frozen? ⟨Bs, 0, none⟩ = false := zfZ hW (zjw hc) hf
 have hbW : Below w0.heap.size w0 W := hb.trans (hW.mono hb.size)
 refine callsIn_of_wp Tryz.func99 rfl trivial ?_ rfl
 simp only [Tryz.ntmps99, List.size_toArray, List.length_cons, List.length_nil, Nat.reduceAdd, Nat.reduceSub, Array.replicate_succ, Array.replicate_zero, List.push_toArray, List.append_toArray, List.nil_append, List.cons_append]
 clear hc hf hb hW
 gi_wp2
 gi_loopw [3, 4] (fun _ _ wr => ∃ (pre : List (Int × ByteArray)) (rest : ByteArray), zaa (zbG s = pre ++ zbG rest) ∧ rest.size ≤ 140737488351232 ∧ wr.cell? ⟨Bs, 0, none⟩ = some (.string rest) ∧ wr.frozen? ⟨Bs, 0, none⟩ = false ∧ zaa (Below w0.heap.size w0 wr) ∧ J pre wr)
  (fun _ _ wr => zmQ Bs wr)
 case atStart => exact ⟨[], s, ⟨rfl⟩, hs, hcW, hfW, ⟨hbW⟩, h0⟩
 case round =>
  obtain ⟨pre, rest, hp, hrs, hcr, hfr, hbr, hJr⟩ := hrel
  clear hcW hfW hbW h0
  by_cases hz : rest.size = 0
  ·have t0 : rest.toList = [] := zly hz
   have t1 : (rest.toList == ([] : List UInt8)) = true := by rw [t0]; rfl
   have t2 : rest.toList.isEmpty = true := by rw [t0]; rfl
   have hp' : zaa (zbG s = pre) := ⟨by rw [hp.out, zfY rest hz, List.append_nil]⟩
   clear hz hp
   gi_wp2
   go_end0
   exact ⟨⟨_, rfl⟩, .inl ⟨pre, hp'.out.symm, hJr⟩⟩
  ·have hn0 : rest.toList ≠ [] := fun e => hz (zi7 e)
   have t1 : (rest.toList == ([] : List UInt8)) = false := beq_eq_false_iff_ne.mpr hn0
   have t2 : rest.toList.isEmpty = false := by cases h : rest.toList with | nil => exact absurd h hn0 | cons _ _ => rfl
   have hd := zaa.mk (zka hz)
   have hcr0 := zaa.mk hcr
   have hbd := zco rest hz
   have hpc := zaa.mk (zfl rest hz)
   generalize Lib.decodeGo rest = dd at hd hbd hpc
   obtain ⟨dr, dn⟩ := dd
   obtain ⟨hb1, hb2, hb3, hb4⟩ := hbd
   have hb1' : 1 ≤ dn := hb1
   have hb2' : dn ≤ rest.size := hb2
   have hb4' : dr ≤ 1114111 := hb4
   clear hz hb1 hb2 hb3 hb4
   gi_wp2_with (refine ⟨trivial, ?_⟩; gi_at_call 100; refine (callsIn_wide.2 (zc9.calls rest dr dn _ (G.at hG.out (by exact hbr.out)) hd.out)).mono ?_; rintro e w2 ⟨rfl, hb2⟩; have hc2 := zbM hb2 hcr; have hf2 := zfZ hb2 (zjw hcr) hfr; have hJ2 := hJ _ _ _ hJr (.inl hb2); have hb3 := zaa.mk (hbr.out.trans (hb2.mono hbr.out.size)); clear hb2 hbr hcr hfr hJr; obtain ⟨fn, tmps, assign, body, hy, hR⟩ := hY pre ((dr : Int), rest.extract 0 dn) w2 hJ2 (by rw [hp.out, hpc.out]; exact ⟨zbG (rest.extract dn rest.size), by simp⟩); dsimp only [zi5] at hy; clear hY)
   refine hR.mono ?_
   rintro e W3 (⟨rfl, hJ3, hk3⟩ | ⟨rfl, hJx3⟩)
   ·obtain ⟨hc3, hf3'⟩ := hk3.2 _ hc2
    have hf3 := hf3' hf2
    have hb4 := zaa.mk (hb3.out.trans hk3.1)
    clear hc2 hf2 hf3' hk3 hb3 hJ2 hR hy
    gi_wp2
    go_roundw
    case rel => exact ⟨pre ++ [((dr : Int), rest.extract 0 dn)], rest.extract dn rest.size, ⟨by rw [hp.out, hpc.out]; simp⟩, by rw [extract_size]; omega, World.cell?_setCell_same' _ _ _ (by rw [hc3]; rfl), by rw [World.frozen?_setCell]; exact hf3, ⟨hb4.out.setCell (p := ⟨Bs, 0, none⟩) hle _⟩, hJ _ _ _ hJ3 (.inr ⟨_, rfl⟩)⟩
    case measure =>
     rw [zi6 (World.cell?_setCell_same' _ _ _ (by rw [hc3]; rfl)), zi6 hcr0.out, extract_size]
     omega
   ·gi_wp2
    refine bodyPost_ret (results_none rfl _ _ _) rfl ?_
    exact ⟨⟨_, rfl⟩, .inr ⟨_, trivial, hJx3⟩⟩
theorem zfm.trans' {n₀ Bs : Nat} {A B C : World} (h : zfm n₀ Bs A B) (k : zfm n₀ Bs B C) : zfm n₀ Bs A C :=
 ⟨h.1.trans k.1, fun v hv => ⟨(k.2 v (h.2 v hv).1).1, fun hf => (k.2 v (h.2 v hv).1).2 ((h.2 v hv).2 hf)⟩⟩
theorem zfm.zpN {n₀ Bs B : Nat} (hn : n₀ ≤ B) (W : World) (l : Nat) (o o' : Obj) (hl : B ≤ l) (ho : W.heap[l]? = some o) (hc : o.isCells = false) : zfm n₀ Bs W (W.putObj l o') := by
 refine ⟨(Below.refl n₀ W).grown (grownBy_putObj' W l o') ?_ (fun k e => by cases e; omega), fun v hv => ?_⟩
 ·have := (Array.getElem?_eq_some_iff.1 ho).1; omega
 ·have hne : Bs ≠ l := by
   rintro rfl
   unfold World.cell? at hv
   rw [ho] at hv
   cases o <;> simp [Obj.isCells] at hc <;> simp at hv
  have hh : (W.putObj l o').heap[Bs]? = W.heap[Bs]? := World.putObj_heap_other hne
  constructor
  ·unfold World.cell? at hv ⊢
   rw [hh]; exact hv
  ·intro hf
   unfold World.frozen? at hf ⊢
   rw [hh]; exact hf
theorem zhM.keeps {Bs B : Nat} (hB : Bs < B) : ∀ X Y, zhM Bs X Y → ∀ (k : Nat) (o : Obj), B ≤ k → X.heap[k]? = some o → o.isCells = false → Y.heap[k]? = some o := by
 rintro X Y (h | ⟨v, rfl⟩) k o hk ho _
 ·exact (h.block k (Array.getElem?_eq_some_iff.1 ho).1).trans ho
 ·rw [Below.heap_setCell _ _ _ k (by show k ≠ Bs; omega)]; exact ho
theorem Boxed.below {W W' : World} {B : Nat} {t : TypeId} {v : Value} (h : Boxed W B t v) (hb : Below W.heap.size W W') : Boxed W' B t v := (hb.block B h.lt).trans h
theorem Boxed.other' {W : World} {B C : Nat} {t : TypeId} {v : Value} (h : Boxed W B t v) (hne : B ≠ C) (u : Value) : Boxed (W.setCell ⟨C, 0, none⟩ u) B t v := (Below.heap_setCell _ _ _ B hne).trans h
def zfn (w : World) (B0 Bs tB e tS : Nat) (f : List (Int × ByteArray) → List Value) (pre : List (Int × ByteArray)) (W : World) : Prop :=
 (∃ v, Boxed W B0 tB v ∧ W.ownsRow w.heap.size e 1 v (f pre).length (f pre)) ∧ (∃ sv : ByteArray, Boxed W Bs tS (.string sv)) ∧ Below w.heap.size w W
theorem zfn.own {w : World} {B0 Bs tB e tS B : Nat} {f : List (Int × ByteArray) → List Value} (hB : w.heap.size ≤ B) : OwnFrom B (zfn w B0 Bs tB e tS f) := by
 rintro s W W' row ⟨⟨v, hv, hr⟩, ⟨sv, hs⟩, hb⟩ hg hrow
 have hne : ∀ {C t : Nat} {u : Value}, Boxed W C t u → some C ≠ row := by
  intro C t u hC e'
  obtain ⟨_, o, ho, hc⟩ := hrow C e'.symm
  rw [show W.heap[C]? = _ from hC] at ho; cases ho; cases hc
 refine ⟨⟨v, hv.kept hg (hne hv), hr.kept hg ?_⟩, ⟨sv, hs.kept hg (hne hs)⟩, hb.grown hg hb.size (fun k e' => Nat.le_trans hB (hrow k e').1)⟩
 rcases hr.2 with ⟨rfl, _⟩ | ⟨g, cap, cur, rfl, _, hgb, _⟩
 ·exact .inl rfl
 ·refine .inr fun e' => ?_
  obtain ⟨_, o, ho, hc⟩ := hrow g (by simpa [Value.ownBlock] using e'.symm)
  rw [hgb] at ho; cases ho; cases hc
theorem zfn.step {w : World} {B0 Bs tB e tS : Nat} {f : List (Int × ByteArray) → List Value} (hne : B0 ≠ Bs) (hts : tS ≠ e) (hle : w.heap.size ≤ Bs) : ∀ s X Y, zfn w B0 Bs tB e tS f s X → zhM Bs X Y → zfn w B0 Bs tB e tS f s Y := by
 rintro s X Y ⟨⟨v, hv, hr⟩, ⟨sv, hs⟩, hb⟩ (h | ⟨u, rfl⟩)
 ·exact ⟨⟨v, Boxed.below hv h, zfO hr h⟩, ⟨sv, Boxed.below hs h⟩, hb.trans (h.mono hb.size)⟩
 ·refine ⟨⟨v, Boxed.other' hv hne _, hr.kept (grownBy_setCell' X Bs _) (.inr (hs.not_row hts hr).symm)⟩, ⟨u, hs.set _⟩, hb.setCell (p := ⟨Bs, 0, none⟩) hle _⟩
end Go.Proofs.YtioofhilohmfbaaGreatDoor
end
section
open Go
namespace Go.Proofs.YtioofhilohmfbaaGreatDoor
section
variable {F : Fence} {n : Nat} {P : Program} {ops : Array Oper} {Q : Exit → Act → World → Prop} {md : Region.Mode}
def zin (ops : Array Oper) : Prop := ∀ (j : Nat) (o : Oper), ops[j]? = some o → ∀ c, o.op ≠ .defer c
def zkJ (ops : Array Oper) : Bool := ops.all fun o => match o.op with
 | .defer _ => false
 | _ => true
theorem zlA {ops : Array Oper} (h : zkJ ops = true) : zin ops := by
 intro j o hj c hc
 obtain ⟨hlt, he⟩ := Array.getElem?_eq_some_iff.1 hj
 have h2 := Array.all_eq_true.1 h j hlt
 rw [he] at h2
 simp [hc] at h2
theorem zmR {i : Nat} {o : Oper} {v : Value} {a : Act} (hnd : zin ops) (hi : ops[i]? = some o) (hy : YieldsFenced P ops o v a)
  {K : Act → World → Prop} {w : World} (h : K (a.put o.dst v) w) : wpOpIn F n P ops Q i K a w := by
 unfold Go.wpOpIn
 simp only [hi]
 have hab : ∀ f, o.about P w a.eval = some f → F.fn f := fun f hf => by rw [hy.2 w] at hf; cases hf
 rcases hy.1 with ⟨hw, hv⟩ | ⟨hw, rfl⟩
 ·simp only [hw, if_true, Oper.wpIn, Oper.semAt_eq F.round a.eval o (hnd i o hi), hv w, Oper.uponIn]; exact ⟨hab, h⟩
 ·simp only [hw, Bool.false_eq_true, if_false]; exact ⟨hab, h⟩
theorem zn9 {j : Nat} {oi oj : Oper} {v : Value} (hnd : zin ops) (hj : ops[j]? = some oj) (hap : oi.apart ops oj = true)
  (hsi : ∀ cs b, oi.op ≠ .select cs b) (hsj : ∀ cs b, oj.op ≠ .select cs b)
  (hQ : ∀ c a w, Q (.panic c) (a.put oi.dst v) w → Q (.panic c) a w) {K : Act → World → Prop} {a : Act} {w : World}
  (hy : YieldsFenced P ops oi v a) (h : wpOpIn F n P ops Q j K (a.put oi.dst v) w) :
  wpOpIn F n P ops Q j (fun a' w' => YieldsFenced P ops oi v a' ∧ K (a'.put oi.dst v) w') a w := by
 obtain ⟨h1, h2, h3⟩ := Oper.apart_spec hap
 have keep : ∀ (a : Act), YieldsFenced P ops oi v a → ∀ u, YieldsFenced P ops oi v (a.put oj.dst u) := fun a hy u =>
  hy.of_same (execOp_put oi hsi a oj.dst u h3) (wanted_put oi a oj.dst u h3) (fun w => about_put oi w a oj.dst u h3)
 have keepD : ∀ d, YieldsFenced P ops oi v { a with defers := d :: a.defers } := fun d => hy.of_same rfl rfl (fun _ => rfl)
 have hndj := hnd j oj hj
 unfold wpOpIn at *
 simp only [hj] at *
 rw [wanted_put oj a oi.dst v h1, about_put oj w a oi.dst v h1] at h
 split
 ·rename_i hw
  simp only [hw, if_true] at h
  unfold Oper.wpIn at *
  rw [about_put oj w a oi.dst v h1] at h
  refine ⟨h.1, ?_⟩
  have h := h.2
  rw [Oper.semAt_eq F.round _ oj hndj, execOp_put oj hsj a oi.dst v h1] at h
  rw [Oper.semAt_eq F.round _ oj hndj]
  generalize (execOp a.eval oj).run P w = r at *
  cases r with
  | ok x w' =>
   cases x <;> simp only [Oper.uponIn] at h ⊢
   case value u => exact ⟨keep a hy u, by rw [← Act.put_comm a v u h2]; exact h⟩
   case skip => exact ⟨keep a hy _, by rw [← Act.put_comm a v undef h2]; exact h⟩
   case defer d =>
    refine ⟨keep _ (keepD d) _, ?_⟩
    rw [← Act.put_comm _ v undef h2, ← Act.put_defers]
    exact h
   case enter f args =>
    refine ⟨h.1, CallsIn.mono h.2 fun e w'' he => ?_⟩
    cases e with
    | returned u => exact ⟨keep a hy u, by rw [← Act.put_comm a v u h2]; exact he⟩
    | panicked c => exact hQ _ _ _ he
    | outgrown => exact he
   case row row args => exact ⟨h.1, RowsIn.mono h.2 fun u w'' he => ⟨keep a hy u, by rw [← Act.put_comm a v u h2]; exact he⟩⟩
   case round l f tmps assign body =>
    refine ⟨h.1, RoundIn.mono h.2 fun e w'' he => ?_⟩
    cases e with
    | returned u => exact ⟨keep a hy u, by rw [← Act.put_comm a v u h2]; exact he⟩
    | panicked c => exact hQ _ _ _ he
    | outgrown => exact he
  | halt x w' =>
   cases x <;> simp only [Oper.uponIn] at h ⊢
   case panic u => exact hQ _ _ _ h
 ·rename_i hw
  simp only [hw] at h
  exact ⟨h.1, keep a hy _, by rw [← Act.put_comm a v undef h2]; exact h.2⟩
theorem zlB {i : Nat} {oi : Oper} {v : Value} (hnd : zin ops) (hi : ops[i]? = some oi) (hsel : ∀ (j : Nat) (o : Oper) cs b, ops[j]? = some o → o.op ≠ .select cs b)
  (hQ : ∀ c a w, Q (.panic c) (a.put oi.dst v) w → Q (.panic c) a w) :
  ∀ (fuel : Nat) (listed : Array Bool) (a : Act) (w : World),
   (∀ j oj, ops[j]? = some oj → j ≠ i → listed.getD j true = false → (∀ e ∈ oj.after, Region.binds md e = true → e.on ≠ i) → oi.apart ops oj = true) →
   i ∈ Region.ready md ops listed → YieldsFenced P ops oi v a →
   wpAnyIn F n P md ops Q fuel (listed.setIfInBounds i true) (a.put oi.dst v) w → wpAnyIn F n P md ops Q (fuel + 1) listed a w := by
 intro fuel
 induction fuel with
 | zero =>
  intro listed a w _ hr hy H
  refine ⟨fun h => (by rw [h] at hr; cases hr), fun j hj => ?_⟩
  by_cases hji : j = i
  ·subst hji; exact zmR hnd hi hy H
  ·have := ready_mono hj hji
   rw [H.1] at this
   cases this
 | succ fuel ih =>
  intro listed a w hfree hr hy H
  refine ⟨fun h => (by rw [h] at hr; cases hr), fun j hj => ?_⟩
  by_cases hji : j = i
  ·subst hji; exact zmR hnd hi hy H
  ·have h1 := H.2 j (ready_mono hj hji)
   obtain ⟨hjun, oj, hoj, hall⟩ := mem_ready.1 hj
   have hnot : ∀ e ∈ oj.after, Region.binds md e = true → e.on ≠ i := fun e he hb heq => by
    have h1 := hall e he hb
    have h0 := (mem_ready.1 hr).1
    rw [heq] at h1
    rcases Nat.lt_or_ge i listed.size with h' | h'
    ·simp [h'] at h0 h1; rw [h0] at h1; cases h1
    ·simp [Array.getElem?_eq_none h'] at h1
   have h2 := zn9 hnd hoj (hfree j oj hoj hji hjun hnot) (fun cs b => hsel i oi cs b hi) (fun cs b => hsel j oj cs b hoj) hQ hy h1
   have hfree' : ∀ k ok, ops[k]? = some ok → k ≠ i → (listed.setIfInBounds j true).getD k true = false →
     (∀ e ∈ ok.after, Region.binds md e = true → e.on ≠ i) → oi.apart ops ok = true := fun k ok hk hki hun hno => by
    refine hfree k ok hk hki ?_ hno
    by_cases hjk : j = k
    ·subst hjk; exact hjun
    ·rw [getD_set_ne true hjk] at hun; exact hun
   refine wpOpIn_mono (fun a' w' h3 => ih (listed.setIfInBounds j true) a' w' hfree' (ready_mono hr (Ne.symm hji)) h3.1 ?_) h2
   rw [Array.setIfInBounds_comm _ _ hji]
   exact h3.2
theorem zbP {i : Nat} {oi : Oper} {v : Value} {fuel : Nat} {listed : Array Bool} {a : Act} {w : World} (hnd : zkJ ops = true) (hi : ops[i]? = some oi)
  (hs : Region.noSelect ops = true) (hf : Region.free md ops listed i = true) (hr : (Region.ready md ops listed).contains i = true)
  (hQ : ∀ c a w, Q (.panic c) (a.put oi.dst v) w → Q (.panic c) a w) (hy : YieldsFenced P ops oi v a)
  (h : wpAnyIn F n P md ops Q fuel (listed.setIfInBounds i true) (a.put oi.dst v) w) : wpAnyIn F n P md ops Q (fuel + 1) listed a w :=
 zlB (zlA hnd) hi (Region.noSelect_spec hs) hQ fuel listed a w (Region.free_spec hi hf) (by simpa using hr) hy h
end
end Go.Proofs.YtioofhilohmfbaaGreatDoor
end
section
open Go Go.RowKit Go.Shelf PrintWords YtioofhilohmfbaaGreatDoor.P
namespace Go.Proofs.YtioofhilohmfbaaGreatDoor
attribute [local go_sem] Oper.semAt_some
def zbc (k : Nat) : UInt8 := if k < 10 then (48 + k).toUInt8 else (87 + k).toUInt8
def zaV (x : Int × ByteArray) : List UInt8 :=
 if x.1 = 34 then 92 :: x.2.data.toList
 else if x.1 = 92 then 92 :: x.2.data.toList
 else if x.1 = 10 then [92, 110]
 else if x.1 = 13 then [92, 114]
 else if x.1 = 9 then [92, 116]
 else if x.1 < 32 ∨ x.1 = 127 ∨ (x.1 = 65533 ∧ x.2.size = 1) then [92, 120, zbc ((x.2.get! 0).toNat / 16), zbc ((x.2.get! 0).toNat % 16)]
 else x.2.data.toList
def zcu (s : ByteArray) : List UInt8 := 34 :: (zbG s).flatMap zaV ++ [34]
theorem zfL (x : Int × ByteArray) (h : zfK x) : (zaV x).length ≤ 5 := by
 obtain ⟨_, h4, _, _⟩ := h
 have e : x.2.data.toList.length = x.2.size := by rw [Array.length_toList]; rfl
 unfold zaV
 repeat' split
 all_goals (first | (simp only [List.length_cons, List.length_nil]; omega) | omega)
theorem zeO (l : List (Int × ByteArray)) (h : ∀ x ∈ l, zfK x) : (l.flatMap zaV).length ≤ 5 * l.length := by
 induction l with
 | nil => simp
 | cons x l ih =>
  have h1 := zfL x (h x (by simp))
  have h2 := ih (fun y hy => h y (by simp [hy]))
  simp only [List.flatMap_cons, List.length_append, List.length_cons]
  omega
def hexDigits : ByteArray := { data := #[48, 49, 50, 51, 52, 53, 54, 55, 56, 57, 97, 98, 99, 100, 101, 102] }
theorem zpO (k : Nat) (hk : k < 16) (h : (k : Int).toNat < hexDigits.size) : hexDigits[(k : Int).toNat]'h = zbc k := by
 obtain rfl | rfl | rfl | rfl | rfl | rfl | rfl | rfl | rfl | rfl | rfl | rfl | rfl | rfl | rfl | rfl : k = 0 ∨ k = 1 ∨ k = 2 ∨ k = 3 ∨ k = 4 ∨ k = 5 ∨ k = 6 ∨ k = 7 ∨ k = 8 ∨ k = 9 ∨ k = 10 ∨ k = 11 ∨ k = 12 ∨ k = 13 ∨ k = 14 ∨ k = 15 := by omega
 all_goals rfl
theorem zdm (k : Nat) (hk : k < 16) : Utf8.encode ((zbc k).toNat : Int) = { data := #[zbc k] } := by
 obtain rfl | rfl | rfl | rfl | rfl | rfl | rfl | rfl | rfl | rfl | rfl | rfl | rfl | rfl | rfl | rfl : k = 0 ∨ k = 1 ∨ k = 2 ∨ k = 3 ∨ k = 4 ∨ k = 5 ∨ k = 6 ∨ k = 7 ∨ k = 8 ∨ k = 9 ∨ k = 10 ∨ k = 11 ∨ k = 12 ∨ k = 13 ∨ k = 14 ∨ k = 15 := by omega
 all_goals kernel_rfl
theorem zhN (k : Nat) (hk : k < 16) (P : Program) (w : World) (r : Sem Value) : ((if h : (k : Int) < 16 then Result.ok (Value.int .u8 ((hexDigits[(k : Int).toNat]'(by have : hexDigits.size = 16 := rfl; omega)).toNat : Int)) w else Sem.run P r w).andThen fun a w' => Result.ok (Next.value a) w') = Result.ok (Next.value (.int .u8 ((zbc k).toNat : Int))) w := by
 rw [dif_pos (by omega), zpO k hk]
 rfl
section
variable {x : Int × ByteArray}
theorem zrl (h : (x.1 == 34) = true) : ({ data := #[92] } ++ x.2 : ByteArray).data.toList = zaV x := by
 have h := beq_iff_eq.1 h
 unfold zaV
 rw [if_pos h]; simp
theorem zrm (h : (x.1 == 34) = false) (h2 : (x.1 == 92) = true) : ({ data := #[92] } ++ x.2 : ByteArray).data.toList = zaV x := by
 have h := beq_eq_false_iff_ne.1 h
 have h2 := beq_iff_eq.1 h2
 unfold zaV
 rw [if_neg h, if_pos h2]; simp
theorem zrn (h : (x.1 == 10) = true) : ({ data := #[92, 110] } : ByteArray).data.toList = zaV x := by
 have h := beq_iff_eq.1 h
 unfold zaV
 rw [if_neg (by omega), if_neg (by omega), if_pos h]
theorem zro (h : (x.1 == 13) = true) : ({ data := #[92, 114] } : ByteArray).data.toList = zaV x := by
 have h := beq_iff_eq.1 h
 unfold zaV
 rw [if_neg (by omega), if_neg (by omega), if_neg (by omega), if_pos h]
theorem qp9 (h : (x.1 == 9) = true) : ({ data := #[92, 116] } : ByteArray).data.toList = zaV x := by
 have h := beq_iff_eq.1 h
 unfold zaV
 rw [if_neg (by omega), if_neg (by omega), if_neg (by omega), if_neg (by omega), if_pos h]
theorem zkc (a : (x.1 == 34) = false) (b : (x.1 == 92) = false) (c : (x.1 == 10) = false) (d : (x.1 == 13) = false) (e : (x.1 == 9) = false) :
  zaV x = if x.1 < 32 ∨ x.1 = 127 ∨ (x.1 = 65533 ∧ x.2.size = 1) then [92, 120, zbc ((x.2.get! 0).toNat / 16), zbc ((x.2.get! 0).toNat % 16)] else x.2.data.toList := by
 have a := beq_eq_false_iff_ne.1 a
 have b := beq_eq_false_iff_ne.1 b
 have c := beq_eq_false_iff_ne.1 c
 have d := beq_eq_false_iff_ne.1 d
 have e := beq_eq_false_iff_ne.1 e
 unfold zaV
 rw [if_neg a, if_neg b, if_neg c, if_neg d, if_neg e]
theorem zoa (a : (x.1 == 34) = false) (b : (x.1 == 92) = false) (c : (x.1 == 10) = false) (d : (x.1 == 13) = false) (e : (x.1 == 9) = false)
  (f : 32 ≤ x.1) (g : (x.1 == 127) = false) (h : ((x.2.size : Int) == 1) = false) : x.2.data.toList = zaV x := by
 have g := beq_eq_false_iff_ne.1 g
 have h := beq_eq_false_iff_ne.1 h
 rw [zkc a b c d e, if_neg (by omega)]
theorem zob (a : (x.1 == 34) = false) (b : (x.1 == 92) = false) (c : (x.1 == 10) = false) (d : (x.1 == 13) = false) (e : (x.1 == 9) = false)
  (f : 32 ≤ x.1) (g : (x.1 == 127) = false) (h : ¬ x.1 = 65533) : x.2.data.toList = zaV x := by
 have g := beq_eq_false_iff_ne.1 g
 rw [zkc a b c d e, if_neg (by omega)]
theorem zmS {k1 k2 cc : Nat} (hx : 0 < x.2.size) (hcc : (x.2[0]'hx).toNat = cc) (h1 : k1 = cc / 16) (h2 : k2 = cc % 16) (a : (x.1 == 34) = false) (b : (x.1 == 92) = false) (c : (x.1 == 10) = false) (d : (x.1 == 13) = false) (e : (x.1 == 9) = false)
  (f : x.1 < 32 ∨ x.1 = 127 ∨ (x.1 = 65533 ∧ x.2.size = 1)) : [92, 120, zbc k1, zbc k2] = zaV x := by
 have h0 : x.2.get! 0 = x.2[0]'hx := by
  show x.2.data[0]! = _
  exact getElem!_pos x.2.data 0 hx
 rw [zkc a b c d e, if_pos f, h0, hcc, h1, h2]
end
def zfo (w : World) (b Bs : Nat) (pre : List (Int × ByteArray)) (W : World) : Prop :=
 Bld w.heap.size b (34 :: pre.flatMap zaV) W ∧ (∃ sv : ByteArray, Boxed W Bs 9 (.string sv)) ∧ Below w.heap.size w W
theorem zfo.own {w : World} {b Bs B : Nat} (hB : w.heap.size ≤ B) : OwnFrom B (zfo w b Bs) := by
 rintro s W W' row ⟨hv, ⟨sv, hs⟩, hb⟩ hg hrow
 refine ⟨zk2 hv hg (fun r e => (hrow r e).2), ⟨sv, hs.kept hg fun e' => ?_⟩, hb.grown hg hb.size (fun k e' => Nat.le_trans hB (hrow k e').1)⟩
 obtain ⟨_, o, ho, hc⟩ := hrow Bs e'.symm
 rw [show W.heap[Bs]? = _ from hs] at ho; cases ho; cases hc
theorem zfo.step {w : World} {b Bs : Nat} (hle : w.heap.size ≤ Bs) : ∀ s X Y, zfo w b Bs s X → zhM Bs X Y → zfo w b Bs s Y := by
 rintro s X Y ⟨hv, ⟨sv, hs⟩, hb⟩ (h | ⟨u, rfl⟩)
 ·exact ⟨zho hv h, ⟨sv, Boxed.below hs h⟩, hb.trans (h.mono hb.size)⟩
 ·exact ⟨zni hv hs (by decide) (by decide) _, ⟨u, hs.set _⟩, hb.setCell (p := ⟨Bs, 0, none⟩) hle _⟩
theorem zd7 {w W w3 : World} {b Bs B : Nat} {pre : List (Int × ByteArray)} {x : Int × ByteArray} {sv : ByteArray} {L : List UInt8} {Ix : Code → List (Int × ByteArray) → World → Prop} {a : Act}
  (h3 : Bld w.heap.size b (34 :: pre.flatMap zaV ++ L) w3) (hb3 : Below w.heap.size W w3) (hk3 : Lib.OthersKept 5 (some b) W w3) (hsv : Boxed W Bs 9 (.string sv)) (hB : Below w.heap.size w W)
  (hne : Bs ≠ b) (hbB : b < B) (e : L = zaV x) : ownPostG B (zfm w.heap.size Bs) (zfo w b Bs) Ix (pre ++ [x]) W .normal a w3 := by
 have hs3 : Boxed w3 Bs 9 (.string sv) := Boxed.others hsv hk3 hne (by decide)
 refine ⟨⟨hb3.size, fun k o hk ho hc => hk3 k o ho (fun e' => by have := Option.some.inj e'; omega) (fun c fz e' => by rw [e'] at hc; cases hc)⟩, ⟨hb3, fun u hu => ?_⟩, ?_, ⟨sv, hs3⟩, hB.trans hb3⟩
 ·rw [hsv.cell] at hu
  cases hu
  exact ⟨hs3.cell, fun _ => hs3.frozen⟩
 ·rw [e] at h3
  simpa using h3
theorem zkd (s : ByteArray) (hs : s.size ≤ 17592186044416) (w : World) (hG : zaa (G w)) : Calls Tryz.prog 44 #[.string s] w fun e w' =>
  e = .returned (.string ⟨(zcu s).toArray⟩) ∧ Below w.heap.size w w' := by
 refine (callsIn_wide (n := 5)).1 ?_
 refine callsIn_of_wp_marks Tryz.func44 rfl trivial ?_ rfl
 simp only [Tryz.ntmps44, List.size_toArray, List.length_cons, List.length_nil, Nat.reduceAdd, Nat.reduceSub, Array.replicate_succ, Array.replicate_zero, List.push_toArray, List.append_toArray, List.nil_append, List.cons_append]
 have hnew := zjx w
 gi_wp2_with (refine ⟨trivial, ?_⟩; gi_at_call 32; refine (callsIn_wide.2 (zdg w.heap.size w.heap.size [] 34 _ hnew (by simp) (by simp))).mono ?_; rintro e w1 ⟨rfl, h1, hb1, hk1⟩)
 have hb0 : Below w.heap.size w w1 := ((Below.refl _ w).alloc (Nat.le_refl _) _).trans hb1
 have hsz1 : w.heap.size + 1 ≤ w1.heap.size := by have := hb1.size; simp at this; exact this
 clear hb1 hk1 hnew
 gi_wp2_with (refine ⟨trivial, ?_⟩; gi_at_call 73; refine (callsIn_wide.2 (zlz s _)).mono ?_; rintro e w2 ⟨rfl, rfl⟩)
 have hsz : (w1.alloc (.cells #[.string s] 9)).heap.size = w1.heap.size + 1 := by simp
 have hb2 : Below w.heap.size w (w1.alloc (.cells #[.string s] 9)) := hb0.alloc hb0.size _
 have bx1 : Boxed (w1.alloc (.cells #[.string s] 9)) w1.heap.size 9 (.string s) := Boxed.new w1 _ _
 have hbl : Bld w.heap.size w.heap.size [34] (w1.alloc (.cells #[.string s] 9)) := Lib.IsBuilderF.alloc h1 _
 refine zgU rfl (by omega) (gf := 99) (lb := #[.pointer (some ⟨w1.heap.size, 0, none⟩)]) rfl trivial (enters_of Tryz.func99 (by kernel_rfl) rfl)
  (zkb (5 - 1) (by omega) s (by omega) w1.heap.size w _ hG hb2 (by omega) bx1.cell bx1.frozen)
  (fun h k => h.trans' k) (fun W l o o' hl ho hc _ => zfm.zpN (Nat.le_refl _) W l o o' (by rw [hsz] at hl; omega) ho hc)
  (zhM.keeps (by rw [hsz]; omega)) (Below.refl _ _) (fun _ => rfl)
  (zfo w w.heap.size w1.heap.size) (fun _ _ _ => False)
  (zfo.own (by rw [hsz]; omega)) (fun _ _ _ _ _ h => h.elim)
  (zfo.step (by omega)) (fun _ _ _ _ h => h.elim)
  ⟨hbl, ⟨s, bx1⟩, hb2⟩
  (fun x => { tmps := (#[.string s, undef, .string { data := #[] }, .pointer (some ⟨w.heap.size, 0, none⟩), .int .i32 x.1, .string x.2, undef, .nilIface, .string s, .func (.func 99) #[] #[.pointer (some ⟨w1.heap.size, 0, none⟩)], .int .i32 x.1, .string x.2] ++ Array.replicate 50 undef : Array Value), defers := [] }) ?assign ?body ?done ?stop
 case assign =>
  intro l x W K hK
  simp only [Array.replicate_succ, Array.replicate_zero, List.push_toArray, List.append_toArray, List.nil_append, List.cons_append] at hK
  gi_wp2
  exact hK
 case body =>
  rintro l pre x W ⟨hv, ⟨sv, hsv⟩, hB⟩ hal
  simp only [Array.replicate_succ, Array.replicate_zero, List.push_toArray, List.append_toArray, List.nil_append, List.cons_append]
  obtain ⟨hx1, hx2, hx3, hx4⟩ : zfK x := zeX s x (hal.subset (by simp))
  have hlen : (34 :: pre.flatMap zaV).length ≤ 87960930222081 := by
   have h1 := hal.length_le
   have h2 := zev s
   have h3 := zeO pre (fun y hy => zeX s y (hal.subset (by simp [hy])))
   simp at h1
   rw [List.length_cons]
   omega
  have HWS : zaa (∀ S : ByteArray, S.size ≤ 5 → Calls Tryz.prog 31 #[.pointer (some ⟨w.heap.size, 0, none⟩), .string S] W fun e w' => e = .returned (.tuple #[.int .i64 S.size, .nilIface]) ∧ Bld w.heap.size w.heap.size (34 :: pre.flatMap zaV ++ S.data.toList) w' ∧ Below w.heap.size W w' ∧ Lib.OthersKept 5 (some w.heap.size) W w') :=
   ⟨fun S hS => zdr w.heap.size w.heap.size (34 :: pre.flatMap zaV) S W hv (by omega) hB.size⟩
  have HWD : zaa (∀ k1 k2 : Nat, Calls Tryz.prog 31 #[.pointer (some ⟨w.heap.size, 0, none⟩), .string { data := #[92, 120, zbc k1, zbc k2] }] W.drew fun e w' => e = .returned (.tuple #[.int .i64 (({ data := #[92, 120, zbc k1, zbc k2] } : ByteArray).size), .nilIface]) ∧ Bld w.heap.size w.heap.size (34 :: pre.flatMap zaV ++ [92, 120, zbc k1, zbc k2]) w' ∧ Below w.heap.size W w' ∧ Lib.OthersKept 5 (some w.heap.size) W w') :=
   ⟨fun k1 k2 => (zdr w.heap.size w.heap.size (34 :: pre.flatMap zaV) { data := #[92, 120, zbc k1, zbc k2] } W.drew hv (by show _ + 4 ≤ _; omega) hB.size).mono (fun e w' h => ⟨h.1, h.2.1, ⟨h.2.2.1.os, h.2.2.1.tape, h.2.2.1.output, h.2.2.1.size, h.2.2.1.block⟩, h.2.2.2⟩)⟩
  gi_wp2_with fail
  rotate_left 5
  ·generalize hcc : x.2[0].toNat = cc
   have hc256 : cc < 256 := by rw [← hcc]; exact UInt8.toNat_lt _
   have HCC := zaa.mk hcc
   clear hcc
   obtain ⟨k1, hk1, ew1⟩ : ∃ k1 : Nat, k1 = cc / 16 ∧ IntKind.u8.wrap ((cc : Int) / 16) = (k1 : Int) := ⟨cc / 16, rfl, by rw [IntKind.wrap_u8]; omega⟩
   obtain ⟨k2, hk2, ew2⟩ : ∃ k2 : Nat, k2 = cc % 16 ∧ (cc : Int).tmod 16 = (k2 : Int) := ⟨cc % 16, rfl, by rw [Int.tmod_eq_emod_of_nonneg (by omega)]; omega⟩
   have l1 : k1 < 16 := by omega
   have l2 : k2 < 16 := by omega
   have EW1 := zaa.mk ew1
   have EW2 := zaa.mk ew2
   have EK1 := zaa.mk hk1
   have EK2 := zaa.mk hk2
   clear ew1 ew2 hk1 hk2
   refine wpIn_region_any (by kernel_rfl) ?_
   try (change wpAnyIn _ _ _ _ _ _ _ _ _ (World.drew _))
   refine zbP (i := 0) (v := ?_) (by kernel_rfl) rfl (by kernel_rfl) (by kernel_rfl) (by kernel_rfl) (fun _ _ _ h => h) ⟨Or.inl ⟨by rfl, ?hy0⟩, fun _ => rfl⟩ ?_
   case hy0 => intro w; go_simp; with_reducible rfl
   refine zbP (i := 1) (v := .int .u8 (k1 : Int)) (by kernel_rfl) rfl (by kernel_rfl) (by kernel_rfl) (by kernel_rfl) (fun _ _ _ h => h) ⟨Or.inl ⟨by rfl, ?hy1⟩, fun _ => rfl⟩ ?_
   case hy1 => intro w; go_simp; rw [EW1.out]
   refine zbP (i := 2) (v := .int .u8 ((zbc k1).toNat : Int)) (by kernel_rfl) rfl (by kernel_rfl) (by kernel_rfl) (by kernel_rfl) (fun _ _ _ h => h) ⟨Or.inl ⟨by rfl, ?hy2⟩, fun _ => rfl⟩ ?_
   case hy2 => intro w; go_simp; exact zhN k1 l1 _ _ _
   refine zbP (i := 3) (v := .string { data := #[zbc k1] }) (by kernel_rfl) rfl (by kernel_rfl) (by kernel_rfl) (by kernel_rfl) (fun _ _ _ h => h) ⟨Or.inl ⟨by rfl, ?hy3⟩, fun _ => rfl⟩ ?_
   case hy3 => intro w; go_simp; exact zdm k1 l1
   refine zbP (i := 4) (v := .string { data := #[92, 120, zbc k1] }) (by kernel_rfl) rfl (by kernel_rfl) (by kernel_rfl) (by kernel_rfl) (fun _ _ _ h => h) ⟨Or.inl ⟨by rfl, ?hy4⟩, fun _ => rfl⟩ ?_
   case hy4 => intro w; go_simp; rfl
   refine zbP (i := 5) (v := ?_) (by kernel_rfl) rfl (by kernel_rfl) (by kernel_rfl) (by kernel_rfl) (fun _ _ _ h => h) ⟨Or.inl ⟨by rfl, ?hy5⟩, fun _ => rfl⟩ ?_
   case hy5 => intro w; go_simp; with_reducible rfl
   refine zbP (i := 6) (v := .int .u8 (k2 : Int)) (by kernel_rfl) rfl (by kernel_rfl) (by kernel_rfl) (by kernel_rfl) (fun _ _ _ h => h) ⟨Or.inl ⟨by rfl, ?hy6⟩, fun _ => rfl⟩ ?_
   case hy6 => intro w; go_simp; rw [EW2.out]
   refine zbP (i := 7) (v := .int .u8 ((zbc k2).toNat : Int)) (by kernel_rfl) rfl (by kernel_rfl) (by kernel_rfl) (by kernel_rfl) (fun _ _ _ h => h) ⟨Or.inl ⟨by rfl, ?hy7⟩, fun _ => rfl⟩ ?_
   case hy7 => intro w; go_simp; exact zhN k2 l2 _ _ _
   refine zbP (i := 8) (v := .string { data := #[zbc k2] }) (by kernel_rfl) rfl (by kernel_rfl) (by kernel_rfl) (by kernel_rfl) (fun _ _ _ h => h) ⟨Or.inl ⟨by rfl, ?hy8⟩, fun _ => rfl⟩ ?_
   case hy8 => intro w; go_simp; exact zdm k2 l2
   refine zbP (i := 9) (v := .string { data := #[92, 120, zbc k1, zbc k2] }) (by kernel_rfl) rfl (by kernel_rfl) (by kernel_rfl) (by kernel_rfl) (fun _ _ _ h => h) ⟨Or.inl ⟨by rfl, ?hy9⟩, fun _ => rfl⟩ ?_
   case hy9 => intro w; go_simp; rfl
   refine wpAnyIn_ready (rs := [10]) (by kernel_rfl) (by simp) ?_
   refine AllReadyIn.cons rfl (fun K hK => ?_) AllReadyIn.nil
   go_simp
   refine ⟨trivial, (CallsIn.inRound l (callsIn_wide.2 (HWD.out k1 k2))).mono ?_⟩
   rintro e w3 ⟨rfl, h3, hb3, hk3⟩
   refine hK _ _ ?_
   clear hK K
   refine wpAnyIn_done (by kernel_rfl) ?_ _
   gi_wp2
   exact zd7 h3 hb3 hk3 hsv hB (by omega) (by rw [hsz]; omega) (zmS hx1 HCC.out EK1.out EK2.out ‹_› ‹_› ‹_› ‹_› ‹_› (by first | exact .inl ‹_› | exact .inr (.inl (beq_iff_eq.1 ‹(x.1 == 127) = true›)) | exact .inr (.inr ⟨‹_›, by have := beq_iff_eq.1 ‹((x.2.size : Int) == 1) = true›; omega⟩)))
  ·generalize hcc : x.2[0].toNat = cc
   have hc256 : cc < 256 := by rw [← hcc]; exact UInt8.toNat_lt _
   have HCC := zaa.mk hcc
   clear hcc
   obtain ⟨k1, hk1, ew1⟩ : ∃ k1 : Nat, k1 = cc / 16 ∧ IntKind.u8.wrap ((cc : Int) / 16) = (k1 : Int) := ⟨cc / 16, rfl, by rw [IntKind.wrap_u8]; omega⟩
   obtain ⟨k2, hk2, ew2⟩ : ∃ k2 : Nat, k2 = cc % 16 ∧ (cc : Int).tmod 16 = (k2 : Int) := ⟨cc % 16, rfl, by rw [Int.tmod_eq_emod_of_nonneg (by omega)]; omega⟩
   have l1 : k1 < 16 := by omega
   have l2 : k2 < 16 := by omega
   have EW1 := zaa.mk ew1
   have EW2 := zaa.mk ew2
   have EK1 := zaa.mk hk1
   have EK2 := zaa.mk hk2
   clear ew1 ew2 hk1 hk2
   refine wpIn_region_any (by kernel_rfl) ?_
   try (change wpAnyIn _ _ _ _ _ _ _ _ _ (World.drew _))
   refine zbP (i := 0) (v := ?_) (by kernel_rfl) rfl (by kernel_rfl) (by kernel_rfl) (by kernel_rfl) (fun _ _ _ h => h) ⟨Or.inl ⟨by rfl, ?hy0⟩, fun _ => rfl⟩ ?_
   case hy0 => intro w; go_simp; with_reducible rfl
   refine zbP (i := 1) (v := .int .u8 (k1 : Int)) (by kernel_rfl) rfl (by kernel_rfl) (by kernel_rfl) (by kernel_rfl) (fun _ _ _ h => h) ⟨Or.inl ⟨by rfl, ?hy1⟩, fun _ => rfl⟩ ?_
   case hy1 => intro w; go_simp; rw [EW1.out]
   refine zbP (i := 2) (v := .int .u8 ((zbc k1).toNat : Int)) (by kernel_rfl) rfl (by kernel_rfl) (by kernel_rfl) (by kernel_rfl) (fun _ _ _ h => h) ⟨Or.inl ⟨by rfl, ?hy2⟩, fun _ => rfl⟩ ?_
   case hy2 => intro w; go_simp; exact zhN k1 l1 _ _ _
   refine zbP (i := 3) (v := .string { data := #[zbc k1] }) (by kernel_rfl) rfl (by kernel_rfl) (by kernel_rfl) (by kernel_rfl) (fun _ _ _ h => h) ⟨Or.inl ⟨by rfl, ?hy3⟩, fun _ => rfl⟩ ?_
   case hy3 => intro w; go_simp; exact zdm k1 l1
   refine zbP (i := 4) (v := .string { data := #[92, 120, zbc k1] }) (by kernel_rfl) rfl (by kernel_rfl) (by kernel_rfl) (by kernel_rfl) (fun _ _ _ h => h) ⟨Or.inl ⟨by rfl, ?hy4⟩, fun _ => rfl⟩ ?_
   case hy4 => intro w; go_simp; rfl
   refine zbP (i := 5) (v := ?_) (by kernel_rfl) rfl (by kernel_rfl) (by kernel_rfl) (by kernel_rfl) (fun _ _ _ h => h) ⟨Or.inl ⟨by rfl, ?hy5⟩, fun _ => rfl⟩ ?_
   case hy5 => intro w; go_simp; with_reducible rfl
   refine zbP (i := 6) (v := .int .u8 (k2 : Int)) (by kernel_rfl) rfl (by kernel_rfl) (by kernel_rfl) (by kernel_rfl) (fun _ _ _ h => h) ⟨Or.inl ⟨by rfl, ?hy6⟩, fun _ => rfl⟩ ?_
   case hy6 => intro w; go_simp; rw [EW2.out]
   refine zbP (i := 7) (v := .int .u8 ((zbc k2).toNat : Int)) (by kernel_rfl) rfl (by kernel_rfl) (by kernel_rfl) (by kernel_rfl) (fun _ _ _ h => h) ⟨Or.inl ⟨by rfl, ?hy7⟩, fun _ => rfl⟩ ?_
   case hy7 => intro w; go_simp; exact zhN k2 l2 _ _ _
   refine zbP (i := 8) (v := .string { data := #[zbc k2] }) (by kernel_rfl) rfl (by kernel_rfl) (by kernel_rfl) (by kernel_rfl) (fun _ _ _ h => h) ⟨Or.inl ⟨by rfl, ?hy8⟩, fun _ => rfl⟩ ?_
   case hy8 => intro w; go_simp; exact zdm k2 l2
   refine zbP (i := 9) (v := .string { data := #[92, 120, zbc k1, zbc k2] }) (by kernel_rfl) rfl (by kernel_rfl) (by kernel_rfl) (by kernel_rfl) (fun _ _ _ h => h) ⟨Or.inl ⟨by rfl, ?hy9⟩, fun _ => rfl⟩ ?_
   case hy9 => intro w; go_simp; rfl
   refine wpAnyIn_ready (rs := [10]) (by kernel_rfl) (by simp) ?_
   refine AllReadyIn.cons rfl (fun K hK => ?_) AllReadyIn.nil
   go_simp
   refine ⟨trivial, (CallsIn.inRound l (callsIn_wide.2 (HWD.out k1 k2))).mono ?_⟩
   rintro e w3 ⟨rfl, h3, hb3, hk3⟩
   refine hK _ _ ?_
   clear hK K
   refine wpAnyIn_done (by kernel_rfl) ?_ _
   gi_wp2
   exact zd7 h3 hb3 hk3 hsv hB (by omega) (by rw [hsz]; omega) (zmS hx1 HCC.out EK1.out EK2.out ‹_› ‹_› ‹_› ‹_› ‹_› (by first | exact .inl ‹_› | exact .inr (.inl (beq_iff_eq.1 ‹(x.1 == 127) = true›)) | exact .inr (.inr ⟨‹_›, by have := beq_iff_eq.1 ‹((x.2.size : Int) == 1) = true›; omega⟩)))
  ·generalize hcc : x.2[0].toNat = cc
   have hc256 : cc < 256 := by rw [← hcc]; exact UInt8.toNat_lt _
   have HCC := zaa.mk hcc
   clear hcc
   obtain ⟨k1, hk1, ew1⟩ : ∃ k1 : Nat, k1 = cc / 16 ∧ IntKind.u8.wrap ((cc : Int) / 16) = (k1 : Int) := ⟨cc / 16, rfl, by rw [IntKind.wrap_u8]; omega⟩
   obtain ⟨k2, hk2, ew2⟩ : ∃ k2 : Nat, k2 = cc % 16 ∧ (cc : Int).tmod 16 = (k2 : Int) := ⟨cc % 16, rfl, by rw [Int.tmod_eq_emod_of_nonneg (by omega)]; omega⟩
   have l1 : k1 < 16 := by omega
   have l2 : k2 < 16 := by omega
   have EW1 := zaa.mk ew1
   have EW2 := zaa.mk ew2
   have EK1 := zaa.mk hk1
   have EK2 := zaa.mk hk2
   clear ew1 ew2 hk1 hk2
   refine wpIn_region_any (by kernel_rfl) ?_
   try (change wpAnyIn _ _ _ _ _ _ _ _ _ (World.drew _))
   refine zbP (i := 0) (v := ?_) (by kernel_rfl) rfl (by kernel_rfl) (by kernel_rfl) (by kernel_rfl) (fun _ _ _ h => h) ⟨Or.inl ⟨by rfl, ?hy0⟩, fun _ => rfl⟩ ?_
   case hy0 => intro w; go_simp; with_reducible rfl
   refine zbP (i := 1) (v := .int .u8 (k1 : Int)) (by kernel_rfl) rfl (by kernel_rfl) (by kernel_rfl) (by kernel_rfl) (fun _ _ _ h => h) ⟨Or.inl ⟨by rfl, ?hy1⟩, fun _ => rfl⟩ ?_
   case hy1 => intro w; go_simp; rw [EW1.out]
   refine zbP (i := 2) (v := .int .u8 ((zbc k1).toNat : Int)) (by kernel_rfl) rfl (by kernel_rfl) (by kernel_rfl) (by kernel_rfl) (fun _ _ _ h => h) ⟨Or.inl ⟨by rfl, ?hy2⟩, fun _ => rfl⟩ ?_
   case hy2 => intro w; go_simp; exact zhN k1 l1 _ _ _
   refine zbP (i := 3) (v := .string { data := #[zbc k1] }) (by kernel_rfl) rfl (by kernel_rfl) (by kernel_rfl) (by kernel_rfl) (fun _ _ _ h => h) ⟨Or.inl ⟨by rfl, ?hy3⟩, fun _ => rfl⟩ ?_
   case hy3 => intro w; go_simp; exact zdm k1 l1
   refine zbP (i := 4) (v := .string { data := #[92, 120, zbc k1] }) (by kernel_rfl) rfl (by kernel_rfl) (by kernel_rfl) (by kernel_rfl) (fun _ _ _ h => h) ⟨Or.inl ⟨by rfl, ?hy4⟩, fun _ => rfl⟩ ?_
   case hy4 => intro w; go_simp; rfl
   refine zbP (i := 5) (v := ?_) (by kernel_rfl) rfl (by kernel_rfl) (by kernel_rfl) (by kernel_rfl) (fun _ _ _ h => h) ⟨Or.inl ⟨by rfl, ?hy5⟩, fun _ => rfl⟩ ?_
   case hy5 => intro w; go_simp; with_reducible rfl
   refine zbP (i := 6) (v := .int .u8 (k2 : Int)) (by kernel_rfl) rfl (by kernel_rfl) (by kernel_rfl) (by kernel_rfl) (fun _ _ _ h => h) ⟨Or.inl ⟨by rfl, ?hy6⟩, fun _ => rfl⟩ ?_
   case hy6 => intro w; go_simp; rw [EW2.out]
   refine zbP (i := 7) (v := .int .u8 ((zbc k2).toNat : Int)) (by kernel_rfl) rfl (by kernel_rfl) (by kernel_rfl) (by kernel_rfl) (fun _ _ _ h => h) ⟨Or.inl ⟨by rfl, ?hy7⟩, fun _ => rfl⟩ ?_
   case hy7 => intro w; go_simp; exact zhN k2 l2 _ _ _
   refine zbP (i := 8) (v := .string { data := #[zbc k2] }) (by kernel_rfl) rfl (by kernel_rfl) (by kernel_rfl) (by kernel_rfl) (fun _ _ _ h => h) ⟨Or.inl ⟨by rfl, ?hy8⟩, fun _ => rfl⟩ ?_
   case hy8 => intro w; go_simp; exact zdm k2 l2
   refine zbP (i := 9) (v := .string { data := #[92, 120, zbc k1, zbc k2] }) (by kernel_rfl) rfl (by kernel_rfl) (by kernel_rfl) (by kernel_rfl) (fun _ _ _ h => h) ⟨Or.inl ⟨by rfl, ?hy9⟩, fun _ => rfl⟩ ?_
   case hy9 => intro w; go_simp; rfl
   refine wpAnyIn_ready (rs := [10]) (by kernel_rfl) (by simp) ?_
   refine AllReadyIn.cons rfl (fun K hK => ?_) AllReadyIn.nil
   go_simp
   refine ⟨trivial, (CallsIn.inRound l (callsIn_wide.2 (HWD.out k1 k2))).mono ?_⟩
   rintro e w3 ⟨rfl, h3, hb3, hk3⟩
   refine hK _ _ ?_
   clear hK K
   refine wpAnyIn_done (by kernel_rfl) ?_ _
   gi_wp2
   exact zd7 h3 hb3 hk3 hsv hB (by omega) (by rw [hsz]; omega) (zmS hx1 HCC.out EK1.out EK2.out ‹_› ‹_› ‹_› ‹_› ‹_› (by first | exact .inl ‹_› | exact .inr (.inl (beq_iff_eq.1 ‹(x.1 == 127) = true›)) | exact .inr (.inr ⟨‹_›, by have := beq_iff_eq.1 ‹((x.2.size : Int) == 1) = true›; omega⟩)))
  all_goals
   refine ⟨trivial, (CallsIn.inRound l (callsIn_wide.2 (HWS.out _ ?_))).mono ?_⟩
   ·first | (simp only [ByteArray.size_append]; show 1 + _ ≤ 5; omega) | decide | omega
   ·rintro e w3 ⟨rfl, h3, hb3, hk3⟩
    gi_wp2
    exact zd7 h3 hb3 hk3 hsv hB (by omega) (by rw [hsz]; omega) (by first | exact zrl ‹_› | exact zrm ‹_› ‹_› | exact zrn ‹_› | exact zro ‹_› | exact qp9 ‹_› | exact zoa ‹_› ‹_› ‹_› ‹_› ‹_› ‹_› ‹_› ‹_› | exact zob ‹_› ‹_› ‹_› ‹_› ‹_› ‹_› ‹_› ‹_›)
 case done =>
  rintro D ys W hD rfl ⟨hv, ⟨sv, hsv⟩, hB⟩ hK
  have hD' : w.heap.size + 2 ≤ D := by rw [hsz] at hD; omega
  have hlen : (34 :: (zbG s).flatMap zaV).length ≤ 87960930222081 := by
   have h2 := zev s
   have h3 := zeO (zbG s) (zeX s)
   rw [List.length_cons]
   omega
  gi_wp2_with fail
  refine ⟨trivial, (callsIn_wide.2 (zdg w.heap.size w.heap.size (34 :: (zbG s).flatMap zaV) 34 W hv (by omega) hB.size)).mono ?_⟩
  rintro e w3 ⟨rfl, h3, hb3, hk3⟩
  have hK3 := hk3 D _ hK (fun e' => by have := Option.some.inj e'; omega) (fun c fz e' => by cases e')
  have hB3 := hB.trans hb3
  clear hb3 hk3 hK hB hv hsv
  gi_wp2_with fail
  refine ⟨trivial, (callsIn_wide.2 (zfx w.heap.size w.heap.size _ w3 h3 hB3.size)).mono ?_⟩
  rintro e w4 ⟨rfl, h4, hb4, hk4⟩
  have hK4 := hk4 D _ hK3 (fun e' => by have := Option.some.inj e'; omega) (fun c fz e' => by cases e')
  gi_wp2
  refine ⟨by simp, .inl ⟨_, _, rfl, run_takeDeferred hK4, ?_⟩⟩
  exact ⟨_, results_tmp rfl _ _ _, rfl, (hB3.trans hb4).trans (belowK_b (w := w) (Nat.le_refl _) _ D _ _ (by omega) hK4 rfl rfl)⟩
 case stop =>
  rintro D c pre W _ _ h _
  exact h.elim
end Go.Proofs.YtioofhilohmfbaaGreatDoor
namespace Go.Proofs.YtioofhilohmfbaaGreatDoor.P
open Go Go.RowKit Go.Proofs.YtioofhilohmfbaaGreatDoorW.PrintWords
def zcj.f (a0 : ByteArray) : Option ByteArray := if a0.size ≤ 17592186044416 then some ⟨(zcu a0).toArray⟩ else none
theorem zcj.calls (a0 : ByteArray) (r : ByteArray) (w : World) (hG : zaa (G w)) (h : zcj.f a0 = some r) :
  Calls Tryz.prog 44 #[.string a0] w fun e w' => e = .returned (.string r) ∧ Below w.heap.size w w' := by
 unfold zcj.f at h
 split at h
 ·cases h
  exact zkd a0 ‹_› w hG
 ·cases h
end Go.Proofs.YtioofhilohmfbaaGreatDoor.P
end

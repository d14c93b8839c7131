/- Parts of the proof: the walks and laws that the last text of this claim rests on. No condition beyond each one's own. -/
import Derived.Test.YtioofhilohmfbaaGreatDoorBAll1
section
/-! ### 50. A region's order in a table, made once a region: each step asks the table (numbers alone), not the operations -/
namespace Go.Proofs.YtioofhilohmfbaaGreatDoorW.PrintLast
open Go.Proofs.YtioofhilohmfbaaGreatDoorW.PrintWords (Aside0)
def needsOf (md : Region.Mode) (o : Oper) : List Nat := (o.after.toList.filter (fun e => Region.binds md e)).map (fun e => e.on)
def clashOf (md : Region.Mode) (ops : Array Oper) (i : Nat) (oi : Oper) : List Nat := (List.range ops.size).filter fun j => !(j == i) && match ops[j]? with
  | some oj => !(oj.after.any (fun e => Region.binds md e && e.on == i) || oi.apart ops oj)
  | none => false
/-- No select in it; for each operation: what must have come up before it, and what may not come up behind it if it is taken first. -/
def rtab (md : Region.Mode) (ops : Array Oper) : Bool × List (List Nat × List Nat) := (Region.noSelect ops, (List.range ops.size).map fun i => match ops[i]? with
  | some o => (needsOf md o, clashOf md ops i o)
  | none => ([], []))
def readyAt (T : List (List Nat × List Nat)) (l : List Bool) (i : Nat) : Bool := !l.getD i true && match T[i]? with
  | some r => r.1.all (fun j => l.getD j false)
  | none => false
def readyT (T : List (List Nat × List Nat)) (l : List Bool) : List Nat := (List.range T.length).filter (readyAt T l)
def freeT (T : List (List Nat × List Nat)) (l : List Bool) (i : Nat) : Bool := match T[i]? with
  | some r => r.2.all (fun j => l.getD j true)
  | none => false
def closedT (T : List (List Nat × List Nat)) (l : List Bool) : Bool := (List.range T.length).all fun j => !l.getD j false || match T[j]? with
  | some r => r.1.all (fun k => l.getD k false)
  | none => true
def reachT (T : List (List Nat × List Nat)) (i : Nat) : Nat → Nat → Bool
  | 0, _ => false
  | fuel + 1, d => match T[d]? with
    | some r => r.1.any fun j => j == i || reachT T i fuel j
    | none => false
def lastT (T : List (List Nat × List Nat)) (l : List Bool) (ds : List Nat) (i : Nat) : Bool := ds.all fun d => l.getD d true || reachT T i T.length d
section
variable {md : Region.Mode} {ops : Array Oper} {T : Bool × List (List Nat × List Nat)} {l l' li lj lk : Array Bool} {ds : List Nat} {i j k : Nat}
theorem gd (l : Array Bool) (j : Nat) (b : Bool) : l.getD j b = l.toList.getD j b := by simp [Array.getD_eq_getD_getElem?, List.getD_eq_getElem?_getD]
theorem needs_all (o : Oper) (p : Nat → Bool) : o.after.all (fun e => !Region.binds md e || p e.on) = (needsOf md o).all p := by
  unfold needsOf
  rw [← Array.all_toList]
  induction o.after.toList with
  | nil => rfl
  | cons e r ih =>
    rw [List.all_cons, ih, List.filter_cons]
    cases h : Region.binds md e <;> simp
theorem needs_any (o : Oper) (p : Nat → Bool) : o.after.any (fun e => Region.binds md e && p e.on) = (needsOf md o).any p := by
  unfold needsOf
  rw [← Array.any_toList]
  induction o.after.toList with
  | nil => rfl
  | cons e r ih =>
    rw [List.any_cons, ih, List.filter_cons]
    cases h : Region.binds md e <;> simp
theorem rtab_length : (rtab md ops).2.length = ops.size := by simp [rtab]
theorem rtab_some {o : Oper} (h : ops[i]? = some o) : (rtab md ops).2[i]? = some (needsOf md o, clashOf md ops i o) := by
  have hi := (Array.getElem?_eq_some_iff.1 h).1
  unfold rtab
  rw [List.getElem?_map, List.getElem?_range hi, Option.map_some, h]
theorem rtab_none (h : ops[i]? = none) : (rtab md ops).2[i]? = none := by
  have hi : ops.size ≤ i := Array.getElem?_eq_none_iff.1 h
  exact List.getElem?_eq_none (by rw [rtab_length]; exact hi)
theorem readyAt_eq : readyAt (rtab md ops).2 l.toList i = (!l.getD i true && ((ops[i]?).map (·.after.all fun e => !Region.binds md e || l.getD e.on false)).getD false) := by
  unfold readyAt
  rw [gd]
  cases h : ops[i]? with
  | none => rw [rtab_none h]; rfl
  | some o =>
    rw [rtab_some h]
    simp only [Option.map_some, Option.getD_some]
    rw [← needs_all]
    simp only [gd]
theorem ready_eq : Region.ready md ops l = readyT (rtab md ops).2 l.toList := by
  unfold Region.ready readyT
  rw [rtab_length]
  refine List.filter_congr (fun i _ => ?_)
  rw [readyAt_eq]
theorem free_eq : Region.free md ops l i = freeT (rtab md ops).2 l.toList i := by
  unfold Region.free freeT
  cases h : ops[i]? with
  | none => rw [rtab_none h]
  | some oi =>
    rw [rtab_some h]
    simp only [clashOf]
    rw [List.all_filter]
    congr 1
    funext j
    rw [gd]
    cases hj : ops[j]? with
    | none => cases (j == i) <;> cases (l.toList.getD j true) <;> simp
    | some oj =>
      cases (j == i) <;> cases (l.toList.getD j true) <;> cases (oj.after.any (fun e => Region.binds md e && e.on == i) || oi.apart ops oj) <;> simp_all
theorem closed_eq : Region.closedB md ops l = closedT (rtab md ops).2 l.toList := by
  unfold Region.closedB closedT
  rw [rtab_length]
  congr 1
  funext j
  rw [gd]
  cases h : ops[j]? with
  | none => rw [rtab_none h]
  | some o =>
    rw [rtab_some h]
    simp only
    rw [← needs_all]
    simp only [gd]
theorem reach_eq : ∀ (fuel d : Nat), Region.reachB md ops i fuel d = reachT (rtab md ops).2 i fuel d
  | 0, _ => rfl
  | fuel + 1, d => by
    unfold Region.reachB reachT
    cases h : ops[d]? with
    | none => rw [rtab_none h]
    | some o =>
      rw [rtab_some h]
      simp only
      rw [← needs_any]
      congr 1
      funext e
      rw [reach_eq fuel]
theorem last_eq : Region.lastB md ops l ds i = lastT (rtab md ops).2 l.toList ds i := by
  unfold Region.lastB lastT
  rw [rtab_length]
  congr 1
  funext d
  rw [gd, reach_eq]
theorem readyAt_mem (h : readyAt T.2 l.toList i = true) (hT : rtab md ops = T) : (Region.ready md ops l).contains i = true := by
  subst hT
  rw [ready_eq]
  unfold readyT
  rw [List.contains_iff_mem, List.mem_filter, List.mem_range]
  refine ⟨?_, h⟩
  unfold readyAt at h
  rw [Bool.and_eq_true] at h
  cases hq : (rtab md ops).2[i]? with
  | none => rw [hq] at h; simp at h
  | some r => exact (List.getElem?_eq_some_iff.1 hq).1
theorem set_of (h : (l.toList.set i true == l'.toList) = true) : (l.setIfInBounds i true == l') = true := by
  rw [beq_iff_eq] at h ⊢
  apply Array.ext'
  rw [Array.toList_setIfInBounds]
  exact h
def anyT (T : Bool × List (List Nat × List Nat)) (l l' : List Bool) (i : Nat) : Bool := T.1 && freeT T.2 l i && readyAt T.2 l i && (l.set i true == l')
/-- pure_'s condition out of the table. -/
theorem any_of (hT : rtab md ops = T) (h : anyT T l.toList l'.toList i = true) : anyB md ops l l' i = true := by
  simp only [anyT, Bool.and_eq_true] at h
  obtain ⟨⟨⟨h1, h2⟩, h3⟩, h4⟩ := h
  have h5 := readyAt_mem h3 hT
  have h6 := set_of h4
  subst hT
  simp only [anyB, Bool.and_eq_true]
  exact ⟨⟨⟨h1, by rw [free_eq]; exact h2⟩, h5⟩, h6⟩
def takeT (T : Bool × List (List Nat × List Nat)) (ds : List Nat) (l l' : List Bool) (i : Nat) : Bool := T.1 && freeT T.2 l i && readyAt T.2 l i && closedT T.2 l && lastT T.2 l ds i && (l.set i true == l')
/-- take_'s. -/
theorem take_of (hT : rtab md ops = T) (h : takeT T ds l.toList l'.toList i = true) : takeB md ops ds l l' i = true := by
  simp only [takeT, Bool.and_eq_true] at h
  obtain ⟨⟨⟨⟨⟨h1, h2⟩, h3⟩, h4⟩, h5⟩, h6⟩ := h
  have h7 := readyAt_mem h3 hT
  have h8 := set_of h6
  subst hT
  simp only [takeB, Bool.and_eq_true]
  exact ⟨⟨⟨⟨⟨h1, by rw [free_eq]; exact h2⟩, h7⟩, by rw [closed_eq]; exact h4⟩, by rw [last_eq]; exact h5⟩, h8⟩
/-- one_'s and last_'s. -/
theorem one_of (hT : rtab md ops = T) (h : (readyT T.2 l.toList == [i] && l.toList.set i true == l'.toList) = true) : readyB md ops l l' i = true := by
  simp only [Bool.and_eq_true] at h
  obtain ⟨h1, h2⟩ := h
  subst hT
  simp only [readyB, Bool.and_eq_true]
  exact ⟨by rw [ready_eq]; exact h1, set_of h2⟩
/-- done_'s. -/
theorem done_of (hT : rtab md ops = T) (h : (readyT T.2 l.toList == []) = true) : (Region.ready md ops l == []) = true := by
  subst hT
  rw [ready_eq]
  exact h
/-- What d waits for, as_ bits: told in the table (B), checked in one pass: each bit is a need of d, or a bit of an earlier need's. -/
def upM (B : List Nat) (d : Nat) : List Nat → Nat
  | [] => 0
  | n :: r => (2 ^ n ||| (if n < d then B.getD n 0 else 0)) ||| upM B d r
def waitsOk (T : List (List Nat × List Nat)) (B : List Nat) : Bool := (List.range T.length).all fun d => match T[d]? with
  | some r => (B.getD d 0 ||| upM B d r.1) == upM B d r.1
  | none => false
theorem upM_bit {B : List Nat} {d i : Nat} : ∀ {ns : List Nat}, (upM B d ns).testBit i = true → ∃ n ∈ ns, n = i ∨ (n < d ∧ (B.getD n 0).testBit i = true)
  | [], h => by simp [upM] at h
  | n :: r, h => by
    unfold upM at h
    rw [Nat.testBit_or, Nat.testBit_or, Bool.or_eq_true, Bool.or_eq_true] at h
    rcases h with (h | h) | h
    · rw [Nat.testBit_two_pow] at h
      exact ⟨n, List.mem_cons_self, .inl (by simpa using h)⟩
    · by_cases hn : n < d
      · rw [if_pos hn] at h
        exact ⟨n, List.mem_cons_self, .inr ⟨hn, h⟩⟩
      · rw [if_neg hn] at h
        simp at h
    · obtain ⟨m, hm, h2⟩ := upM_bit h
      exact ⟨m, List.mem_cons_of_mem _ hm, h2⟩
theorem reach_bit {T : List (List Nat × List Nat)} {B : List Nat} (hB : waitsOk T B = true) : ∀ (fuel d : Nat), d < fuel → d < T.length → (B.getD d 0).testBit i = true → reachT T i fuel d = true
  | 0, d, h, _, _ => by omega
  | fuel + 1, d, h, hd, hb => by
    have h1 := List.all_eq_true.1 hB d (List.mem_range.2 hd)
    cases hr : T[d]? with
    | none => rw [hr] at h1; simp at h1
    | some r =>
      rw [hr] at h1
      simp only [beq_iff_eq] at h1
      have h2 : (upM B d r.1).testBit i = true := by rw [← h1, Nat.testBit_or, hb, Bool.true_or]
      obtain ⟨n, hn, h3⟩ := upM_bit h2
      unfold reachT
      rw [hr]
      simp only
      rw [List.any_eq_true]
      refine ⟨n, hn, ?_⟩
      rcases h3 with rfl | ⟨h4, h5⟩
      · simp
      · rw [reach_bit hB fuel n (by omega) (by omega) h5, Bool.or_true]
def lastW (T : List (List Nat × List Nat)) (B : List Nat) (l : List Bool) (ds : List Nat) (i : Nat) : Bool := ds.all fun d => l.getD d true || (decide (d < T.length) && (B.getD d 0).testBit i)
def takeW (T : Bool × List (List Nat × List Nat)) (B : List Nat) (ds : List Nat) (l l' : List Bool) (i : Nat) : Bool := T.1 && freeT T.2 l i && readyAt T.2 l i && closedT T.2 l && lastW T.2 B l ds i && (l.set i true == l')
/-- take_'s, by the bits. -/
theorem take_ofW {B : List Nat} (hT : rtab md ops = T) (hB : waitsOk T.2 B = true) (h : takeW T B ds l.toList l'.toList i = true) : takeB md ops ds l l' i = true := by
  refine take_of hT ?_
  simp only [takeW, takeT, Bool.and_eq_true] at h ⊢
  obtain ⟨⟨⟨⟨⟨h1, h2⟩, h3⟩, h4⟩, h5⟩, h6⟩ := h
  refine ⟨⟨⟨⟨⟨h1, h2⟩, h3⟩, h4⟩, ?_⟩, h6⟩
  unfold lastW at h5
  unfold lastT
  rw [List.all_eq_true] at h5 ⊢
  intro d hd
  have h7 := h5 d hd
  rw [Bool.or_eq_true, Bool.and_eq_true, decide_eq_true_eq] at h7
  rcases h7 with h7 | ⟨h8, h9⟩
  · rw [h7, Bool.true_or]
  · rw [reach_bit hB _ d h8 h8 h9, Bool.or_true]
theorem with_tabW {P : Program} {Q : Exit → Act → World → Prop} {S : World → Prop} {n : Nat} {a : Act} {w : World} {B : List Nat} (hT : rtab md ops = T) (hB : waitsOk T.2 B = true) (h : Aside0 (rtab md ops = T) → Aside0 (waitsOk T.2 B = true) → wpAnyLast P md ops Q S ds n l a w) : wpAnyLast P md ops Q S ds n l a w := h ⟨hT⟩ ⟨hB⟩
end
/-- The operations of a region, by its number. -/
def opsIn : Code → Nat → Option (Array Oper)
  | .region id ops _, k => if id == k then some ops else none
  | .seq a b, k => match opsIn a k with
    | some o => some o
    | none => opsIn b k
  | .cond _ a b, k => match opsIn a k with
    | some o => some o
    | none => opsIn b k
  | .block _ c, k => opsIn c k
  | .loop c, k => opsIn c k
  | .scope c, k => opsIn c k
  | .rangeFunc _ _ a b, k => match opsIn a k with
    | some o => some o
    | none => opsIn b k
  | _, _ => none
def opsOf (f : Func) (k : Nat) : Array Oper := ((f.body.bind fun c => opsIn c k)).getD #[]
end Go.Proofs.YtioofhilohmfbaaGreatDoorW.PrintLast
end
section
/-! ### 56. Four, five, six operations that may come up next, in any order -/
namespace Go.Proofs.YtioofhilohmfbaaGreatDoorW.PrintLast
section
variable {P : Program} {ops : Array Oper} {Q : Exit → Act → World → Prop} {md : Region.Mode} {S : World → Prop} {ds : List Nat} {T : Bool × List (List Nat × List Nat)}
end
end Go.Proofs.YtioofhilohmfbaaGreatDoorW.PrintLast
end
section
/-! ### 52. A row that stays read whatever happens to a block (a set of blocks) doesn't lie there -/
namespace Go.Proofs.YtioofhilohmfbaaGreatDoorW.PrintWords
open Go.RowKit
namespace Kd
section
variable {α : Type} {d : Kd α} {W : World} {g n : Nat} {S ok : Nat → Prop} {A : Option Addr} {ad : Addr} {xs : List α}
end
end Kd
end Go.Proofs.YtioofhilohmfbaaGreatDoorW.PrintWords
end
section
/-! ### 54. Behind orders that were drawn quietly: the same facts at the world's new name; a flat row's foot -/
namespace Go.Proofs.YtioofhilohmfbaaGreatDoorW.PrintWords
open Go.RowKit
section
variable {w w' u : World} {m B g : Nat} {o : Obj} {row : Option Nat} {S : Nat → Prop} {a : Addr} {v : Value}
theorem below_at (hq : w.drewN m = w') (h : Below B u w) : Below B u w' := by subst hq; exact pw_below_drewN h m
end
namespace Kd
section
variable {α : Type} {d : Kd α} {e base n m : Nat} {ok : Nat → Prop} {w w' : World} {v : Value} {A : Option Addr} {xs : List α}
theorem R_at (hq : w.drewN m = w') (h : d.R e w base ok v xs) : d.R e w' base ok v xs := by subst hq; exact R_drewN h m
theorem C_at (hq : w.drewN m = w') (h : d.C w A n xs) : d.C w' A n xs := by subst hq; exact C_drewN h m
end
end Kd
end Go.Proofs.YtioofhilohmfbaaGreatDoorW.PrintWords
end
section
/-! ### 53. '==' of structs as_ one Bool -/
namespace Go.Proofs.YtioofhilohmfbaaGreatDoorW.PrintWords
open Go.RowKit
section
variable {P : Program} {d : Nat} {xs ys : Array Value} {f : Field} {fs : List Field} {a b : Value} {r s : Bool} {w : World}
end
end Go.Proofs.YtioofhilohmfbaaGreatDoorW.PrintWords
end
section
/-! ### 55. Reps told from the front, no append: for rows of one-cell elements and of wider ones -/
namespace Go.Proofs.YtioofhilohmfbaaGreatDoorW.PrintWords
/-- One cell an element. -/
theorem Reps.one {α : Type} {R : α → List Value → Prop} {ps : List α} {cs : List Value} {p : α} {v : Value} (hp : R p [v]) (h : Reps R 1 ps cs) : Reps R 1 (p :: ps) (v :: cs) := by
  refine ⟨by simp [h.1], fun j q hq => ?_⟩
  cases j with
  | zero =>
    simp only [List.getElem?_cons_zero, Option.some.injEq] at hq
    subst hq
    simpa using hp
  | succ j =>
    simp only [List.getElem?_cons_succ] at hq
    have h1 := h.2 j q hq
    simpa [Nat.mul_one] using h1
/-- More cells an element: told apart by the cells' list. -/
theorem Reps.front {α : Type} {R : α → List Value → Prop} {size : Nat} {ps : List α} {cs c all : List Value} {p : α} (hp : R p c) (hc : c.length = size) (h : Reps R size ps cs) (ha : c ++ cs = all) : Reps R size (p :: ps) all := by
  subst ha
  refine ⟨by rw [List.length_append, hc, h.1, List.length_cons, Nat.succ_mul, Nat.add_comm], fun j q hq => ?_⟩
  cases j with
  | zero =>
    simp only [List.getElem?_cons_zero, Option.some.injEq] at hq
    subst hq
    rw [Nat.zero_mul, List.drop_zero, List.take_append_of_le_length (by omega), List.take_of_length_le (by omega)]
    exact hp
  | succ j =>
    simp only [List.getElem?_cons_succ] at hq
    have h1 := h.2 j q hq
    rw [Nat.succ_mul, List.drop_append, List.drop_of_length_le (by rw [hc]; exact Nat.le_add_left _ _), List.nil_append, hc, Nat.add_sub_cancel]
    exact h1
theorem Reps.c2 {α : Type} {R : α → List Value → Prop} {ps : List α} {cs : List Value} {p : α} {va vb : Value} (hp : R p [va, vb]) (h : Reps R 2 ps cs) : Reps R 2 (p :: ps) (va :: vb :: cs) := Reps.front hp rfl h rfl
theorem Reps.c3 {α : Type} {R : α → List Value → Prop} {ps : List α} {cs : List Value} {p : α} {va vb vc : Value} (hp : R p [va, vb, vc]) (h : Reps R 3 ps cs) : Reps R 3 (p :: ps) (va :: vb :: vc :: cs) := Reps.front hp rfl h rfl
theorem Reps.c4 {α : Type} {R : α → List Value → Prop} {ps : List α} {cs : List Value} {p : α} {va vb vc vd : Value} (hp : R p [va, vb, vc, vd]) (h : Reps R 4 ps cs) : Reps R 4 (p :: ps) (va :: vb :: vc :: vd :: cs) := Reps.front hp rfl h rfl
theorem Reps.c5 {α : Type} {R : α → List Value → Prop} {ps : List α} {cs : List Value} {p : α} {va vb vc vd ve : Value} (hp : R p [va, vb, vc, vd, ve]) (h : Reps R 5 ps cs) : Reps R 5 (p :: ps) (va :: vb :: vc :: vd :: ve :: cs) := Reps.front hp rfl h rfl
theorem Reps.c6 {α : Type} {R : α → List Value → Prop} {ps : List α} {cs : List Value} {p : α} {va vb vc vd ve vf : Value} (hp : R p [va, vb, vc, vd, ve, vf]) (h : Reps R 6 ps cs) : Reps R 6 (p :: ps) (va :: vb :: vc :: vd :: ve :: vf :: cs) := Reps.front hp rfl h rfl
theorem Reps.c7 {α : Type} {R : α → List Value → Prop} {ps : List α} {cs : List Value} {p : α} {va vb vc vd ve vf vg : Value} (hp : R p [va, vb, vc, vd, ve, vf, vg]) (h : Reps R 7 ps cs) : Reps R 7 (p :: ps) (va :: vb :: vc :: vd :: ve :: vf :: vg :: cs) := Reps.front hp rfl h rfl
theorem Reps.c8 {α : Type} {R : α → List Value → Prop} {ps : List α} {cs : List Value} {p : α} {va vb vc vd ve vf vg vh : Value} (hp : R p [va, vb, vc, vd, ve, vf, vg, vh]) (h : Reps R 8 ps cs) : Reps R 8 (p :: ps) (va :: vb :: vc :: vd :: ve :: vf :: vg :: vh :: cs) := Reps.front hp rfl h rfl
theorem Reps.c9 {α : Type} {R : α → List Value → Prop} {ps : List α} {cs : List Value} {p : α} {va vb vc vd ve vf vg vh vi : Value} (hp : R p [va, vb, vc, vd, ve, vf, vg, vh, vi]) (h : Reps R 9 ps cs) : Reps R 9 (p :: ps) (va :: vb :: vc :: vd :: ve :: vf :: vg :: vh :: vi :: cs) := Reps.front hp rfl h rfl
theorem Reps.c10 {α : Type} {R : α → List Value → Prop} {ps : List α} {cs : List Value} {p : α} {va vb vc vd ve vf vg vh vi vj : Value} (hp : R p [va, vb, vc, vd, ve, vf, vg, vh, vi, vj]) (h : Reps R 10 ps cs) : Reps R 10 (p :: ps) (va :: vb :: vc :: vd :: ve :: vf :: vg :: vh :: vi :: vj :: cs) := Reps.front hp rfl h rfl
end Go.Proofs.YtioofhilohmfbaaGreatDoorW.PrintWords
end
section
/-! ### 57. A region of open order by ONE relation over what is listed so far: each operation is shown once, whatever came up before it -/
namespace Go.Proofs.YtioofhilohmfbaaGreatDoorW.PrintLast
/-- Number i is listed too. -/
def up (b : Nat → Bool) (i : Nat) : Nat → Bool := fun j => if j = i then true else b j
section
variable {P : Program} {ops : Array Oper} {Q : Exit → Act → World → Prop} {md : Region.Mode} {T : Bool × List (List Nat × List Nat)} {B : List Nat} {O : List Nat} {b : Nat → Bool} {i j n : Nat}
/-! The frame: what is listed has its destination filled. -/
end
end Go.Proofs.YtioofhilohmfbaaGreatDoorW.PrintLast
end
section
namespace Go.Proofs.YtioofhilohmfbaaGreatDoorW.PrintWords
open Go.RowKit
end Go.Proofs.YtioofhilohmfbaaGreatDoorW.PrintWords
namespace Go.Proofs.YtioofhilohmfbaaGreatDoorW.PrintLast
section
variable {ops : Array Oper} {a : Act} {o og : Oper} {g : Nat} {t : Tmp} {u : Bool}
end
end Go.Proofs.YtioofhilohmfbaaGreatDoorW.PrintLast
end
section
/-! ### 58. A guarded operation whose guard is known to want it: the same goal without the guard -/
namespace Go.Proofs.YtioofhilohmfbaaGreatDoorW.PrintWords
open Go.RowKit
section
variable {P : Program} {ops : Array Oper} {rest : List Oper} {o : Oper} {a : Act} {Q : Exit → Act → World → Prop} {W : World}
/-- The gate takes the guard off (hw: 'by rfl', 'by kernel_rfl': the guard's slot holds what is wanted). -/
theorem gate_guard (hw : Region.wanted o (yielded ops a.tmps) = true) (h : wpList P ops Q ({ o with guard := none } :: rest) a W) : wpList P ops Q (o :: rest) a W := by
  have h1 : Region.wanted { o with guard := none } (yielded ops a.tmps) = true := rfl
  unfold wpList at h ⊢
  rw [if_pos h1] at h
  rw [if_pos hw]
  exact h
end
end Go.Proofs.YtioofhilohmfbaaGreatDoorW.PrintWords
end
section
namespace Go.Proofs.YtioofhilohmfbaaGreatDoor.P
open Go.RowKit Go.Proofs.YtioofhilohmfbaaGreatDoorW.PrintWords Go.Proofs.YtioofhilohmfbaaGreatDoorW.PrintLast Go.Proofs.YtioofhilohmfbaaGreatDoorW.PrintMore
attribute [local go_sem] max2_int min2_int max_two min_two max_three min_three max_four min_four
set_option linter.unusedVariables false
set_option linter.unusedSimpArgs false
def errW : Option Int → Value
  | none => .nilIface
  | some c => .iface 0 (.int .i64 c)
theorem errW_none : errW none = .nilIface := rfl
theorem errW_some (c : Int) : errW (some c) = .iface 0 (.int .i64 c) := rfl
theorem info32 : (Tryz.prog.info? 32).map (fun i => (i.zero, i.size, i.bytes)) = some (some (.agg #[(.int .i64 0), (.string ⟨#[]⟩), (.int .i64 0)]), 3, 32) := by kernel_rfl
theorem info109 : (Tryz.prog.info? 109).map (fun i => (i.zero, i.size, i.bytes)) = some (some (.int .u32 0), 1, 4) := by kernel_rfl
-- the values' own types
/-! #### struct type 32 -/
structure S32 where
  f0 : Int
  f1 : ByteArray
  f2 : Int
def z32 : S32 := ⟨(0 : Int), (⟨#[]⟩ : ByteArray), (0 : Int)⟩
def k32 : Kd S32 := Kd.iso (Kd.pair (Kd.int .i64) (Kd.pair Kd.string (Kd.int .i64))) (fun x : S32 => (x.f0, x.f1, x.f2))
theorem k32_open {w : World} {x : S32} {cs : List Value} (h : k32.K w x cs) : cs = [.int .i64 x.f0, .string x.f1, .int .i64 x.f2] := by
  obtain ⟨_, _, rfl, rfl, ⟨_, _, rfl, rfl, rfl⟩⟩ := h
  exact rfl
theorem k32_mkM (w : World) (base : Nat) (ok : Nat → Prop) (x : S32)  : k32.M w base ok x [.int .i64 x.f0, .string x.f1, .int .i64 x.f2] := ⟨[.int .i64 x.f0], [.string x.f1, .int .i64 x.f2], rfl, rfl, ⟨[.string x.f1], [.int .i64 x.f2], rfl, rfl, rfl⟩⟩
def rd_T32 (xs : List S32) (i : Int) : S32 := xs.getD i.toNat z32
theorem at_T32 {w : World} {A : Option Addr} {n : Nat} {xs : List S32} (h : Kd.C k32 w A n xs) (i : Int) (h0 : 0 ≤ i) (h1 : i < n) : ∃ ad , A = some ad ∧ w.cell? (ad.add (i.toNat * 3)) = some (.int .i64 (rd_T32 xs i).f0) ∧ w.cell? ⟨(ad.add (i.toNat * 3)).block, (ad.add (i.toNat * 3)).off + 1, none⟩ = some (.string (rd_T32 xs i).f1) ∧ w.cell? ⟨(ad.add (i.toNat * 3)).block, (ad.add (i.toNat * 3)).off + 2, none⟩ = some (.int .i64 (rd_T32 xs i).f2) := by
  obtain ⟨ad, c, e, _, hK, hc0⟩ := Kd.C_get h z32 i h0 h1
  have hc : ∀ j u, c[j]? = some u → w.cell? (ad.add (i.toNat * 3 + j)) = some u := hc0
  obtain rfl := k32_open hK
  exact ⟨ad, e, hc 0 _ rfl, by rw [← add_field _ _ 1 (by omega)]; exact hc 1 _ rfl, by rw [← add_field _ _ 2 (by omega)]; exact hc 2 _ rfl⟩
/-! #### struct type 33 -/
structure S33 where
  f0 : Int
  f1 : ByteArray
  f2 : Int
/-! #### struct type 51 -/
structure S51 where
  f0 : Int
  f1 : ByteArray
  f2 : Int
def z51 : S51 := ⟨(0 : Int), (⟨#[]⟩ : ByteArray), (0 : Int)⟩
def rd_L7 (xs : List (List Int)) (i : Int) : (List Int) := xs.getD i.toNat ([] : List Int)
theorem at_L7 {w : World} {A : Option Addr} {n : Nat} {xs : List (List Int)} (h : Kd.C (Kd.slice 109 (Kd.int .u32)) w A n xs) (i : Int) (h0 : 0 ≤ i) (h1 : i < n) : ∃ ad A0 c0, A = some ad ∧ w.cell? (ad.add i.toNat) = some (.slice A0 (rd_L7 xs i).length c0) ∧ (rd_L7 xs i).length ≤ c0 ∧ (Kd.int .u32).C w A0 (rd_L7 xs i).length (rd_L7 xs i) := by
  obtain ⟨ad, c, e, _, hK, hc0⟩ := Kd.C_get h ([] : List Int) i h0 h1
  have hc : ∀ j u, c[j]? = some u → w.cell? (ad.add (i.toNat * 1 + j)) = some u := hc0
  obtain ⟨A0, c0, rfl, l0, g0⟩ := hK
  exact ⟨ad, A0, c0, e, by have hq := hc 0 _ rfl; rwa [Nat.mul_one, Nat.add_zero] at hq, l0, g0⟩
end Go.Proofs.YtioofhilohmfbaaGreatDoor.P
end
section
set_option linter.unusedVariables false
namespace Go.Proofs.YtioofhilohmfbaaGreatDoor.P
open Go Go.RowKit Go.Proofs.YtioofhilohmfbaaGreatDoorW.PrintWords
/-- The number that limbs tell. -/
def lv : List Int → Int
  | [] => 0
  | x :: t => x + 4294967296 * lv t
/-- The limbs of a number, at most so many, none of them a nought at the end. -/
def lim : Nat → Int → List Int
  | 0, _ => []
  | k + 1, n => if n = 0 then [] else n % 4294967296 :: lim k (n / 4294967296)
/-- Each is a limb. -/
def U (l : List Int) : Prop := ∀ x ∈ l, 0 ≤ x ∧ x < 4294967296
instance (l : List Int) : Decidable (U l) := inferInstanceAs (Decidable (∀ x ∈ l, 0 ≤ x ∧ x < 4294967296))
/-- No nought at the end. -/
def Tr (l : List Int) : Prop := l.getLast? ≠ some 0
instance (l : List Int) : Decidable (Tr l) := inferInstanceAs (Decidable (_ ≠ _))
theorem U_nil : U [] := fun _ h => by cases h
theorem U_cons {x : Int} {t : List Int} : U (x :: t) ↔ (0 ≤ x ∧ x < 4294967296) ∧ U t := by
  unfold U; simp
theorem U_app {a b : List Int} : U (a ++ b) ↔ U a ∧ U b := by
  unfold U; simp only [List.mem_append]
  exact ⟨fun h => ⟨fun x hx => h x (.inl hx), fun x hx => h x (.inr hx)⟩, fun h x hx => hx.elim (h.1 x) (h.2 x)⟩
theorem U_get {l : List Int} (h : U l) (i : Nat) : 0 ≤ l.getD i 0 ∧ l.getD i 0 < 4294967296 := by
  rw [List.getD_eq_getElem?_getD]
  cases e : l[i]? with
  | none => simp
  | some x => exact h x (List.mem_of_getElem? e)
theorem U_rd {l : List Int} (h : U l) (i : Int) : 0 ≤ rd l i ∧ rd l i < 4294967296 := U_get h _
theorem U_set {l : List Int} (h : U l) (i : Nat) (x : Int) (h0 : 0 ≤ x) (h1 : x < 4294967296) : U (l.set i x) := fun y hy => by
  rcases List.mem_or_eq_of_mem_set hy with h2 | h2
  · exact h y h2
  · subst h2; exact ⟨h0, h1⟩
theorem U_rep (n : Nat) : U (List.replicate n 0) := fun x hx => by
  rw [List.eq_of_mem_replicate hx]; omega
theorem U_take {l : List Int} (h : U l) (n : Nat) : U (l.take n) := fun x hx => h x (List.mem_of_mem_take hx)
theorem U_drop {l : List Int} (h : U l) (n : Nat) : U (l.drop n) := fun x hx => h x (List.mem_of_mem_drop hx)
theorem lv_nonneg : ∀ {l : List Int}, U l → 0 ≤ lv l
  | [], _ => Int.le_refl _
  | x :: t, h => by
    have h1 := U_cons.1 h
    have := lv_nonneg h1.2
    rw [lv]; omega
theorem lv_lt : ∀ {l : List Int}, U l → lv l < 4294967296 ^ l.length
  | [], _ => by decide
  | x :: t, h => by
    have h1 := U_cons.1 h
    have := lv_lt h1.2
    rw [lv, List.length_cons, Int.pow_succ]
    omega
theorem lv_app : ∀ (a b : List Int), lv (a ++ b) = lv a + 4294967296 ^ a.length * lv b
  | [], b => by simp [lv]
  | x :: t, b => by
    rw [List.cons_append, lv, lv, lv_app t b, List.length_cons, Int.pow_succ, Int.mul_add, Int.mul_comm (4294967296 ^ t.length) 4294967296, Int.mul_assoc]
    omega
theorem lv_rep : ∀ n, lv (List.replicate n 0) = 0
  | 0 => rfl
  | n + 1 => by rw [List.replicate_succ, lv, lv_rep n]; rfl
theorem lv_app_rep (l : List Int) (n : Nat) : lv (l ++ List.replicate n 0) = lv l := by
  rw [lv_app, lv_rep, Int.mul_zero, Int.add_zero]
theorem pow_pos (n : Nat) : (0 : Int) < 4294967296 ^ n := Int.pow_pos (by decide)
theorem pow_le {m n : Nat} (h : m ≤ n) : (4294967296 : Int) ^ m ≤ 4294967296 ^ n := by
  obtain ⟨d, rfl⟩ := Nat.exists_eq_add_of_le h
  rw [Int.pow_add]
  have := pow_pos m
  have h2 := pow_pos d
  have h3 := Int.mul_le_mul_of_nonneg_left (show (1 : Int) ≤ 4294967296 ^ d by omega) (Int.le_of_lt this)
  rwa [Int.mul_one] at h3
theorem lv_take_drop (l : List Int) (i : Nat) (h : i ≤ l.length) : lv l = lv (l.take i) + 4294967296 ^ i * lv (l.drop i) := by
  have := lv_app (l.take i) (l.drop i)
  rwa [List.take_append_drop, List.length_take, Nat.min_eq_left h] at this
theorem lv_drop_succ (l : List Int) (i : Nat) (h : i < l.length) : lv (l.drop i) = l.getD i 0 + 4294967296 * lv (l.drop (i + 1)) := by
  rw [List.drop_eq_getElem_cons h, lv, List.getD_eq_getElem?_getD, List.getElem?_eq_getElem h]
  rfl
theorem lv_take_succ (l : List Int) (i : Nat) (h : i < l.length) : lv (l.take (i + 1)) = lv (l.take i) + 4294967296 ^ i * l.getD i 0 := by
  rw [List.take_succ_eq_append_getElem h, lv_app, List.length_take, Nat.min_eq_left (by omega), List.getD_eq_getElem?_getD, List.getElem?_eq_getElem h]
  simp [lv]
theorem lv_set (l : List Int) (i : Nat) (x : Int) (h : i < l.length) : lv (l.set i x) = lv l + 4294967296 ^ i * (x - l.getD i 0) := by
  induction l generalizing i with
  | nil => cases h
  | cons y t ih =>
    cases i with
    | zero => rw [List.set_cons_zero, lv, lv]; simp; omega
    | succ i =>
      rw [List.set_cons_succ, lv, lv, ih i (by simpa using h), List.getD_cons_succ, Int.pow_succ, Int.mul_add, Int.mul_comm (4294967296 ^ i) 4294967296, Int.mul_assoc]
      omega
theorem lim_zero (k : Nat) : lim k 0 = [] := by cases k <;> simp [lim]
theorem lim_U : ∀ (k : Nat) (n : Int), U (lim k n)
  | 0, _ => U_nil
  | k + 1, n => by
    rw [lim]
    split
    · exact U_nil
    · exact U_cons.2 ⟨⟨by omega, by omega⟩, lim_U k _⟩
theorem lim_len : ∀ (k : Nat) (n : Int), (lim k n).length ≤ k
  | 0, _ => Nat.le_refl _
  | k + 1, n => by
    rw [lim]
    split
    · simp
    · rw [List.length_cons]; have := lim_len k (n / 4294967296); omega
theorem lim_lv : ∀ (k : Nat) (n : Int), 0 ≤ n → n < 4294967296 ^ k → lv (lim k n) = n
  | 0, n, h0, h1 => by rw [lim, lv]; simp at h1; omega
  | k + 1, n, h0, h1 => by
    rw [lim]
    split
    · rename_i h; rw [h]; rfl
    · rw [Int.pow_succ] at h1
      rw [lv, lim_lv k (n / 4294967296) (by omega) (by omega)]
      omega
theorem Tr_nil : Tr [] := by unfold Tr; simp
theorem Tr_cons {x y : Int} {t : List Int} : Tr (x :: y :: t) ↔ Tr (y :: t) := by
  unfold Tr; rw [List.getLast?_cons_cons]
theorem Tr_one {x : Int} : Tr [x] ↔ x ≠ 0 := by unfold Tr; simp
theorem lv_zero : ∀ {l : List Int}, U l → Tr l → lv l = 0 → l = []
  | [], _, _, _ => rfl
  | [x], h, ht, he => by
    have := Tr_one.1 ht
    rw [lv, lv] at he
    omega
  | x :: y :: t, h, ht, he => by
    have h1 := U_cons.1 h
    have hn := lv_nonneg h1.2
    rw [lv] at he
    have := lv_zero h1.2 (Tr_cons.1 ht) (by omega)
    cases this
theorem lim_Tr : ∀ (k : Nat) (n : Int), 0 ≤ n → n < 4294967296 ^ k → Tr (lim k n)
  | 0, n, _, _ => Tr_nil
  | k + 1, n, h0, h1 => by
    rw [lim]
    split
    · exact Tr_nil
    · rename_i hn
      rw [Int.pow_succ] at h1
      have ih := lim_Tr k (n / 4294967296) (by omega) (by omega)
      have hl := lim_lv k (n / 4294967296) (by omega) (by omega)
      cases e : lim k (n / 4294967296) with
      | nil =>
        rw [e, lv] at hl
        exact Tr_one.2 (by omega)
      | cons y t =>
        rw [e] at ih
        exact Tr_cons.2 ih
theorem lv_lower : ∀ {l : List Int}, U l → Tr l → l ≠ [] → 4294967296 ^ (l.length - 1) ≤ lv l
  | [], _, _, h => absurd rfl h
  | [x], h, ht, _ => by
    have := Tr_one.1 ht
    have h1 := U_cons.1 h
    simp [lv]; omega
  | x :: y :: t, h, ht, _ => by
    have h1 := U_cons.1 h
    have := lv_lower h1.2 (Tr_cons.1 ht) (by simp)
    rw [lv, List.length_cons, List.length_cons, Nat.add_sub_cancel, Int.pow_succ]
    rw [List.length_cons, Nat.add_sub_cancel] at this
    omega
theorem lim_of : ∀ {l : List Int} (k : Nat), U l → Tr l → l.length ≤ k → lim k (lv l) = l
  | [], k, _, _, _ => lim_zero k
  | x :: t, 0, _, _, h => by simp at h
  | x :: t, k + 1, h, ht, hk => by
    have h1 := U_cons.1 h
    have h2 : Tr t := by
      cases t with
      | nil => exact Tr_nil
      | cons y t => exact Tr_cons.1 ht
    have hn := lv_nonneg h1.2
    have hz : ¬ lv (x :: t) = 0 := fun e => by have := lv_zero h ht e; cases this
    rw [lim, if_neg hz, lv, show (x + 4294967296 * lv t) % 4294967296 = x by omega, show (x + 4294967296 * lv t) / 4294967296 = lv t by omega, lim_of k h1.2 h2 (by simpa using hk)]
theorem lv_inj {a b : List Int} (ha : U a) (ta : Tr a) (hb : U b) (tb : Tr b) (h : lv a = lv b) : a = b := by
  rw [← lim_of (max a.length b.length) ha ta (by omega), h, lim_of _ hb tb (by omega)]
theorem lim_more {k m : Nat} {n : Int} (h0 : 0 ≤ n) (h1 : n < 4294967296 ^ k) (h2 : n < 4294967296 ^ m) : lim k n = lim m n :=
  lv_inj (lim_U _ _) (lim_Tr _ _ h0 h1) (lim_U _ _) (lim_Tr _ _ h0 h2) (by rw [lim_lv _ _ h0 h1, lim_lv _ _ h0 h2])
theorem lim_len_le {k m : Nat} {n : Int} (h0 : 0 ≤ n) (h1 : n < 4294967296 ^ k) (h2 : n < 4294967296 ^ m) : (lim k n).length ≤ m := by
  rw [lim_more h0 h1 h2]; exact lim_len _ _
theorem lv_lt_len {a b : List Int} (ha : U a) (hb : U b) (tb : Tr b) (h : a.length < b.length) : lv a < lv b := by
  have h1 := lv_lt ha
  have h2 := lv_lower hb tb (fun e => by rw [e] at h; simp at h)
  have h3 := pow_le (show a.length ≤ b.length - 1 by omega)
  omega
end Go.Proofs.YtioofhilohmfbaaGreatDoor.P
end
section
namespace Go.Proofs.YtioofhilohmfbaaGreatDoor.P
open Go.RowKit Go.Proofs.YtioofhilohmfbaaGreatDoorW.PrintWords Go.Proofs.YtioofhilohmfbaaGreatDoorW.PrintLast Go.Proofs.YtioofhilohmfbaaGreatDoorW.PrintMore
attribute [local go_sem] max2_int min2_int max_two min_two max_three min_three max_four min_four
set_option linter.unusedVariables false
set_option linter.unusedSimpArgs false
/-! ### nat_compare: function 187 -/
def nat_compare.l0 : Nat → List Int → List Int → Int → Int → Option (Int)
  | 0, _, _, _, _ => none
  | k + 1, x0, x1, x24, x25 => if x25 < x24 then (if 0 ≤ (wrap64 ((wrap64 ((x0.length : Int) - 1)) - x25)) then (if (wrap64 ((wrap64 ((x0.length : Int) - 1)) - x25)) < (x0.length : Int) then (if 0 ≤ (wrap64 ((wrap64 ((x1.length : Int) - 1)) - x25)) then (if (wrap64 ((wrap64 ((x1.length : Int) - 1)) - x25)) < (x1.length : Int) then (if (rd x0 (wrap64 ((wrap64 ((x0.length : Int) - 1)) - x25))) = (rd x1 (wrap64 ((wrap64 ((x1.length : Int) - 1)) - x25))) then (nat_compare.l0 k x0 x1 x24 (wrap64 (x25 + 1))) else (if (rd x0 (wrap64 ((wrap64 ((x0.length : Int) - 1)) - x25))) < (rd x1 (wrap64 ((wrap64 ((x1.length : Int) - 1)) - x25))) then (some (-1)) else (some 1))) else (none)) else (none)) else (none)) else (none)) else (some 0)
def nat_compare.f (k : Nat) (l0 : List Int) (l1 : List Int) : Option (Int) := if (l0.length : Int) = (l1.length : Int) then (nat_compare.l0 k l0 l1 (l0.length : Int) 0) else (some ((2 * (mn (mx (wrap64 ((wrap64 ((l0.length : Int) - (l1.length : Int))) + 1)) 0) 1)) - 1))
theorem nat_compare.mono_l : ∀ k, (∀ y0 y1 y2 y3, LeO (nat_compare.l0 k y0 y1 y2 y3) (nat_compare.l0 (k + 1) y0 y1 y2 y3))
  | 0 => fun _ _ _ _ r h => by simp [nat_compare.l0] at h
  | k + 1 => by
    have ih0 := nat_compare.mono_l k
    · intro y0 y1 y2 y3
      unfold nat_compare.l0
      repeat' first
      | (with_reducible exact ih0 _ _ _ _)
      | (with_reducible exact LeO.refl _)
      | (with_reducible exact LeO.none _)
      | (with_reducible refine LeO.ite ?_ ?_)
      | (with_reducible refine LeO.bind ?_ (fun _ => ?_))
      | exact ih0 _ _ _ _
      | exact LeO.none _
      | refine LeO.ite ?_ ?_
      | refine LeO.bind ?_ (fun _ => ?_)
theorem nat_compare.mono : ∀ a0 a1 k, LeO (nat_compare.f k a0 a1) (nat_compare.f (k + 1) a0 a1) := by
  intro a0 a1 k
  have ih0 := nat_compare.mono_l k
  unfold nat_compare.f
  repeat' first
      | (with_reducible exact ih0 _ _ _ _)
      | (with_reducible exact LeO.refl _)
      | (with_reducible exact LeO.none _)
      | (with_reducible refine LeO.ite ?_ ?_)
      | (with_reducible refine LeO.bind ?_ (fun _ => ?_))
      | exact ih0 _ _ _ _
      | exact LeO.none _
      | refine LeO.ite ?_ ?_
      | refine LeO.bind ?_ (fun _ => ?_)
set_option maxHeartbeats 8000000 in
set_option maxRecDepth 100000 in
theorem nat_compare.calls (k : Nat) (A0 : Option Addr) (c0 : Nat) (l0 : List Int) (A1 : Option Addr) (c1 : Nat) (l1 : List Int) (r : Int) (w : World) (hr0 : Kd.C (Kd.int .u32) w A0 l0.length l0) (hc0 : l0.length ≤ c0) (hr1 : Kd.C (Kd.int .u32) w A1 l1.length l1) (hc1 : l1.length ≤ c1) (h : nat_compare.f k l0 l1 = some r) :
    Calls Tryz.prog 187 #[.slice A0 l0.length c0, .slice A1 l1.length c1] w fun e w' => e = .returned (.int .i64 r) ∧ Below w.heap.size w w' := by
  have HR0 := Aside0.mk hr0
  have HC0 := Aside0.mk hc0
  clear hr0 hc0
  have HR1 := Aside0.mk hr1
  have HC1 := Aside0.mk hc1
  clear hr1 hc1
  have HB := Aside0.mk (Below.refl w.heap.size w)
  have H : (if (l0.length : Int) = (l1.length : Int) then (nat_compare.l0 k l0 l1 (l0.length : Int) 0) else (some ((2 * (mn (mx (wrap64 ((wrap64 ((l0.length : Int) - (l1.length : Int))) + 1)) 0) 1)) - 1))) = some r := h
  clear h
  by_cases c3 : (l0.length : Int) = (l1.length : Int)
  · rw [if_pos c3] at H
    have c3b0 : ((l0.length : Int) == (l1.length : Int)) = true := beq_iff_eq.mpr c3
    have c3b1 : ((l0.length : Int) != (l1.length : Int)) = false := bne_eq_false_iff_eq.mpr c3
    have c3b2 : (l0.length == l1.length) = true := by first | simpa using c3 | (simp at c3 ⊢; omega)
    clear c3
    have H' := Aside0.mk H
    clear H
    go_enter Tryz.func187, Tryz.ntmps187
    go_wp2
    repeat (go_quiet (fail); try go_wp2)
    go_loopg [25] k (fun kq v25 w' => ∃ (x25_1 : Int), v25 = .int .i64 x25_1 ∧ Aside0 (nat_compare.l0 kq l0 l1 (l0.length : Int) x25_1 = some r) ∧ Aside0 (kq ≤ k) ∧ Aside0 (Below w.heap.size w w'))
    case atStart => exact ⟨(0), (by first | rfl | (simp; done) | (simp [*]; done)), H', ⟨Nat.le_refl _⟩, ⟨by exact lc HB.out⟩⟩
    case round =>
      clear H'
      try clear c1
      try clear p2
      try clear c3
      try clear c3b0
      try clear c3b1
      try clear c3b2
      obtain ⟨x25_1, rfl, HA, HK1, HB⟩ := hrel
      cases gk with
      | zero => exact absurd HA.out (by simp [nat_compare.l0])
      | succ k1 =>
        have H := HA.out
        clear HA
        simp only [nat_compare.l0] at H
        by_cases c4 : x25_1 < (l0.length : Int)
        · rw [if_pos c4] at H
          have c4b0 : decide (x25_1 < (l0.length : Int)) = true := decide_eq_true c4
          clear c4
          obtain ⟨ji5, hji5⟩ : ∃ j_ : Int, (wrap64 ((wrap64 ((l0.length : Int) - 1)) - x25_1)) = j_ := ⟨_, rfl⟩
          replace H : (if 0 ≤ (ji5) then (if (ji5) < (l0.length : Int) then (if 0 ≤ (wrap64 ((wrap64 ((l1.length : Int) - 1)) - x25_1)) then (if (wrap64 ((wrap64 ((l1.length : Int) - 1)) - x25_1)) < (l1.length : Int) then (if (rd l0 (ji5)) = (rd l1 (wrap64 ((wrap64 ((l1.length : Int) - 1)) - x25_1))) then (nat_compare.l0 k1 l0 l1 (l0.length : Int) (wrap64 (x25_1 + 1))) else (if (rd l0 (ji5)) < (rd l1 (wrap64 ((wrap64 ((l1.length : Int) - 1)) - x25_1))) then (some (-1)) else (some 1))) else (none)) else (none)) else (none)) else (none)) = some r := by first | (rw [hji5] at H; exact H) | (simp only [hji5] at H ⊢; exact H)
          have hji5w : (IntKind.i64.wrap ((wrap64 ((l0.length : Int) - 1)) - x25_1)) = ji5 := (i64_w _).trans hji5
          by_cases c6 : 0 ≤ (ji5)
          · rw [if_pos c6] at H
            have c6b0 : decide (0 ≤ (ji5)) = true := decide_eq_true c6
            clear c6
            by_cases c7 : (ji5) < (l0.length : Int)
            · rw [if_pos c7] at H
              have c7b0 : decide ((ji5) < (l0.length : Int)) = true := decide_eq_true c7
              clear c7
              obtain ⟨ji8, hji8⟩ : ∃ j_ : Int, (wrap64 ((wrap64 ((l1.length : Int) - 1)) - x25_1)) = j_ := ⟨_, rfl⟩
              replace H : (if 0 ≤ (ji8) then (if (ji8) < (l1.length : Int) then (if (rd l0 (ji5)) = (rd l1 (ji8)) then (nat_compare.l0 k1 l0 l1 (l0.length : Int) (wrap64 (x25_1 + 1))) else (if (rd l0 (ji5)) < (rd l1 (ji8)) then (some (-1)) else (some 1))) else (none)) else (none)) = some r := by first | (rw [hji8] at H; exact H) | (simp only [hji8] at H ⊢; exact H)
              have hji8w : (IntKind.i64.wrap ((wrap64 ((l1.length : Int) - 1)) - x25_1)) = ji8 := (i64_w _).trans hji8
              by_cases c9 : 0 ≤ (ji8)
              · rw [if_pos c9] at H
                have c9b0 : decide (0 ≤ (ji8)) = true := decide_eq_true c9
                clear c9
                by_cases c10 : (ji8) < (l1.length : Int)
                · rw [if_pos c10] at H
                  have c10b0 : decide ((ji8) < (l1.length : Int)) = true := decide_eq_true c10
                  clear c10
                  by_cases c11 : (rd l0 (ji5)) = (rd l1 (ji8))
                  · rw [if_pos c11] at H
                    have c11b0 : ((rd l0 (ji5)) == (rd l1 (ji8))) = true := beq_iff_eq.mpr c11
                    have c11b1 : ((rd l0 (ji5)) != (rd l1 (ji8))) = false := bne_eq_false_iff_eq.mpr c11
                    clear c11
                    have H' := Aside0.mk H
                    clear H
                    have p1 : 0 ≤ ((ji5) : Int) := of_decide_eq_true (by first | (with_reducible assumption) | assumption)
                    have q1 : (ji5) < (l0.length : Int) := of_decide_eq_true (by first | (with_reducible assumption) | assumption)
                    obtain ⟨ad1, e1, hx1_0⟩ := Kd.at_int HR0.out (ji5) p1 q1
                    cases e1
                    replace hx1_0 := (HB.out.cell (World.block_lt_of_cell? w _ hx1_0)).trans hx1_0
                    replace p1 := eq_true p1
                    replace q1 := eq_true q1
                    have p2 : 0 ≤ ((ji8) : Int) := of_decide_eq_true (by first | (with_reducible assumption) | assumption)
                    have q2 : (ji8) < (l1.length : Int) := of_decide_eq_true (by first | (with_reducible assumption) | assumption)
                    obtain ⟨ad2, e2, hx2_0⟩ := Kd.at_int HR1.out (ji8) p2 q2
                    cases e2
                    replace hx2_0 := (HB.out.cell (World.block_lt_of_cell? w _ hx2_0)).trans hx2_0
                    replace p2 := eq_true p2
                    replace q2 := eq_true q2
                    go_wp2
                    repeat (go_quiet (fail); try go_wp2)
                    go_roundg k1
                    case measure => have := HK1.out; omega
                    case rel => exact ⟨(wrap64 (x25_1 + 1)), (by first | rfl | (simp; done) | (simp [*]; done)), H', ⟨by have := HK1.out; omega⟩, ⟨by exact lc HB.out⟩⟩
                  · rw [if_neg c11] at H
                    have c11b0 : ((rd l0 (ji5)) == (rd l1 (ji8))) = false := beq_eq_false_iff_ne.mpr c11
                    have c11b1 : ((rd l0 (ji5)) != (rd l1 (ji8))) = true := bne_iff_ne.mpr c11
                    by_cases c12 : (rd l0 (ji5)) < (rd l1 (ji8))
                    · rw [if_pos c12] at H
                      have c12b0 : decide ((rd l0 (ji5)) < (rd l1 (ji8))) = true := decide_eq_true c12
                      clear c12
                      obtain rfl := Option.some.inj H
                      have p1 : 0 ≤ ((ji5) : Int) := of_decide_eq_true (by first | (with_reducible assumption) | assumption)
                      have q1 : (ji5) < (l0.length : Int) := of_decide_eq_true (by first | (with_reducible assumption) | assumption)
                      obtain ⟨ad1, e1, hx1_0⟩ := Kd.at_int HR0.out (ji5) p1 q1
                      cases e1
                      replace hx1_0 := (HB.out.cell (World.block_lt_of_cell? w _ hx1_0)).trans hx1_0
                      replace p1 := eq_true p1
                      replace q1 := eq_true q1
                      have p2 : 0 ≤ ((ji8) : Int) := of_decide_eq_true (by first | (with_reducible assumption) | assumption)
                      have q2 : (ji8) < (l1.length : Int) := of_decide_eq_true (by first | (with_reducible assumption) | assumption)
                      obtain ⟨ad2, e2, hx2_0⟩ := Kd.at_int HR1.out (ji8) p2 q2
                      cases e2
                      replace hx2_0 := (HB.out.cell (World.block_lt_of_cell? w _ hx2_0)).trans hx2_0
                      replace p2 := eq_true p2
                      replace q2 := eq_true q2
                      go_wp2
                      repeat (go_quiet (fail); try go_wp2)
                      go_ret
                      exact ⟨by first | rfl | (simp [errW_none, errW_some] <;> rfl) | (simp only [← hji5, ← hji8]; first | rfl | (simp [errW_none, errW_some] <;> rfl)) | (simp [*, errW_none, errW_some] <;> rfl), by exact lc HB.out⟩
                    · rw [if_neg c12] at H
                      have c12b0 : decide ((rd l0 (ji5)) < (rd l1 (ji8))) = false := decide_eq_false c12
                      clear c12
                      obtain rfl := Option.some.inj H
                      have p1 : 0 ≤ ((ji5) : Int) := of_decide_eq_true (by first | (with_reducible assumption) | assumption)
                      have q1 : (ji5) < (l0.length : Int) := of_decide_eq_true (by first | (with_reducible assumption) | assumption)
                      obtain ⟨ad1, e1, hx1_0⟩ := Kd.at_int HR0.out (ji5) p1 q1
                      cases e1
                      replace hx1_0 := (HB.out.cell (World.block_lt_of_cell? w _ hx1_0)).trans hx1_0
                      replace p1 := eq_true p1
                      replace q1 := eq_true q1
                      have p2 : 0 ≤ ((ji8) : Int) := of_decide_eq_true (by first | (with_reducible assumption) | assumption)
                      have q2 : (ji8) < (l1.length : Int) := of_decide_eq_true (by first | (with_reducible assumption) | assumption)
                      obtain ⟨ad2, e2, hx2_0⟩ := Kd.at_int HR1.out (ji8) p2 q2
                      cases e2
                      replace hx2_0 := (HB.out.cell (World.block_lt_of_cell? w _ hx2_0)).trans hx2_0
                      replace p2 := eq_true p2
                      replace q2 := eq_true q2
                      go_wp2
                      repeat (go_quiet (fail); try go_wp2)
                      go_ret
                      exact ⟨by first | rfl | (simp [errW_none, errW_some] <;> rfl) | (simp only [← hji5, ← hji8]; first | rfl | (simp [errW_none, errW_some] <;> rfl)) | (simp [*, errW_none, errW_some] <;> rfl), by exact lc HB.out⟩
                · rw [if_neg c10] at H
                  exact absurd H (by simp)
              · rw [if_neg c9] at H
                exact absurd H (by simp)
            · rw [if_neg c7] at H
              exact absurd H (by simp)
          · rw [if_neg c6] at H
            exact absurd H (by simp)
        · rw [if_neg c4] at H
          have c4b0 : decide (x25_1 < (l0.length : Int)) = false := decide_eq_false c4
          clear c4
          obtain rfl := Option.some.inj H
          go_wp2
          repeat (go_quiet (fail); try go_wp2)
          go_ret
          exact ⟨by first | rfl | (simp [errW_none, errW_some] <;> rfl) | (simp [*, errW_none, errW_some] <;> rfl), by exact lc HB.out⟩
  · rw [if_neg c3] at H
    have c3b0 : ((l0.length : Int) == (l1.length : Int)) = false := beq_eq_false_iff_ne.mpr c3
    have c3b1 : ((l0.length : Int) != (l1.length : Int)) = true := bne_iff_ne.mpr c3
    have c3b2 : (l0.length == l1.length) = false := by first | simpa using c3 | (simp at c3 ⊢; omega)
    obtain ⟨ji13, hji13⟩ : ∃ j_ : Int, (mx (wrap64 ((wrap64 ((l0.length : Int) - (l1.length : Int))) + 1)) 0) = j_ := ⟨_, rfl⟩
    replace H : (some ((2 * (mn (ji13) 1)) - 1)) = some r := by first | (rw [hji13] at H; exact H) | (simp only [hji13] at H ⊢; exact H)
    (try (have hji13l : 0 ≤ ji13 := by (rw [← hji13]; unfold mx; (repeat' split) <;> omega)))
    (try (have hji13m : 0 ≤ ji13 := by omega))
    have hji13_ : (if (wrap64 ((wrap64 ((l0.length : Int) - (l1.length : Int))) + 1)) < 0 then 0 else (wrap64 ((wrap64 ((l0.length : Int) - (l1.length : Int))) + 1))) = ji13 := hji13
    obtain ⟨ji14, hji14⟩ : ∃ j_ : Int, (mn (ji13) 1) = j_ := ⟨_, rfl⟩
    replace H : (some ((2 * (ji14)) - 1)) = some r := by first | (rw [hji14] at H; exact H) | (simp only [hji14] at H ⊢; exact H)
    have hji14_ : (if 1 < (ji13) then 1 else (ji13)) = ji14 := hji14
    obtain rfl := Option.some.inj H
    go_enter Tryz.func187, Tryz.ntmps187
    go_wp2
    repeat (go_quiet (fail); try go_wp2)
    go_ret
    exact ⟨by first | rfl | (simp [errW_none, errW_some] <;> rfl) | (simp only [← hji13, ← hji14]; first | rfl | (simp [errW_none, errW_some] <;> rfl)) | (simp [*, errW_none, errW_some] <;> rfl), by exact lc HB.out⟩
end Go.Proofs.YtioofhilohmfbaaGreatDoor.P
end
section
namespace Go.Proofs.YtioofhilohmfbaaGreatDoor.P
open Go.RowKit Go.Proofs.YtioofhilohmfbaaGreatDoorW.PrintWords Go.Proofs.YtioofhilohmfbaaGreatDoorW.PrintLast Go.Proofs.YtioofhilohmfbaaGreatDoorW.PrintMore
attribute [local go_sem] max2_int min2_int max_two min_two max_three min_three max_four min_four
set_option linter.unusedVariables false
set_option linter.unusedSimpArgs false
/-! ### nat_trim: function 167 -/
def nat_trim.l0 : Nat → List Int → Option (List Int)
  | 0, _ => none
  | k + 1, x0 => if (x0.length : Int) > 0 then (if 0 ≤ (wrap64 ((x0.length : Int) - 1)) then (if (wrap64 ((x0.length : Int) - 1)) < (x0.length : Int) then (if (rd x0 (wrap64 ((x0.length : Int) - 1))) = 0 then (if (wrap64 ((x0.length : Int) - 1)) ≤ (x0.length : Int) then (nat_trim.l0 k (x0.take ((wrap64 ((x0.length : Int) - 1)) : Int).toNat)) else (none)) else (some x0)) else (none)) else (none)) else (some x0)
def nat_trim.f (k : Nat) (l0 : List Int) : Option (List Int) := nat_trim.l0 k l0
theorem nat_trim.mono_l : ∀ k, (∀ y0, LeO (nat_trim.l0 k y0) (nat_trim.l0 (k + 1) y0))
  | 0 => fun _ r h => by simp [nat_trim.l0] at h
  | k + 1 => by
    have ih0 := nat_trim.mono_l k
    · intro y0
      unfold nat_trim.l0
      repeat' first
      | (with_reducible exact ih0 _)
      | (with_reducible exact LeO.refl _)
      | (with_reducible exact LeO.none _)
      | (with_reducible refine LeO.ite ?_ ?_)
      | (with_reducible refine LeO.bind ?_ (fun _ => ?_))
      | exact ih0 _
      | exact LeO.none _
      | refine LeO.ite ?_ ?_
      | refine LeO.bind ?_ (fun _ => ?_)
theorem nat_trim.mono : ∀ a0 k, LeO (nat_trim.f k a0) (nat_trim.f (k + 1) a0) := by
  intro a0 k
  have ih0 := nat_trim.mono_l k
  unfold nat_trim.f
  repeat' first
      | (with_reducible exact ih0 _)
      | (with_reducible exact LeO.refl _)
      | (with_reducible exact LeO.none _)
      | (with_reducible refine LeO.ite ?_ ?_)
      | (with_reducible refine LeO.bind ?_ (fun _ => ?_))
      | exact ih0 _
      | exact LeO.none _
      | refine LeO.ite ?_ ?_
      | refine LeO.bind ?_ (fun _ => ?_)
set_option maxHeartbeats 8000000 in
set_option maxRecDepth 100000 in
theorem nat_trim.calls (k : Nat) (P0_ : Nat → Prop) (A0 : Option Addr) (c0 : Nat) (l0 : List Int) (r : List Int) (w : World) (hs0 : Kd.V (Kd.int .u32) 109 w w.heap.size (fun k_ => P0_ k_) (.slice A0 l0.length c0) l0) (h : nat_trim.f k l0 = some r) :
    Calls Tryz.prog 167 #[.slice A0 l0.length c0] w fun e w' => ∃ v0_ : Value, e = .returned (v0_) ∧ Kd.V (Kd.int .u32) 109 w' w.heap.size (fun k_ => (P0_ k_ ∨ w.heap.size ≤ k_)) v0_ r ∧ Below w.heap.size w w' := by
  have HO0 := Aside0.mk (show Kd.V (Kd.int .u32) 109 w w.heap.size (fun k_ => (P0_ k_ ∨ w.heap.size ≤ k_)) (.slice A0 l0.length c0) l0 from Kd.V_mono hs0 (fun k_ hk => .inl hk))
  have HB := Aside0.mk (Below.refl w.heap.size w)
  have H : (nat_trim.l0 k l0) = some r := h
  clear h
  have H' := Aside0.mk H
  clear H
  go_enter Tryz.func167, Tryz.ntmps167
  go_wp2
  go_loopg [0] k (fun kq v0 w' => ∃ (x0_1 : List Int), Aside0 (nat_trim.l0 kq x0_1 = some r) ∧ Aside0 (kq ≤ k) ∧ Aside0 (Kd.V (Kd.int .u32) 109 w' w.heap.size (fun k_ => (P0_ k_ ∨ w.heap.size ≤ k_)) v0 x0_1) ∧ Aside0 (Below w.heap.size w w'))
  case atStart => exact ⟨(l0), H', ⟨Nat.le_refl _⟩, ⟨by (with_reducible repeat (first | apply Kd.V_alloc | apply Kd.V_drewN | apply Kd.V_drew)); exact HO0.out⟩, ⟨by exact lc HB.out⟩⟩
  case round =>
    clear H'
    try clear c1
    obtain ⟨x0_1, HA, HK1, HO_0, HB⟩ := hrel
    cases gk with
    | zero => exact absurd HA.out (by simp [nat_trim.l0])
    | succ k1 =>
      have H := HA.out
      clear HA
      simp only [nat_trim.l0] at H
      by_cases c2 : (x0_1.length : Int) > 0
      · rw [if_pos c2] at H
        have c2b0 : decide (0 < (x0_1.length : Int)) = true := decide_eq_true c2
        have c2b1 : decide (0 < x0_1.length) = true := decide_eq_true (by omega)
        clear c2
        obtain ⟨ji3, hji3⟩ : ∃ j_ : Int, (wrap64 ((x0_1.length : Int) - 1)) = j_ := ⟨_, rfl⟩
        replace H : (if 0 ≤ (ji3) then (if (ji3) < (x0_1.length : Int) then (if (rd x0_1 (ji3)) = 0 then (if (ji3) ≤ (x0_1.length : Int) then (nat_trim.l0 k1 (x0_1.take ((ji3) : Int).toNat)) else (none)) else (some x0_1)) else (none)) else (none)) = some r := by first | (rw [hji3] at H; exact H) | (simp only [hji3] at H ⊢; exact H)
        have hji3w : (IntKind.i64.wrap ((x0_1.length : Int) - 1)) = ji3 := (i64_w _).trans hji3
        by_cases c4 : 0 ≤ (ji3)
        · rw [if_pos c4] at H
          have c4b0 : decide (0 ≤ (ji3)) = true := decide_eq_true c4
          clear c4
          by_cases c5 : (ji3) < (x0_1.length : Int)
          · rw [if_pos c5] at H
            have c5b0 : decide ((ji3) < (x0_1.length : Int)) = true := decide_eq_true c5
            clear c5
            by_cases c6 : (rd x0_1 (ji3)) = 0
            · rw [if_pos c6] at H
              have c6b0 : ((rd x0_1 (ji3)) == 0) = true := beq_iff_eq.mpr c6
              have c6b1 : ((rd x0_1 (ji3)) != 0) = false := bne_eq_false_iff_eq.mpr c6
              clear c6
              have c7b0 := eq_true (of_decide_eq_true (by first | (with_reducible assumption) | assumption) : 0 ≤ (ji3))
              by_cases c8 : (ji3) ≤ (x0_1.length : Int)
              · rw [if_pos c8] at H
                have c8b0 := eq_true c8
                have c8b1 : decide ((ji3) ≤ (x0_1.length : Int)) = true := decide_eq_true c8
                clear c8
                obtain ⟨y2, hy2⟩ : ∃ y_ : List Int, y_ = (x0_1.take ((ji3) : Int).toNat) := ⟨_, rfl⟩
                replace H : (nat_trim.l0 k1 y2) = some r := by first | (rw [hy2]; with_reducible exact H) | (have H2_ := (Option.bind_some _ _).symm.trans H; rw [hy2]; with_reducible exact H2_) | (have H2_ := (Option.bind_some _ _).symm.trans H; with_reducible exact H2_) | with_reducible exact H | (rw [hy2]; exact H) | exact H
                have Ny2 := Aside0.mk hy2
                clear hy2
                have H' := Aside0.mk H
                clear H
                obtain ⟨Ao9, co9, eo9⟩ := Kd.V_slice HO_0.out
                subst eo9
                have p1 : 0 ≤ ((ji3) : Int) := of_decide_eq_true (by first | (with_reducible assumption) | assumption)
                have q1 : (ji3) < (x0_1.length : Int) := of_decide_eq_true (by first | (with_reducible assumption) | assumption)
                obtain ⟨ad1, e1, hx1_0⟩ := Kd.at_int (Kd.V_reads' HO_0.out).2.2 (ji3) p1 q1
                cases e1
                replace p1 := eq_true p1
                replace q1 := eq_true q1
                have q10 : ((ji3) : Int) ≤ ((x0_1.length : Int) : Int) := of_decide_eq_true (by first | (with_reducible assumption) | assumption)
                obtain ⟨i010, hi010, _, hsz10, _⟩ := info_parts info109
                have hroom10 : x0_1.length ≤ co9 := (Kd.V_reads' HO_0.out).2.1
                have hC10 : Kd.F (Kd.int .u32) _ _ (some ad1) x0_1.length x0_1 := (Kd.V_at (base := w.heap.size) HO_0.out).2.2
                have hcut10 := cut_to (P := Tryz.prog) 39 109 .i64 Tryz.underlying39 hi010 (some ad1) x0_1.length co9 (ji3) (of_decide_eq_true (by first | (with_reducible assumption) | assumption)) q10 hroom10
                have hr10 := Kd.F_take (m := ((ji3) : Int).toNat) hC10 (by omega)
                have hy10 : y2.length = ((ji3) : Int).toNat := (by rw [Ny2.out, List.length_take]; omega)
                rw [← Ny2.out] at hr10
                rw [← hy10] at hcut10
                have HO6 := Aside0.mk (show Kd.V (Kd.int .u32) 109 _ w.heap.size _ (.slice (some ad1) y2.length co9) y2 from Kd.V_mk (by omega) hr10)
                have HC6 := Aside0.mk (show y2.length ≤ co9 from by omega)
                clear hr10 hC10 hroom10 hi010 hsz10
                have KY10 := Aside0.mk hy10
                clear hy10
                replace q10 := eq_true q10
                go_wp2
                go_roundg k1
                case measure => have := HK1.out; omega
                case rel => exact ⟨(y2), H', ⟨by have := HK1.out; omega⟩, ⟨by (with_reducible repeat (first | apply Kd.V_alloc | apply Kd.V_drewN | apply Kd.V_drew)); exact HO6.out⟩, ⟨by exact lc HB.out⟩⟩
              · rw [if_neg c8] at H
                exact absurd H (by simp)
            · rw [if_neg c6] at H
              have c6b0 : ((rd x0_1 (ji3)) == 0) = false := beq_eq_false_iff_ne.mpr c6
              have c6b1 : ((rd x0_1 (ji3)) != 0) = true := bne_iff_ne.mpr c6
              obtain rfl := Option.some.inj H
              obtain ⟨Ao11, co11, eo11⟩ := Kd.V_slice HO_0.out
              subst eo11
              have p1 : 0 ≤ ((ji3) : Int) := of_decide_eq_true (by first | (with_reducible assumption) | assumption)
              have q1 : (ji3) < (x0_1.length : Int) := of_decide_eq_true (by first | (with_reducible assumption) | assumption)
              obtain ⟨ad1, e1, hx1_0⟩ := Kd.at_int (Kd.V_reads' HO_0.out).2.2 (ji3) p1 q1
              cases e1
              replace p1 := eq_true p1
              replace q1 := eq_true q1
              go_wp2
              go_ret
              exact ⟨_, by first | rfl | (simp [errW_none, errW_some] <;> rfl) | (simp only [← hji3]; first | rfl | (simp [errW_none, errW_some] <;> rfl)) | (simp [*, errW_none, errW_some] <;> rfl), by (with_reducible repeat (first | apply Kd.V_alloc | apply Kd.V_drewN | apply Kd.V_drew)); exact HO_0.out, by exact lc HB.out⟩
          · rw [if_neg c5] at H
            exact absurd H (by simp)
        · rw [if_neg c4] at H
          exact absurd H (by simp)
      · rw [if_neg c2] at H
        have c2b0 : decide (0 < (x0_1.length : Int)) = false := decide_eq_false c2
        have c2b1 : decide (0 < x0_1.length) = false := decide_eq_false (by omega)
        clear c2
        obtain rfl := Option.some.inj H
        obtain ⟨Ao12, co12, eo12⟩ := Kd.V_slice HO_0.out
        subst eo12
        go_wp2
        go_ret
        exact ⟨_, by first | rfl | (simp [errW_none, errW_some] <;> rfl) | (simp [*, errW_none, errW_some] <;> rfl), by (with_reducible repeat (first | apply Kd.V_alloc | apply Kd.V_drewN | apply Kd.V_drew)); exact HO_0.out, by exact lc HB.out⟩
end Go.Proofs.YtioofhilohmfbaaGreatDoor.P
end
section
namespace Go.Proofs.YtioofhilohmfbaaGreatDoor.P
open Go.RowKit Go.Proofs.YtioofhilohmfbaaGreatDoorW.PrintWords Go.Proofs.YtioofhilohmfbaaGreatDoorW.PrintLast Go.Proofs.YtioofhilohmfbaaGreatDoorW.PrintMore
attribute [local go_sem] max2_int min2_int max_two min_two max_three min_three max_four min_four
set_option linter.unusedVariables false
set_option linter.unusedSimpArgs false
/-! ### nat_Of: function 137 -/
def nat_Of.f (k : Nat) (a0 : Int) : Option (List Int) := (nat_trim.f k (([(a0) % 4294967296, (a0 / 4294967296) % 4294967296] : List Int))).bind fun t4 => (some t4)
theorem nat_Of.mono : ∀ a0 k, LeO (nat_Of.f k a0) (nat_Of.f (k + 1) a0) := by
  intro a0 k
  unfold nat_Of.f
  repeat' first
      | (with_reducible exact nat_trim.mono _ _)
      | (with_reducible exact LeO.refl _)
      | (with_reducible exact LeO.none _)
      | (with_reducible refine LeO.ite ?_ ?_)
      | (with_reducible refine LeO.bind ?_ (fun _ => ?_))
      | exact nat_trim.mono _ _
      | exact LeO.none _
      | refine LeO.ite ?_ ?_
      | refine LeO.bind ?_ (fun _ => ?_)
set_option maxHeartbeats 8000000 in
set_option maxRecDepth 100000 in
theorem nat_Of.calls (k : Nat) (a0 : Int) (r : List Int) (w : World) (h : nat_Of.f k a0 = some r) :
    Calls Tryz.prog 137 #[.int .u64 a0] w fun e w' => ∃ v0_ : Value, e = .returned (v0_) ∧ Kd.V (Kd.int .u32) 109 w' w.heap.size (fun k_ => (w.heap.size ≤ k_)) v0_ r ∧ Below w.heap.size w w' := by
  have HB := Aside0.mk (Below.refl w.heap.size w)
  have H : ((nat_trim.f k (([(a0) % 4294967296, (a0 / 4294967296) % 4294967296] : List Int))).bind fun t4 => (some t4)) = some r := h
  clear h
  obtain ⟨y1, hy1⟩ : ∃ y_ : List Int, y_ = (([(a0) % 4294967296, (a0 / 4294967296) % 4294967296] : List Int)) := ⟨_, rfl⟩
  replace H : ((nat_trim.f k y1).bind fun t4 => (some t4)) = some r := by first | (rw [hy1]; with_reducible exact H) | (have H2_ := (Option.bind_some _ _).symm.trans H; rw [hy1]; with_reducible exact H2_) | (have H2_ := (Option.bind_some _ _).symm.trans H; with_reducible exact H2_) | with_reducible exact H | (rw [hy1]; exact H) | exact H
  have Ny1 := Aside0.mk hy1
  clear hy1
  replace H := Option.bind_eq_some_iff.mp H
  obtain ⟨t4, A20, H⟩ := H
  replace H : (some t4) = some r := H
  have A2 := Aside0.mk A20
  clear A20
  obtain rfl := Option.some.inj H
  go_enter Tryz.func137, Tryz.ntmps137
  go_wp2_with (first | ((with_reducible refine gate_dst (N := 8) rfl ?_); refine Kd.R_lit (Kd.int .u32) _ 109 ?hg (N := 8) ?hd (xs := ([(a0) % 4294967296, (a0 / 4294967296) % 4294967296] : List Int)) (inner := [.int .u32 ((a0) % 4294967296), .int .u32 ((a0 / 4294967296) % 4294967296)]) (ok := fun _ => True) (okp := fun _ => True) ?hr ?hp (fun _ hk => hk) trivial (Below.refl _ _) (Nat.le_refl _) (by simp) ?_; (case hd => rfl); (case hg => rfl); (case hr => first | (go_simp; done) | (go_simp; rfl)); (case hp => exact (Reps.one (show Kd.M (Kd.int .u32) _ _ _ ((a0) % 4294967296) [.int .u32 ((a0) % 4294967296)] from rfl) (Reps.one (show Kd.M (Kd.int .u32) _ _ _ ((a0 / 4294967296) % 4294967296) [.int .u32 ((a0 / 4294967296) % 4294967296)] from rfl) (Reps.none _ _)))); intro v2 w3 ho4 hb hg_ hnew_; clear hg_ hnew_; (first | rw [← Ny1.out] at ho4 | (simp only [Int.reduceToNat] at ho4; rw [← Ny1.out] at ho4)); have n0_ := Aside0.mk (Kd.R_lower (Kd.R_newM (M := fun k_ => (w.heap.size ≤ k_)) ho4 (below_size (lc HB.out)) (fun k_ h_ => h_)) (below_size (lc HB.out))); have n1_ := Aside0.mk (below_step (lc HB.out) hb); clear HB; have HO3 := n0_; have HB := n1_; clear n0_ n1_; clear hb ho4; obtain ⟨Ao5, co5, eo5⟩ := Kd.R_slice HO3.out; subst eo5) | (go_at_call 167; (with_reducible refine (nat_trim.calls k (fun k_ => some k_ = (.slice Ao5 y1.length co5 : Value).ownBlock) _ _ y1 t4 _ ?side1 A2.out).mono ?_); (case side1 => exact Kd.R_V (Kd.R_tight rfl (HO3.out))); rintro e w6 ⟨v5, rfl, ho0, hb⟩; have n0_ := Aside0.mk (Kd.R_below (rc HO3.out) hb); have n1_ := Aside0.mk (Kd.V_lower (Kd.V_mono (ok' := fun k_ => (w.heap.size ≤ k_)) ho0 (fun k_ hk_ => Or.elim hk_ (fun hs_ => ((HO3.out).1 k_ hs_.symm).1) (fun hn_ => (Nat.le_trans (below_size (lc HB.out)) hn_)))) (below_size (lc HB.out))); have n2_ := Aside0.mk (below_step (lc HB.out) hb); clear HO3; clear HB; have HO3 := n0_; have HO6 := n1_; have HB := n2_; clear n0_ n1_ n2_; (try clear hb); (try clear hb2); (try clear hk); (try clear hi); (try clear ho0)))
  go_ret
  exact ⟨_, by first | rfl | (simp [errW_none, errW_some] <;> rfl) | (simp [*, errW_none, errW_some] <;> rfl), by (with_reducible repeat (first | apply Kd.V_alloc | apply Kd.V_drewN | apply Kd.V_drew)); exact HO6.out, by exact lc HB.out⟩
end Go.Proofs.YtioofhilohmfbaaGreatDoor.P
end
section
namespace Go.Proofs.YtioofhilohmfbaaGreatDoor.P
open Go.RowKit Go.Proofs.YtioofhilohmfbaaGreatDoorW.PrintWords Go.Proofs.YtioofhilohmfbaaGreatDoorW.PrintLast Go.Proofs.YtioofhilohmfbaaGreatDoorW.PrintMore
attribute [local go_sem] max2_int min2_int max_two min_two max_three min_three max_four min_four
set_option linter.unusedVariables false
set_option linter.unusedSimpArgs false
/-! ### nat_shifted: function 190 -/
def nat_shifted.l0 : Nat → Int → List Int → List Int → Int → Int → Option (List Int)
  | 0, _, _, _, _, _ => none
  | k + 1, x1, x5, x13, x14, x15 => if x15 < x14 then (if 0 ≤ x15 then (if x15 < (x13.length : Int) then (if 0 ≤ x1 then (if x15 < (x5.length : Int) then (if 0 ≤ (wrap64 (x15 + 1)) then (if (wrap64 (x15 + 1)) < (x5.length : Int) then (nat_shifted.l0 k x1 ((x5.set (x15 : Int).toNat (Go.bits .or .u32 (rd x5 x15) ((shl .u64 (IntKind.u64.wrap (rd x13 x15)) x1) % 4294967296))).set ((wrap64 (x15 + 1)) : Int).toNat (((shl .u64 (IntKind.u64.wrap (rd x13 x15)) x1) / 4294967296) % 4294967296)) x13 x14 (wrap64 (x15 + 1))) else (none)) else (none)) else (none)) else (none)) else (none)) else (none)) else (some x5)
def nat_shifted.f (k : Nat) (l0 : List Int) (a1 : Int) : Option (List Int) := if 0 ≤ (wrap64 ((l0.length : Int) + 1)) then (if (wrap64 ((l0.length : Int) + 1) : Int).toNat ≤ 70368744177664 then (nat_shifted.l0 k a1 (List.replicate (wrap64 ((l0.length : Int) + 1) : Int).toNat 0) l0 (l0.length : Int) 0) else (none)) else (none)
theorem nat_shifted.mono_l : ∀ k, (∀ y0 y1 y2 y3 y4, LeO (nat_shifted.l0 k y0 y1 y2 y3 y4) (nat_shifted.l0 (k + 1) y0 y1 y2 y3 y4))
  | 0 => fun _ _ _ _ _ r h => by simp [nat_shifted.l0] at h
  | k + 1 => by
    have ih0 := nat_shifted.mono_l k
    · intro y0 y1 y2 y3 y4
      unfold nat_shifted.l0
      repeat' first
      | (with_reducible exact ih0 _ _ _ _ _)
      | (with_reducible exact LeO.refl _)
      | (with_reducible exact LeO.none _)
      | (with_reducible refine LeO.ite ?_ ?_)
      | (with_reducible refine LeO.bind ?_ (fun _ => ?_))
      | exact ih0 _ _ _ _ _
      | exact LeO.none _
      | refine LeO.ite ?_ ?_
      | refine LeO.bind ?_ (fun _ => ?_)
theorem nat_shifted.mono : ∀ a0 a1 k, LeO (nat_shifted.f k a0 a1) (nat_shifted.f (k + 1) a0 a1) := by
  intro a0 a1 k
  have ih0 := nat_shifted.mono_l k
  unfold nat_shifted.f
  repeat' first
      | (with_reducible exact ih0 _ _ _ _ _)
      | (with_reducible exact LeO.refl _)
      | (with_reducible exact LeO.none _)
      | (with_reducible refine LeO.ite ?_ ?_)
      | (with_reducible refine LeO.bind ?_ (fun _ => ?_))
      | exact ih0 _ _ _ _ _
      | exact LeO.none _
      | refine LeO.ite ?_ ?_
      | refine LeO.bind ?_ (fun _ => ?_)
set_option maxHeartbeats 8000000 in
set_option maxRecDepth 100000 in
theorem nat_shifted.calls (k : Nat) (A0 : Option Addr) (c0 : Nat) (l0 : List Int) (a1 : Int) (r : List Int) (w : World) (hr0 : Kd.C (Kd.int .u32) w A0 l0.length l0) (hc0 : l0.length ≤ c0) (h : nat_shifted.f k l0 a1 = some r) :
    Calls Tryz.prog 190 #[.slice A0 l0.length c0, .int .i64 a1] w fun e w' => ∃ v0_ : Value, e = .returned (v0_) ∧ Kd.R (Kd.int .u32) 109 w' w.heap.size (fun _ => True) v0_ r ∧ Below w.heap.size w w' := by
  have HR0 := Aside0.mk hr0
  have HC0 := Aside0.mk hc0
  clear hr0 hc0
  have HB := Aside0.mk (Below.refl w.heap.size w)
  have H : (if 0 ≤ (wrap64 ((l0.length : Int) + 1)) then (if (wrap64 ((l0.length : Int) + 1) : Int).toNat ≤ 70368744177664 then (nat_shifted.l0 k a1 (List.replicate (wrap64 ((l0.length : Int) + 1) : Int).toNat 0) l0 (l0.length : Int) 0) else (none)) else (none)) = some r := h
  clear h
  obtain ⟨ji3, hji3⟩ : ∃ j_ : Int, (wrap64 ((l0.length : Int) + 1)) = j_ := ⟨_, rfl⟩
  replace H : (if 0 ≤ (ji3) then (if (ji3 : Int).toNat ≤ 70368744177664 then (nat_shifted.l0 k a1 (List.replicate (ji3 : Int).toNat 0) l0 (l0.length : Int) 0) else (none)) else (none)) = some r := by first | (rw [hji3] at H; exact H) | (simp only [hji3] at H ⊢; exact H)
  have hji3w : (IntKind.i64.wrap ((l0.length : Int) + 1)) = ji3 := (i64_w _).trans hji3
  by_cases c4 : 0 ≤ (ji3)
  · rw [if_pos c4] at H
    have c4b0 := eq_true c4
    have c4b1 : decide (0 ≤ (ji3)) = true := decide_eq_true c4
    clear c4
    by_cases c5 : (ji3 : Int).toNat ≤ 70368744177664
    · rw [if_pos c5] at H
      have c5b0 := eq_true c5
      have c5b1 : decide ((ji3 : Int).toNat ≤ 70368744177664) = true := decide_eq_true c5
      clear c5
      obtain ⟨y1, hy1⟩ : ∃ y_ : List Int, y_ = (List.replicate (ji3 : Int).toNat 0) := ⟨_, rfl⟩
      replace H : (nat_shifted.l0 k a1 y1 l0 (l0.length : Int) 0) = some r := by first | (rw [hy1]; with_reducible exact H) | (have H2_ := (Option.bind_some _ _).symm.trans H; rw [hy1]; with_reducible exact H2_) | (have H2_ := (Option.bind_some _ _).symm.trans H; with_reducible exact H2_) | with_reducible exact H | (rw [hy1]; exact H) | exact H
      have Ny1 := Aside0.mk hy1
      clear hy1
      have H' := Aside0.mk H
      clear H
      go_enter Tryz.func190, Tryz.ntmps190
      go_wp2_with (first | ((with_reducible refine gate_dst (N := 12) rfl ?_); refine Kd.R_make (Kd.int .u32) _ 109 rfl (N := 12) rfl 39 _ _ rfl ji3 rfl rfl Tryz.underlying39 (.int .u32 0) 4 info109 rfl (by decide) (by omega) 0 (ok := fun _ => True) (okp := fun _ => True) rfl (fun _ hk => hk) trivial (of_decide_eq_true (by first | (with_reducible assumption) | assumption)) (Nat.le_trans (Nat.mul_le_mul_right _ (of_decide_eq_true (by first | (with_reducible assumption) | assumption) : ji3.toNat ≤ 70368744177664)) (by omega)) (Below.refl _ _) (Nat.le_refl _) ?_; intro v2 w6 ho7 hb hg_ hnew_; clear hg_ hnew_; (first | rw [← Ny1.out] at ho7 | (simp only [Int.reduceToNat] at ho7; rw [← Ny1.out] at ho7)); have n0_ := Aside0.mk (Kd.R_lower ho7 (below_size (lc HB.out))); have n1_ := Aside0.mk (below_step (lc HB.out) hb); clear HB; have HO3 := n0_; have HB := n1_; clear n0_ n1_; clear hb ho7))
      go_loopg [15] k (fun kq v15 w' => ∃ (x5_1 : List Int) (x15_1 : Int), v15 = .int .i64 x15_1 ∧ Aside0 (nat_shifted.l0 kq a1 x5_1 l0 (l0.length : Int) x15_1 = some r) ∧ Aside0 (kq ≤ k) ∧ Aside0 (Kd.R (Kd.int .u32) 109 w' w.heap.size (fun _ => True) v2 x5_1) ∧ Aside0 (Below w.heap.size w w'))
      case atStart => exact ⟨(y1), (0), (by first | rfl | (simp; done) | (simp [*]; done)), H', ⟨Nat.le_refl _⟩, ⟨by (with_reducible repeat (first | apply Kd.R_alloc | apply Kd.R_drewN | apply Kd.R_drew)); exact HO3.out⟩, ⟨by exact lc HB.out⟩⟩
      case round =>
        clear H'
        try clear c1
        try clear p2
        try clear c4
        try clear c4b0
        try clear c4b1
        try clear c5
        try clear c5b0
        try clear c5b1
        try clear p6
        obtain ⟨x5_1, x15_1, rfl, HA, HK1, HO_5, HB⟩ := hrel
        cases gk with
        | zero => exact absurd HA.out (by simp [nat_shifted.l0])
        | succ k1 =>
          have H := HA.out
          clear HA
          simp only [nat_shifted.l0] at H
          by_cases c8 : x15_1 < (l0.length : Int)
          · rw [if_pos c8] at H
            have c8b0 : decide (x15_1 < (l0.length : Int)) = true := decide_eq_true c8
            clear c8
            by_cases c9 : 0 ≤ x15_1
            · rw [if_pos c9] at H
              have c9b0 : decide (0 ≤ x15_1) = true := decide_eq_true c9
              clear c9
              by_cases c10 : x15_1 < (l0.length : Int)
              · rw [if_pos c10] at H
                have c10b0 : decide (x15_1 < (l0.length : Int)) = true := decide_eq_true c10
                clear c10
                by_cases c11 : 0 ≤ a1
                · rw [if_pos c11] at H
                  have c11b0 := eq_true c11
                  have c11b1 : decide (0 ≤ a1) = true := decide_eq_true c11
                  clear c11
                  obtain ⟨ji12, hji12⟩ : ∃ j_ : Int, (shl .u64 (IntKind.u64.wrap (rd l0 x15_1)) a1) = j_ := ⟨_, rfl⟩
                  replace H : (if x15_1 < (x5_1.length : Int) then (if 0 ≤ (wrap64 (x15_1 + 1)) then (if (wrap64 (x15_1 + 1)) < (x5_1.length : Int) then (nat_shifted.l0 k1 a1 ((x5_1.set (x15_1 : Int).toNat (Go.bits .or .u32 (rd x5_1 x15_1) ((ji12) % 4294967296))).set ((wrap64 (x15_1 + 1)) : Int).toNat (((ji12) / 4294967296) % 4294967296)) l0 (l0.length : Int) (wrap64 (x15_1 + 1))) else (none)) else (none)) else (none)) = some r := by first | (rw [hji12] at H; exact H) | (simp only [hji12] at H ⊢; exact H)
                  have hji12_ : (IntKind.u64.wrap ((IntKind.u64.wrap (rd l0 x15_1)) * 2 ^ min a1.toNat 64)) = ji12 := hji12
                  have hji12z : a1 ≤ 64 → (IntKind.u64.wrap ((IntKind.u64.wrap (rd l0 x15_1)) * 2 ^ a1.toNat)) = ji12 := shl_small hji12
                  by_cases c13 : x15_1 < (x5_1.length : Int)
                  · rw [if_pos c13] at H
                    have c13b0 : decide (x15_1 < (x5_1.length : Int)) = true := decide_eq_true c13
                    clear c13
                    obtain ⟨y6, hy6⟩ : ∃ y_ : List Int, y_ = (x5_1.set (x15_1 : Int).toNat (Go.bits .or .u32 (rd x5_1 x15_1) ((ji12) % 4294967296))) := ⟨_, rfl⟩
                    replace H : (if 0 ≤ (wrap64 (x15_1 + 1)) then (if (wrap64 (x15_1 + 1)) < (x5_1.length : Int) then (nat_shifted.l0 k1 a1 (y6.set ((wrap64 (x15_1 + 1)) : Int).toNat (((ji12) / 4294967296) % 4294967296)) l0 (l0.length : Int) (wrap64 (x15_1 + 1))) else (none)) else (none)) = some r := by first | (rw [hy6]; with_reducible exact H) | (have H2_ := (Option.bind_some _ _).symm.trans H; rw [hy6]; with_reducible exact H2_) | (have H2_ := (Option.bind_some _ _).symm.trans H; with_reducible exact H2_) | with_reducible exact H | (rw [hy6]; exact H) | exact H
                    have Ny6 := Aside0.mk hy6
                    clear hy6
                    obtain ⟨ji15, hji15⟩ : ∃ j_ : Int, (wrap64 (x15_1 + 1)) = j_ := ⟨_, rfl⟩
                    replace H : (if 0 ≤ (ji15) then (if (ji15) < (x5_1.length : Int) then (nat_shifted.l0 k1 a1 (y6.set ((ji15) : Int).toNat (((ji12) / 4294967296) % 4294967296)) l0 (l0.length : Int) ji15) else (none)) else (none)) = some r := by first | (rw [hji15] at H; exact H) | (simp only [hji15] at H ⊢; exact H)
                    have hji15w : (IntKind.i64.wrap (x15_1 + 1)) = ji15 := (i64_w _).trans hji15
                    by_cases c16 : 0 ≤ (ji15)
                    · rw [if_pos c16] at H
                      have c16b0 : decide (0 ≤ (ji15)) = true := decide_eq_true c16
                      clear c16
                      by_cases c17 : (ji15) < (x5_1.length : Int)
                      · rw [if_pos c17] at H
                        have c17b0 : decide ((ji15) < (x5_1.length : Int)) = true := decide_eq_true c17
                        clear c17
                        obtain ⟨y7, hy7⟩ : ∃ y_ : List Int, y_ = (y6.set ((ji15) : Int).toNat (((ji12) / 4294967296) % 4294967296)) := ⟨_, rfl⟩
                        replace H : (nat_shifted.l0 k1 a1 y7 l0 (l0.length : Int) ji15) = some r := by first | (rw [hy7]; with_reducible exact H) | (have H2_ := (Option.bind_some _ _).symm.trans H; rw [hy7]; with_reducible exact H2_) | (have H2_ := (Option.bind_some _ _).symm.trans H; with_reducible exact H2_) | with_reducible exact H | (rw [hy7]; exact H) | exact H
                        have Ny7 := Aside0.mk hy7
                        clear hy7
                        have H' := Aside0.mk H
                        clear H
                        have p4 : 0 ≤ (x15_1 : Int) := of_decide_eq_true (by first | (with_reducible assumption) | assumption)
                        have q4 : x15_1 < (l0.length : Int) := of_decide_eq_true (by first | (with_reducible assumption) | assumption)
                        obtain ⟨ad4, e4, hx4_0⟩ := Kd.at_int HR0.out x15_1 p4 q4
                        cases e4
                        replace hx4_0 := (HB.out.cell (World.block_lt_of_cell? w _ hx4_0)).trans hx4_0
                        replace p4 := eq_true p4
                        replace q4 := eq_true q4
                        obtain ⟨Ao19, co19, eo19⟩ := Kd.R_slice HO_5.out
                        subst eo19
                        have p5 : 0 ≤ (x15_1 : Int) := of_decide_eq_true (by first | (with_reducible assumption) | assumption)
                        have q5 : x15_1 < (x5_1.length : Int) := of_decide_eq_true (by first | (with_reducible assumption) | assumption)
                        obtain ⟨ad5, e5, hx5_0⟩ := Kd.at_int (Kd.R_reads' HO_5.out).2.2 x15_1 p5 q5
                        cases e5
                        replace p5 := eq_true p5
                        replace q5 := eq_true q5
                        have p14 : 0 ≤ (x15_1 : Int) := of_decide_eq_true (by first | (with_reducible assumption) | assumption)
                        have q14 : (x15_1 : Int) < ((x5_1.length : Int) : Int) := of_decide_eq_true (by first | (with_reducible assumption) | assumption)
                        obtain ⟨go14, co14, eo14, gb14, gl14, cl14, HG14⟩ := Kd.R_form HO_5.out (by omega)
                        (first | cases eo14 | (injection eo14 with ea_ en_ ec_; (first | subst ea_ | (injection ea_ with ea_; subst ea_)); subst ec_; clear en_))
                        have GB14 := Aside0.mk gb14
                        have GG14 := Aside0.mk HG14
                        clear gb14 gl14 HG14
                        (first | simp only [add_plain] at hx5_0 | skip)
                        obtain ⟨hx14_0, hf14_0⟩ := Kd.R_celln 0 HO_5.out (x15_1 : Int) p14 q14
                        replace p14 := eq_true p14
                        replace q14 := eq_true q14
                        have HP20 := Kd.R_putg HO_5.out (x15_1 : Int) (Go.bits .or .u32 (rd x5_1 x15_1) ((ji12) % 4294967296))
                        go_wp2_with (first | ((with_reducible refine gate_store (t := 109) (p := 31) rfl ?_); refine store_event (t := 109) (p := 31) (v := ?vo_w21) (w1 := (wr.setCell ⟨go14, (x15_1 : Int).toNat, none⟩ (.int .u32 (Go.bits .or .u32 (rd x5_1 x15_1) ((ji12) % 4294967296))))) ?hg ?ho ?hn ?hr ?_; (case ho => rfl); (case hg => rfl); (case hn => rfl); (case hr => first | (go_simp; done) | (go_simp; rfl)); intro w21 hw; have hg : wr.grownBy w21 (some go14) := (by rw [hw]; exact HP20.2); have hp_ : Kd.R (Kd.int .u32) 109 w21 w.heap.size (fun _ => True) (.slice (some ⟨go14, 0, none⟩) x5_1.length co19) y6 := (by rw [hw, Ny6.out]; exact HP20.1); clear HP20; have n0_ := Aside0.mk (hp_); have n1_ := Aside0.mk ((by rw [hw]; exact below_set (HB.out) GB14.out : Below w.heap.size w w21)); clear HO_5; clear HB; have HO_5 := n0_; have HB := n1_; clear n0_ n1_; clear hg hw hp_; have p18 : 0 ≤ ((ji15) : Int) := of_decide_eq_true (by first | (with_reducible assumption) | assumption); have q18 : ((ji15) : Int) < ((x5_1.length : Int) : Int) := of_decide_eq_true (by first | (with_reducible assumption) | assumption); obtain ⟨hx18_0, hf18_0⟩ := Kd.R_celln 0 HO_5.out ((ji15) : Int) p18 q18; replace p18 := eq_true p18; replace q18 := eq_true q18; obtain ⟨hy22_, hz22_⟩ := Kd.R_celln 0 HO_5.out ((ji15) : Int) (of_decide_eq_true (by first | (with_reducible assumption) | assumption)) (of_decide_eq_true (by first | (with_reducible assumption) | assumption)); have HP22 := Kd.R_putg HO_5.out ((ji15) : Int) (((ji12) / 4294967296) % 4294967296)) | ((with_reducible refine gate_store (t := 109) (p := 38) rfl ?_); refine store_event (t := 109) (p := 38) (v := ?vo_w23) (w1 := (w21.setCell ⟨go14, ((ji15) : Int).toNat, none⟩ (.int .u32 (((ji12) / 4294967296) % 4294967296)))) ?hg ?ho ?hn ?hr ?_; (case ho => rfl); (case hg => rfl); (case hn => rfl); (case hr => first | (go_simp; done) | (go_simp; rfl)); intro w23 hw; have hg : w21.grownBy w23 (some go14) := (by rw [hw]; exact HP22.2); have hp_ : Kd.R (Kd.int .u32) 109 w23 w.heap.size (fun _ => True) (.slice (some ⟨go14, 0, none⟩) x5_1.length co19) y7 := (by rw [hw, Ny7.out]; exact HP22.1); clear HP22; have n0_ := Aside0.mk (hp_); have n1_ := Aside0.mk ((by rw [hw]; exact below_set (HB.out) GB14.out : Below w.heap.size w w23)); clear HO_5; clear HB; have HO_5 := n0_; have HB := n1_; clear n0_ n1_; clear hg hw hp_))
                        go_roundg k1
                        case measure => have := HK1.out; omega
                        case rel => exact ⟨(y7), (ji15), (by first | rfl | (simp; done) | (simp only [← hji15] <;> (first | rfl | simp)) | (simp [*]; done)), H', ⟨by have := HK1.out; omega⟩, ⟨by (with_reducible repeat (first | apply Kd.R_alloc | apply Kd.R_drewN | apply Kd.R_drew)); exact HO_5.out⟩, ⟨by exact lc HB.out⟩⟩
                      · rw [if_neg c17] at H
                        exact absurd H (by simp)
                    · rw [if_neg c16] at H
                      exact absurd H (by simp)
                  · rw [if_neg c13] at H
                    exact absurd H (by simp)
                · rw [if_neg c11] at H
                  exact absurd H (by simp)
              · rw [if_neg c10] at H
                exact absurd H (by simp)
            · rw [if_neg c9] at H
              exact absurd H (by simp)
          · rw [if_neg c8] at H
            have c8b0 : decide (x15_1 < (l0.length : Int)) = false := decide_eq_false c8
            clear c8
            obtain rfl := Option.some.inj H
            go_wp2
            go_ret
            exact ⟨_, by first | rfl | (simp [errW_none, errW_some] <;> rfl) | (simp only [← hji3]; first | rfl | (simp [errW_none, errW_some] <;> rfl)) | (simp [*, errW_none, errW_some] <;> rfl), by (with_reducible repeat (first | apply Kd.R_alloc | apply Kd.R_drewN | apply Kd.R_drew)); exact HO_5.out, by exact lc HB.out⟩
    · rw [if_neg c5] at H
      exact absurd H (by simp)
  · rw [if_neg c4] at H
    exact absurd H (by simp)
end Go.Proofs.YtioofhilohmfbaaGreatDoor.P
end
section
namespace Go.Proofs.YtioofhilohmfbaaGreatDoor.P
open Go.RowKit Go.Proofs.YtioofhilohmfbaaGreatDoorW.PrintWords Go.Proofs.YtioofhilohmfbaaGreatDoorW.PrintLast Go.Proofs.YtioofhilohmfbaaGreatDoorW.PrintMore
attribute [local go_sem] max2_int min2_int max_two min_two max_three min_three max_four min_four
set_option linter.unusedVariables false
set_option linter.unusedSimpArgs false
/-! ### nat_times: function 136 -/
mutual
def nat_times.l0 : Nat → List Int → List Int → List Int → Int → Int → Option (List Int)
  | 0, _, _, _, _, _ => none
  | k + 1, x1, x5, x17, x18, x19 => if x19 < x18 then (if 0 ≤ x19 then (if x19 < (x17.length : Int) then (nat_times.l1 k x1 x5 x19 (rd x17 x19) 0 x17 x18 x19 x1 (x1.length : Int) 0) else (none)) else (none)) else ((nat_trim.f k x5).bind fun t4 => (some t4))
def nat_times.l1 : Nat → List Int → List Int → Int → Int → Int → List Int → Int → Int → List Int → Int → Int → Option (List Int)
  | 0, _, _, _, _, _, _, _, _, _, _, _ => none
  | k + 1, x1, x5, x6, x7, x8, x17, x18, x19, x24, x25, x26 => if x26 < x25 then (if 0 ≤ x26 then (if x26 < (x24.length : Int) then (if 0 ≤ (wrap64 (x6 + x26)) then (if (wrap64 (x6 + x26)) < (x5.length : Int) then (nat_times.l1 k x1 (x5.set ((wrap64 (x6 + x26)) : Int).toNat ((IntKind.u64.wrap (x8 + (IntKind.u64.wrap ((IntKind.u64.wrap (rd x5 (wrap64 (x6 + x26)))) + (IntKind.u64.wrap ((IntKind.u64.wrap (x7)) * (IntKind.u64.wrap (rd x24 x26)))))))) % 4294967296)) x6 x7 ((IntKind.u64.wrap (x8 + (IntKind.u64.wrap ((IntKind.u64.wrap (rd x5 (wrap64 (x6 + x26)))) + (IntKind.u64.wrap ((IntKind.u64.wrap (x7)) * (IntKind.u64.wrap (rd x24 x26)))))))) / 4294967296) x17 x18 x19 x24 x25 (wrap64 (x26 + 1))) else (none)) else (none)) else (none)) else (none)) else (if 0 ≤ (wrap64 (x6 + (x1.length : Int))) then (if (wrap64 (x6 + (x1.length : Int))) < (x5.length : Int) then (nat_times.l0 k x1 (x5.set ((wrap64 (x6 + (x1.length : Int))) : Int).toNat ((x8) % 4294967296)) x17 x18 (wrap64 (x19 + 1))) else (none)) else (none))
end
def nat_times.f (k : Nat) (l0 : List Int) (l1 : List Int) : Option (List Int) := if 0 ≤ (wrap64 ((l0.length : Int) + (l1.length : Int))) then (if (wrap64 ((l0.length : Int) + (l1.length : Int)) : Int).toNat ≤ 70368744177664 then (nat_times.l0 k l1 (List.replicate (wrap64 ((l0.length : Int) + (l1.length : Int)) : Int).toNat 0) l0 (l0.length : Int) 0) else (none)) else (none)
theorem nat_times.mono_l : ∀ k, (∀ y0 y1 y2 y3 y4, LeO (nat_times.l0 k y0 y1 y2 y3 y4) (nat_times.l0 (k + 1) y0 y1 y2 y3 y4)) ∧ (∀ y0 y1 y2 y3 y4 y5 y6 y7 y8 y9 y10, LeO (nat_times.l1 k y0 y1 y2 y3 y4 y5 y6 y7 y8 y9 y10) (nat_times.l1 (k + 1) y0 y1 y2 y3 y4 y5 y6 y7 y8 y9 y10))
  | 0 => ⟨fun _ _ _ _ _ r h => by simp [nat_times.l0] at h, fun _ _ _ _ _ _ _ _ _ _ _ r h => by simp [nat_times.l1] at h⟩
  | k + 1 => by
    obtain ⟨ih0, ih1⟩ := nat_times.mono_l k
    refine ⟨?_, ?_⟩
    · intro y0 y1 y2 y3 y4
      unfold nat_times.l0
      repeat' first
      | (with_reducible exact ih0 _ _ _ _ _)
      | (with_reducible exact ih1 _ _ _ _ _ _ _ _ _ _ _)
      | (with_reducible exact nat_trim.mono _ _)
      | (with_reducible exact LeO.refl _)
      | (with_reducible exact LeO.none _)
      | (with_reducible refine LeO.ite ?_ ?_)
      | (with_reducible refine LeO.bind ?_ (fun _ => ?_))
      | exact ih0 _ _ _ _ _
      | exact ih1 _ _ _ _ _ _ _ _ _ _ _
      | exact nat_trim.mono _ _
      | exact LeO.none _
      | refine LeO.ite ?_ ?_
      | refine LeO.bind ?_ (fun _ => ?_)
    · intro y0 y1 y2 y3 y4 y5 y6 y7 y8 y9 y10
      unfold nat_times.l1
      repeat' first
      | (with_reducible exact ih0 _ _ _ _ _)
      | (with_reducible exact ih1 _ _ _ _ _ _ _ _ _ _ _)
      | (with_reducible exact nat_trim.mono _ _)
      | (with_reducible exact LeO.refl _)
      | (with_reducible exact LeO.none _)
      | (with_reducible refine LeO.ite ?_ ?_)
      | (with_reducible refine LeO.bind ?_ (fun _ => ?_))
      | exact ih0 _ _ _ _ _
      | exact ih1 _ _ _ _ _ _ _ _ _ _ _
      | exact nat_trim.mono _ _
      | exact LeO.none _
      | refine LeO.ite ?_ ?_
      | refine LeO.bind ?_ (fun _ => ?_)
theorem nat_times.mono : ∀ a0 a1 k, LeO (nat_times.f k a0 a1) (nat_times.f (k + 1) a0 a1) := by
  intro a0 a1 k
  obtain ⟨ih0, ih1⟩ := nat_times.mono_l k
  unfold nat_times.f
  repeat' first
      | (with_reducible exact ih0 _ _ _ _ _)
      | (with_reducible exact ih1 _ _ _ _ _ _ _ _ _ _ _)
      | (with_reducible exact nat_trim.mono _ _)
      | (with_reducible exact LeO.refl _)
      | (with_reducible exact LeO.none _)
      | (with_reducible refine LeO.ite ?_ ?_)
      | (with_reducible refine LeO.bind ?_ (fun _ => ?_))
      | exact ih0 _ _ _ _ _
      | exact ih1 _ _ _ _ _ _ _ _ _ _ _
      | exact nat_trim.mono _ _
      | exact LeO.none _
      | refine LeO.ite ?_ ?_
      | refine LeO.bind ?_ (fun _ => ?_)
set_option maxHeartbeats 8000000 in
set_option maxRecDepth 100000 in
theorem nat_times.calls (k : Nat) (A0 : Option Addr) (c0 : Nat) (l0 : List Int) (A1 : Option Addr) (c1 : Nat) (l1 : List Int) (r : List Int) (w : World) (hr0 : Kd.C (Kd.int .u32) w A0 l0.length l0) (hc0 : l0.length ≤ c0) (hr1 : Kd.C (Kd.int .u32) w A1 l1.length l1) (hc1 : l1.length ≤ c1) (h : nat_times.f k l0 l1 = some r) :
    Calls Tryz.prog 136 #[.slice A0 l0.length c0, .slice A1 l1.length c1] w fun e w' => ∃ v0_ : Value, e = .returned (v0_) ∧ Kd.V (Kd.int .u32) 109 w' w.heap.size (fun k_ => (w.heap.size ≤ k_)) v0_ r ∧ Below w.heap.size w w' := by
  have HR0 := Aside0.mk hr0
  have HC0 := Aside0.mk hc0
  clear hr0 hc0
  have HR1 := Aside0.mk hr1
  have HC1 := Aside0.mk hc1
  clear hr1 hc1
  have HB := Aside0.mk (Below.refl w.heap.size w)
  have H : (if 0 ≤ (wrap64 ((l0.length : Int) + (l1.length : Int))) then (if (wrap64 ((l0.length : Int) + (l1.length : Int)) : Int).toNat ≤ 70368744177664 then (nat_times.l0 k l1 (List.replicate (wrap64 ((l0.length : Int) + (l1.length : Int)) : Int).toNat 0) l0 (l0.length : Int) 0) else (none)) else (none)) = some r := h
  clear h
  obtain ⟨ji3, hji3⟩ : ∃ j_ : Int, (wrap64 ((l0.length : Int) + (l1.length : Int))) = j_ := ⟨_, rfl⟩
  replace H : (if 0 ≤ (ji3) then (if (ji3 : Int).toNat ≤ 70368744177664 then (nat_times.l0 k l1 (List.replicate (ji3 : Int).toNat 0) l0 (l0.length : Int) 0) else (none)) else (none)) = some r := by first | (rw [hji3] at H; exact H) | (simp only [hji3] at H ⊢; exact H)
  have hji3w : (IntKind.i64.wrap ((l0.length : Int) + (l1.length : Int))) = ji3 := (i64_w _).trans hji3
  by_cases c4 : 0 ≤ (ji3)
  · rw [if_pos c4] at H
    have c4b0 := eq_true c4
    have c4b1 : decide (0 ≤ (ji3)) = true := decide_eq_true c4
    clear c4
    by_cases c5 : (ji3 : Int).toNat ≤ 70368744177664
    · rw [if_pos c5] at H
      have c5b0 := eq_true c5
      have c5b1 : decide ((ji3 : Int).toNat ≤ 70368744177664) = true := decide_eq_true c5
      clear c5
      obtain ⟨y1, hy1⟩ : ∃ y_ : List Int, y_ = (List.replicate (ji3 : Int).toNat 0) := ⟨_, rfl⟩
      replace H : (nat_times.l0 k l1 y1 l0 (l0.length : Int) 0) = some r := by first | (rw [hy1]; with_reducible exact H) | (have H2_ := (Option.bind_some _ _).symm.trans H; rw [hy1]; with_reducible exact H2_) | (have H2_ := (Option.bind_some _ _).symm.trans H; with_reducible exact H2_) | with_reducible exact H | (rw [hy1]; exact H) | exact H
      have Ny1 := Aside0.mk hy1
      clear hy1
      have H' := Aside0.mk H
      clear H
      go_enter Tryz.func136, Tryz.ntmps136
      go_wp2_with (first | ((with_reducible refine gate_dst (N := 16) rfl ?_); refine Kd.R_make (Kd.int .u32) _ 109 rfl (N := 16) rfl 39 _ _ rfl ji3 rfl rfl Tryz.underlying39 (.int .u32 0) 4 info109 rfl (by decide) (by omega) 0 (ok := fun _ => True) (okp := fun _ => True) rfl (fun _ hk => hk) trivial (of_decide_eq_true (by first | (with_reducible assumption) | assumption)) (Nat.le_trans (Nat.mul_le_mul_right _ (of_decide_eq_true (by first | (with_reducible assumption) | assumption) : ji3.toNat ≤ 70368744177664)) (by omega)) (Below.refl _ _) (Nat.le_refl _) ?_; intro v2 w6 ho7 hb hg_ hnew_; clear hg_ hnew_; (first | rw [← Ny1.out] at ho7 | (simp only [Int.reduceToNat] at ho7; rw [← Ny1.out] at ho7)); have n0_ := Aside0.mk (Kd.R_lower (Kd.R_newM (M := fun k_ => (w.heap.size ≤ k_)) ho7 (below_size (lc HB.out)) (fun k_ h_ => h_)) (below_size (lc HB.out))); have n1_ := Aside0.mk (below_step (lc HB.out) hb); clear HB; have HO3 := n0_; have HB := n1_; clear n0_ n1_; clear hb ho7))
      go_loopg [19] k (fun kq v19 w' => ∃ (x5_1 : List Int) (x19_1 : Int), v19 = .int .i64 x19_1 ∧ Aside0 (nat_times.l0 kq l1 x5_1 l0 (l0.length : Int) x19_1 = some r) ∧ Aside0 (kq ≤ k) ∧ Aside0 (Kd.R (Kd.int .u32) 109 w' w.heap.size (fun k_ => (w.heap.size ≤ k_)) v2 x5_1) ∧ Aside0 (Below w.heap.size w w'))
      case atStart => exact ⟨(y1), (0), (by first | rfl | (simp; done) | (simp [*]; done)), H', ⟨Nat.le_refl _⟩, ⟨by (with_reducible repeat (first | apply Kd.R_alloc | apply Kd.R_drewN | apply Kd.R_drew)); exact Kd.R_mono HO3.out (fun _ hk => hk.1)⟩, ⟨by exact lc HB.out⟩⟩
      case round =>
        clear H'
        try clear c1
        try clear p2
        try clear c4
        try clear c4b0
        try clear c4b1
        try clear c5
        try clear c5b0
        try clear c5b1
        try clear p6
        obtain ⟨x5_1, x19_1, rfl, HA, HK1, HO_5, HB⟩ := hrel
        cases gk with
        | zero => exact absurd HA.out (by simp [nat_times.l0])
        | succ k1 =>
          have H := HA.out
          clear HA
          simp only [nat_times.l0] at H
          by_cases c8 : x19_1 < (l0.length : Int)
          · rw [if_pos c8] at H
            have c8b0 : decide (x19_1 < (l0.length : Int)) = true := decide_eq_true c8
            clear c8
            by_cases c9 : 0 ≤ x19_1
            · rw [if_pos c9] at H
              have c9b0 : decide (0 ≤ x19_1) = true := decide_eq_true c9
              clear c9
              by_cases c10 : x19_1 < (l0.length : Int)
              · rw [if_pos c10] at H
                have c10b0 : decide (x19_1 < (l0.length : Int)) = true := decide_eq_true c10
                clear c10
                have H' := Aside0.mk H
                clear H
                have p7 : 0 ≤ (x19_1 : Int) := of_decide_eq_true (by first | (with_reducible assumption) | assumption)
                have q7 : x19_1 < (l0.length : Int) := of_decide_eq_true (by first | (with_reducible assumption) | assumption)
                obtain ⟨ad7, e7, hx7_0⟩ := Kd.at_int HR0.out x19_1 p7 q7
                cases e7
                replace hx7_0 := (HB.out.cell (World.block_lt_of_cell? w _ hx7_0)).trans hx7_0
                replace p7 := eq_true p7
                replace q7 := eq_true q7
                go_wp2
                go_loopg [8, 26] k1 (fun kq v8 v26 w' => ∃ (x5_2 : List Int) (x8_2 : Int) (x26_2 : Int), v8 = .int .u64 x8_2 ∧ v26 = .int .i64 x26_2 ∧ Aside0 (nat_times.l1 kq l1 x5_2 x19_1 (rd l0 x19_1) x8_2 l0 (l0.length : Int) x19_1 l1 (l1.length : Int) x26_2 = some r) ∧ Aside0 (kq ≤ k1) ∧ Aside0 (Kd.R (Kd.int .u32) 109 w' w.heap.size (fun k_ => (w.heap.size ≤ k_)) v2 x5_2) ∧ Aside0 (Below w.heap.size w w'))
                case atStart => exact ⟨(x5_1), (0), (0), (by first | rfl | (simp; done) | (simp [*]; done)), (by first | rfl | (simp; done) | (simp [*]; done)), H', ⟨Nat.le_refl _⟩, ⟨by (with_reducible repeat (first | apply Kd.R_alloc | apply Kd.R_drewN | apply Kd.R_drew)); exact HO_5.out⟩, ⟨by exact lc HB.out⟩⟩
                case round =>
                  clear H'
                  try clear c1
                  try clear p2
                  try clear c4
                  try clear c4b0
                  try clear c4b1
                  try clear c5
                  try clear c5b0
                  try clear c5b1
                  try clear p6
                  try clear p7
                  try clear q7
                  try clear hx7
                  try clear c8
                  try clear c8b0
                  try clear c9
                  try clear c9b0
                  try clear c10
                  try clear c10b0
                  try clear hx7_0
                  try clear p2
                  try clear p6
                  try clear p7
                  try clear q7
                  obtain ⟨x5_2, x8_2, x26_2, rfl, rfl, HA, HK2, HO_5, HB⟩ := hrel
                  cases gk with
                  | zero => exact absurd HA.out (by simp [nat_times.l1])
                  | succ k2 =>
                    have H := HA.out
                    clear HA
                    simp only [nat_times.l1] at H
                    by_cases c11 : x26_2 < (l1.length : Int)
                    · rw [if_pos c11] at H
                      have c11b0 : decide (x26_2 < (l1.length : Int)) = true := decide_eq_true c11
                      clear c11
                      by_cases c12 : 0 ≤ x26_2
                      · rw [if_pos c12] at H
                        have c12b0 : decide (0 ≤ x26_2) = true := decide_eq_true c12
                        clear c12
                        by_cases c13 : x26_2 < (l1.length : Int)
                        · rw [if_pos c13] at H
                          have c13b0 : decide (x26_2 < (l1.length : Int)) = true := decide_eq_true c13
                          clear c13
                          obtain ⟨ji14, hji14⟩ : ∃ j_ : Int, (wrap64 (x19_1 + x26_2)) = j_ := ⟨_, rfl⟩
                          replace H : (if 0 ≤ (ji14) then (if (ji14) < (x5_2.length : Int) then (nat_times.l1 k2 l1 (x5_2.set ((ji14) : Int).toNat ((IntKind.u64.wrap (x8_2 + (IntKind.u64.wrap ((IntKind.u64.wrap (rd x5_2 (ji14))) + (IntKind.u64.wrap ((IntKind.u64.wrap ((rd l0 x19_1))) * (IntKind.u64.wrap (rd l1 x26_2)))))))) % 4294967296)) x19_1 (rd l0 x19_1) ((IntKind.u64.wrap (x8_2 + (IntKind.u64.wrap ((IntKind.u64.wrap (rd x5_2 (ji14))) + (IntKind.u64.wrap ((IntKind.u64.wrap ((rd l0 x19_1))) * (IntKind.u64.wrap (rd l1 x26_2)))))))) / 4294967296) l0 (l0.length : Int) x19_1 l1 (l1.length : Int) (wrap64 (x26_2 + 1))) else (none)) else (none)) = some r := by first | (rw [hji14] at H; exact H) | (simp only [hji14] at H ⊢; exact H)
                          have hji14w : (IntKind.i64.wrap (x19_1 + x26_2)) = ji14 := (i64_w _).trans hji14
                          by_cases c15 : 0 ≤ (ji14)
                          · rw [if_pos c15] at H
                            have c15b0 : decide (0 ≤ (ji14)) = true := decide_eq_true c15
                            clear c15
                            by_cases c16 : (ji14) < (x5_2.length : Int)
                            · rw [if_pos c16] at H
                              have c16b0 : decide ((ji14) < (x5_2.length : Int)) = true := decide_eq_true c16
                              clear c16
                              obtain ⟨y10, hy10⟩ : ∃ y_ : List Int, y_ = (x5_2.set ((ji14) : Int).toNat ((IntKind.u64.wrap (x8_2 + (IntKind.u64.wrap ((IntKind.u64.wrap (rd x5_2 (ji14))) + (IntKind.u64.wrap ((IntKind.u64.wrap ((rd l0 x19_1))) * (IntKind.u64.wrap (rd l1 x26_2)))))))) % 4294967296)) := ⟨_, rfl⟩
                              replace H : (nat_times.l1 k2 l1 y10 x19_1 (rd l0 x19_1) ((IntKind.u64.wrap (x8_2 + (IntKind.u64.wrap ((IntKind.u64.wrap (rd x5_2 (ji14))) + (IntKind.u64.wrap ((IntKind.u64.wrap ((rd l0 x19_1))) * (IntKind.u64.wrap (rd l1 x26_2)))))))) / 4294967296) l0 (l0.length : Int) x19_1 l1 (l1.length : Int) (wrap64 (x26_2 + 1))) = some r := by first | (rw [hy10]; with_reducible exact H) | (have H2_ := (Option.bind_some _ _).symm.trans H; rw [hy10]; with_reducible exact H2_) | (have H2_ := (Option.bind_some _ _).symm.trans H; with_reducible exact H2_) | with_reducible exact H | (rw [hy10]; exact H) | exact H
                              have Ny10 := Aside0.mk hy10
                              clear hy10
                              have H' := Aside0.mk H
                              clear H
                              have p8 : 0 ≤ (x26_2 : Int) := of_decide_eq_true (by first | (with_reducible assumption) | assumption)
                              have q8 : x26_2 < (l1.length : Int) := of_decide_eq_true (by first | (with_reducible assumption) | assumption)
                              obtain ⟨ad8, e8, hx8_0⟩ := Kd.at_int HR1.out x26_2 p8 q8
                              cases e8
                              replace hx8_0 := (HB.out.cell (World.block_lt_of_cell? w _ hx8_0)).trans hx8_0
                              replace p8 := eq_true p8
                              replace q8 := eq_true q8
                              obtain ⟨Ao18, co18, eo18⟩ := Kd.R_slice HO_5.out
                              subst eo18
                              have p9 : 0 ≤ ((ji14) : Int) := of_decide_eq_true (by first | (with_reducible assumption) | assumption)
                              have q9 : (ji14) < (x5_2.length : Int) := of_decide_eq_true (by first | (with_reducible assumption) | assumption)
                              obtain ⟨ad9, e9, hx9_0⟩ := Kd.at_int (Kd.R_reads' HO_5.out).2.2 (ji14) p9 q9
                              cases e9
                              replace p9 := eq_true p9
                              replace q9 := eq_true q9
                              have p17 : 0 ≤ ((ji14) : Int) := of_decide_eq_true (by first | (with_reducible assumption) | assumption)
                              have q17 : ((ji14) : Int) < ((x5_2.length : Int) : Int) := of_decide_eq_true (by first | (with_reducible assumption) | assumption)
                              obtain ⟨go17, co17, eo17, gb17, gl17, cl17, HG17⟩ := Kd.R_form HO_5.out (by omega)
                              (first | cases eo17 | (injection eo17 with ea_ en_ ec_; (first | subst ea_ | (injection ea_ with ea_; subst ea_)); subst ec_; clear en_))
                              have GB17 := Aside0.mk gb17
                              have GG17 := Aside0.mk HG17
                              clear gb17 gl17 HG17
                              (first | simp only [add_plain] at hx9_0 | skip)
                              obtain ⟨hx17_0, hf17_0⟩ := Kd.R_celln 0 HO_5.out ((ji14) : Int) p17 q17
                              replace p17 := eq_true p17
                              replace q17 := eq_true q17
                              have HP19 := Kd.R_putg HO_5.out ((ji14) : Int) ((IntKind.u64.wrap (x8_2 + (IntKind.u64.wrap ((IntKind.u64.wrap (rd x5_2 (ji14))) + (IntKind.u64.wrap ((IntKind.u64.wrap ((rd l0 x19_1))) * (IntKind.u64.wrap (rd l1 x26_2)))))))) % 4294967296)
                              go_wp2_with (first | ((with_reducible refine gate_store (t := 109) (p := 52) rfl ?_); refine store_event (t := 109) (p := 52) (v := ?vo_w20) (w1 := (wr.setCell ⟨go17, ((ji14) : Int).toNat, none⟩ (.int .u32 ((IntKind.u64.wrap (x8_2 + (IntKind.u64.wrap ((IntKind.u64.wrap (rd x5_2 (ji14))) + (IntKind.u64.wrap ((IntKind.u64.wrap ((rd l0 x19_1))) * (IntKind.u64.wrap (rd l1 x26_2)))))))) % 4294967296)))) ?hg ?ho ?hn ?hr ?_; (case ho => rfl); (case hg => rfl); (case hn => rfl); (case hr => first | (go_simp; done) | (go_simp; rfl)); intro w20 hw; have hg : wr.grownBy w20 (some go17) := (by rw [hw]; exact HP19.2); have hp_ : Kd.R (Kd.int .u32) 109 w20 w.heap.size (fun k_ => (w.heap.size ≤ k_)) (.slice (some ⟨go17, 0, none⟩) x5_2.length co18) y10 := (by rw [hw, Ny10.out]; exact HP19.1); clear HP19; have n0_ := Aside0.mk (hp_); have n1_ := Aside0.mk ((by rw [hw]; exact below_set (HB.out) GB17.out : Below w.heap.size w w20)); clear HO_5; clear HB; have HO_5 := n0_; have HB := n1_; clear n0_ n1_; clear hg hw hp_))
                              go_roundg k2
                              case measure => have := HK1.out; have := HK2.out; omega
                              case rel => exact ⟨(y10), ((IntKind.u64.wrap (x8_2 + (IntKind.u64.wrap ((IntKind.u64.wrap (rd x5_2 (ji14))) + (IntKind.u64.wrap ((IntKind.u64.wrap ((rd l0 x19_1))) * (IntKind.u64.wrap (rd l1 x26_2)))))))) / 4294967296), (wrap64 (x26_2 + 1)), (by first | rfl | (simp; done) | (simp only [← hji14] <;> (first | rfl | simp)) | (simp [*]; done)), (by first | rfl | (simp; done) | (simp [*]; done)), H', ⟨by have := HK1.out; have := HK2.out; omega⟩, ⟨by (with_reducible repeat (first | apply Kd.R_alloc | apply Kd.R_drewN | apply Kd.R_drew)); exact HO_5.out⟩, ⟨by exact lc HB.out⟩⟩
                            · rw [if_neg c16] at H
                              exact absurd H (by simp)
                          · rw [if_neg c15] at H
                            exact absurd H (by simp)
                        · rw [if_neg c13] at H
                          exact absurd H (by simp)
                      · rw [if_neg c12] at H
                        exact absurd H (by simp)
                    · rw [if_neg c11] at H
                      have c11b0 : decide (x26_2 < (l1.length : Int)) = false := decide_eq_false c11
                      clear c11
                      obtain ⟨ji21, hji21⟩ : ∃ j_ : Int, (wrap64 (x19_1 + (l1.length : Int))) = j_ := ⟨_, rfl⟩
                      replace H : (if 0 ≤ (ji21) then (if (ji21) < (x5_2.length : Int) then (nat_times.l0 k2 l1 (x5_2.set ((ji21) : Int).toNat ((x8_2) % 4294967296)) l0 (l0.length : Int) (wrap64 (x19_1 + 1))) else (none)) else (none)) = some r := by first | (rw [hji21] at H; exact H) | (simp only [hji21] at H ⊢; exact H)
                      have hji21w : (IntKind.i64.wrap (x19_1 + (l1.length : Int))) = ji21 := (i64_w _).trans hji21
                      by_cases c22 : 0 ≤ (ji21)
                      · rw [if_pos c22] at H
                        have c22b0 : decide (0 ≤ (ji21)) = true := decide_eq_true c22
                        clear c22
                        by_cases c23 : (ji21) < (x5_2.length : Int)
                        · rw [if_pos c23] at H
                          have c23b0 : decide ((ji21) < (x5_2.length : Int)) = true := decide_eq_true c23
                          clear c23
                          obtain ⟨y11, hy11⟩ : ∃ y_ : List Int, y_ = (x5_2.set ((ji21) : Int).toNat ((x8_2) % 4294967296)) := ⟨_, rfl⟩
                          replace H : (nat_times.l0 k2 l1 y11 l0 (l0.length : Int) (wrap64 (x19_1 + 1))) = some r := by first | (rw [hy11]; with_reducible exact H) | (have H2_ := (Option.bind_some _ _).symm.trans H; rw [hy11]; with_reducible exact H2_) | (have H2_ := (Option.bind_some _ _).symm.trans H; with_reducible exact H2_) | with_reducible exact H | (rw [hy11]; exact H) | exact H
                          have Ny11 := Aside0.mk hy11
                          clear hy11
                          have H' := Aside0.mk H
                          clear H
                          have p24 : 0 ≤ ((ji21) : Int) := of_decide_eq_true (by first | (with_reducible assumption) | assumption)
                          have q24 : ((ji21) : Int) < ((x5_2.length : Int) : Int) := of_decide_eq_true (by first | (with_reducible assumption) | assumption)
                          obtain ⟨go24, co24, eo24, gb24, gl24, cl24, HG24⟩ := Kd.R_form HO_5.out (by omega)
                          (first | cases eo24 | (injection eo24 with ea_ en_ ec_; (first | subst ea_ | (injection ea_ with ea_; subst ea_)); subst ec_; clear en_))
                          have GB24 := Aside0.mk gb24
                          have GG24 := Aside0.mk HG24
                          clear gb24 gl24 HG24
                          obtain ⟨hx24_0, hf24_0⟩ := Kd.R_celln 0 HO_5.out ((ji21) : Int) p24 q24
                          replace p24 := eq_true p24
                          replace q24 := eq_true q24
                          have HP25 := Kd.R_putg HO_5.out ((ji21) : Int) ((x8_2) % 4294967296)
                          go_wp2_with (first | ((with_reducible refine gate_store (t := 109) (p := 63) rfl ?_); refine store_event (t := 109) (p := 63) (v := ?vo_w26) (w1 := (wr.setCell ⟨go24, ((ji21) : Int).toNat, none⟩ (.int .u32 ((x8_2) % 4294967296)))) ?hg ?ho ?hn ?hr ?_; (case ho => rfl); (case hg => rfl); (case hn => rfl); (case hr => first | (go_simp; done) | (go_simp; rfl)); intro w26 hw; have hg : wr.grownBy w26 (some go24) := (by rw [hw]; exact HP25.2); have hp_ : Kd.R (Kd.int .u32) 109 w26 w.heap.size (fun k_ => (w.heap.size ≤ k_)) (.slice (some ⟨go24, 0, none⟩) x5_2.length co24) y11 := (by rw [hw, Ny11.out]; exact HP25.1); clear HP25; have n0_ := Aside0.mk (hp_); have n1_ := Aside0.mk ((by rw [hw]; exact below_set (HB.out) GB24.out : Below w.heap.size w w26)); clear HO_5; clear HB; have HO_5 := n0_; have HB := n1_; clear n0_ n1_; clear hg hw hp_))
                          go_roundg k2
                          case measure => have := HK1.out; have := HK2.out; omega
                          case rel => exact ⟨(y11), (wrap64 (x19_1 + 1)), (by first | rfl | (simp; done) | (simp [*]; done)), H', ⟨by have := HK1.out; have := HK2.out; omega⟩, ⟨by (with_reducible repeat (first | apply Kd.R_alloc | apply Kd.R_drewN | apply Kd.R_drew)); exact HO_5.out⟩, ⟨by exact lc HB.out⟩⟩
                        · rw [if_neg c23] at H
                          exact absurd H (by simp)
                      · rw [if_neg c22] at H
                        exact absurd H (by simp)
              · rw [if_neg c10] at H
                exact absurd H (by simp)
            · rw [if_neg c9] at H
              exact absurd H (by simp)
          · rw [if_neg c8] at H
            have c8b0 : decide (x19_1 < (l0.length : Int)) = false := decide_eq_false c8
            clear c8
            replace H := Option.bind_eq_some_iff.mp H
            obtain ⟨t4, A270, H⟩ := H
            replace H : (some t4) = some r := H
            have A27 := Aside0.mk A270
            clear A270
            obtain rfl := Option.some.inj H
            obtain ⟨Ao28, co28, eo28⟩ := Kd.R_slice HO_5.out
            subst eo28
            go_wp2_with (first | (go_at_call 167; (with_reducible refine (nat_trim.calls k1 (fun k_ => some k_ = (.slice Ao28 x5_1.length co28 : Value).ownBlock) _ _ x5_1 t4 _ ?side1 A27.out).mono ?_); (case side1 => exact Kd.R_V (Kd.R_tight rfl (HO_5.out))); rintro e w29 ⟨v5, rfl, ho0, hb⟩; have n0_ := Aside0.mk (Kd.R_below (rc HO_5.out) hb); have n1_ := Aside0.mk (Kd.V_lower (Kd.V_mono (ok' := fun k_ => (w.heap.size ≤ k_)) ho0 (fun k_ hk_ => Or.elim hk_ (fun hs_ => ((HO_5.out).1 k_ hs_.symm)) (fun hn_ => (Nat.le_trans (below_size (lc HB.out)) hn_)))) (below_size (lc HB.out))); have n2_ := Aside0.mk (below_step (lc HB.out) hb); clear HO_5; clear HB; have HO_5 := n0_; have HO6 := n1_; have HB := n2_; clear n0_ n1_ n2_; (try clear hb); (try clear hb2); (try clear hk); (try clear hi); (try clear ho0)))
            go_ret
            exact ⟨_, by first | rfl | (simp [errW_none, errW_some] <;> rfl) | (simp only [← hji3]; first | rfl | (simp [errW_none, errW_some] <;> rfl)) | (simp [*, errW_none, errW_some] <;> rfl), by (with_reducible repeat (first | apply Kd.V_alloc | apply Kd.V_drewN | apply Kd.V_drew)); exact HO6.out, by exact lc HB.out⟩
    · rw [if_neg c5] at H
      exact absurd H (by simp)
  · rw [if_neg c4] at H
    exact absurd H (by simp)
end Go.Proofs.YtioofhilohmfbaaGreatDoor.P
end
section
set_option linter.unusedVariables false
set_option linter.unusedSimpArgs false
namespace Go.Proofs.YtioofhilohmfbaaGreatDoor
open Go Go.RowKit Go.Lib Go.Proofs.YtioofhilohmfbaaGreatDoorW.PrintWords
theorem top32 (n : Nat) (h : n < 4294967296) : n / 2147483648 = (n.testBit 31).toNat := by
  rw [Nat.testBit_eq_decide_div_mod_eq]
  have e : (2 : Nat) ^ 31 = 2147483648 := by decide
  rw [e]
  by_cases h1 : n / 2147483648 % 2 = 1
  · rw [decide_eq_true h1]; show _ = 1; omega
  · rw [decide_eq_false h1]; show _ = 0; omega
theorem bit31 (n : Nat) (h : n < 4294967296) : n.testBit 31 = decide (2147483648 ≤ n) := by
  rw [Nat.testBit_eq_decide_div_mod_eq]
  have e : (2 : Nat) ^ 31 = 2147483648 := by decide
  rw [e]
  exact decide_eq_decide.2 (by omega)
theorem w32 (n : Int) (h₀ : 0 ≤ n) (h₁ : n < 2 ^ 32) : IntKind.u32.wrap n = n := by rw [IntKind.wrap_u32]; omega
theorem w64 (n : Int) (h₀ : 0 ≤ n) (h₁ : n < 2 ^ 64) : IntKind.u64.wrap n = n := by rw [IntKind.wrap_u64]; omega
theorem xor32 (a b : Nat) (ha : a < 4294967296) (hb : b < 4294967296) : bits .xor .u32 (a : Int) (b : Int) = ((a ^^^ b : Nat) : Int) := by
  have hx : a ^^^ b < 2 ^ 32 := Nat.xor_lt_two_pow (by omega) (by omega)
  have h1 : (BitVec.ofInt 32 (a : Int)).toNat = a := by
    rw [BitVec.ofInt_natCast, BitVec.toNat_ofNat]; exact Nat.mod_eq_of_lt (by omega)
  have h2 : (BitVec.ofInt 32 (b : Int)).toNat = b := by
    rw [BitVec.ofInt_natCast, BitVec.toNat_ofNat]; exact Nat.mod_eq_of_lt (by omega)
  show IntKind.u32.wrap ((BitVec.ofInt 32 (a : Int) ^^^ BitVec.ofInt 32 (b : Int)).toNat : Int) = _
  rw [BitVec.toNat_xor, h1, h2, IntKind.wrap_u32]
  omega
theorem and32 (a b : Nat) (ha : a < 4294967296) (hb : b < 4294967296) : bits .and .u32 (a : Int) (b : Int) = ((a &&& b : Nat) : Int) :=
  (bits_nat .u32 32 (by decide) w32 a b (by omega) (by omega)).1
theorem or32 (a b : Nat) (ha : a < 4294967296) (hb : b < 4294967296) : bits .or .u32 (a : Int) (b : Int) = ((a ||| b : Nat) : Int) :=
  (bits_nat .u32 32 (by decide) w32 a b (by omega) (by omega)).2
theorem borrow_nat (x y d : Nat) (hx : x < 4294967296) (hy : y < 4294967296) (hd : d < 4294967296) (b : Nat) (hb : b ≤ 1) (he : (x + 4294967296 + 4294967296 - y - b) % 4294967296 = d) :
    ((4294967295 ^^^ x) &&& y ||| (4294967295 ^^^ (x ^^^ y)) &&& d) / 2147483648 = if x < y + b then 1 else 0 := by
  have h1 : (4294967295 ^^^ x) < 2 ^ 32 := Nat.xor_lt_two_pow (by omega) (by omega)
  have h2 : (x ^^^ y) < 2 ^ 32 := Nat.xor_lt_two_pow (by omega) (by omega)
  have h3 : (4294967295 ^^^ (x ^^^ y)) < 2 ^ 32 := Nat.xor_lt_two_pow (by omega) h2
  have h4 : ((4294967295 ^^^ x) &&& y ||| (4294967295 ^^^ (x ^^^ y)) &&& d) < 2 ^ 32 := Nat.or_lt_two_pow (Nat.and_lt_two_pow _ (by omega)) (Nat.and_lt_two_pow _ (by omega))
  rw [top32 _ (by omega), Nat.testBit_or, Nat.testBit_and, Nat.testBit_and, Nat.testBit_xor, Nat.testBit_xor, Nat.testBit_xor, bit31 x hx, bit31 y hy, bit31 d hd, show Nat.testBit 4294967295 31 = true by decide]
  by_cases hx1 : 2147483648 ≤ x <;> by_cases hy1 : 2147483648 ≤ y <;> by_cases hd1 : 2147483648 ≤ d <;> by_cases hlt : x < y + b <;> simp only [hx1, hy1, hd1, hlt, decide_true, decide_false, Bool.xor_true, Bool.xor_false, Bool.true_xor, Bool.false_xor, Bool.not_true, Bool.not_false, Bool.and_true, Bool.and_false, Bool.true_and, Bool.false_and, Bool.or_true, Bool.or_false, Bool.true_or, Bool.false_or, Bool.toNat_true, Bool.toNat_false, if_true, if_false] <;> omega
def P.bits_Sub32.f (x y b : Int) : Option (Int × Int) := if 0 ≤ x ∧ x < 4294967296 ∧ 0 ≤ y ∧ y < 4294967296 ∧ 0 ≤ b ∧ b ≤ 1 then some ((x - y - b) % 4294967296, if x < y + b then 1 else 0) else none
theorem sub32_form (x y b : Int) (hx : 0 ≤ x) (hx1 : x < 4294967296) (hy : 0 ≤ y) (hy1 : y < 4294967296) (hb : 0 ≤ b) (hb1 : b ≤ 1) :
    bits .or .u32 (bits .and .u32 (bits .xor .u32 IntKind.u32.max x) y) (bits .and .u32 (bits .xor .u32 IntKind.u32.max (bits .xor .u32 x y)) ((x - y - b) % 4294967296)) / 2147483648 = if x < y + b then 1 else 0 := by
  obtain ⟨x, rfl⟩ := Int.eq_ofNat_of_zero_le hx
  obtain ⟨y, rfl⟩ := Int.eq_ofNat_of_zero_le hy
  obtain ⟨b, rfl⟩ := Int.eq_ofNat_of_zero_le hb
  obtain ⟨d, hd⟩ : ∃ d : Nat, ((x : Int) - (y : Int) - (b : Int)) % 4294967296 = (d : Int) := ⟨(((x : Int) - (y : Int) - (b : Int)) % 4294967296).toNat, by omega⟩
  have hM : IntKind.u32.max = ((4294967295 : Nat) : Int) := by decide
  have h1 : (4294967295 ^^^ x) < 2 ^ 32 := Nat.xor_lt_two_pow (by omega) (by omega)
  have h2 : (x ^^^ y) < 2 ^ 32 := Nat.xor_lt_two_pow (by omega) (by omega)
  have h3 : (4294967295 ^^^ (x ^^^ y)) < 2 ^ 32 := Nat.xor_lt_two_pow (by omega) h2
  have h5 : ((4294967295 ^^^ x) &&& y) < 2 ^ 32 := Nat.and_lt_two_pow _ (by omega)
  have h6 : ((4294967295 ^^^ (x ^^^ y)) &&& d) < 2 ^ 32 := Nat.and_lt_two_pow _ (by omega)
  rw [hd, hM, xor32 _ x (by omega) (by omega), xor32 x y (by omega) (by omega), xor32 _ _ (by omega) (by omega), and32 _ y (by omega) (by omega), and32 _ d (by omega) (by omega), or32 _ _ (by omega) (by omega)]
  have := borrow_nat x y d (by omega) (by omega) (by omega) b (by omega) (by omega)
  have hc : (((4294967295 ^^^ x) &&& y ||| (4294967295 ^^^ (x ^^^ y)) &&& d : Nat) : Int) / 2147483648 = ((((4294967295 ^^^ x) &&& y ||| (4294967295 ^^^ (x ^^^ y)) &&& d) / 2147483648 : Nat) : Int) := by omega
  rw [hc, this]
  by_cases hlt : x < y + b
  · rw [if_pos hlt, if_pos (by omega)]; rfl
  · rw [if_neg hlt, if_neg (by omega)]; rfl
set_option maxRecDepth 100000 in
set_option maxHeartbeats 1000000 in
theorem P.bits_Sub32.calls (x y b : Int) (r1 r2 : Int) (w : World) (h : P.bits_Sub32.f x y b = some (r1, r2)) :
    Calls Tryz.prog 203 #[.int .u32 x, .int .u32 y, .int .u32 b] w fun e w' => e = .returned (.tuple #[.int .u32 r1, .int .u32 r2]) ∧ Below w.heap.size w w' := by
  unfold P.bits_Sub32.f at h
  by_cases hc : 0 ≤ x ∧ x < 4294967296 ∧ 0 ≤ y ∧ y < 4294967296 ∧ 0 ≤ b ∧ b ≤ 1
  case neg => rw [if_neg hc] at h; cases h
  rw [if_pos hc] at h
  injection h with h
  injection h with h1 h2
  subst h1
  obtain ⟨q1, q2, q3, q4, q5, q6⟩ := hc
  have hf := Aside0.mk ((sub32_form x y b q1 q2 q3 q4 q5 q6).trans h2)
  clear q1 q2 q3 q4 q5 q6 h2
  go_enter Tryz.func203, Tryz.ntmps203
  go_wp2
  go_ret2
  exact ⟨congrArg (fun z => Ending.returned (Value.tuple #[.int .u32 ((x - y - b) % 4294967296), .int .u32 z])) hf.out, Below.refl _ _⟩
def P.bits_Div32.f (x y b : Int) : Option (Int × Int) := if 0 ≤ x ∧ x < b ∧ b < 4294967296 ∧ 0 ≤ y ∧ y < 4294967296 then some ((x * 4294967296 + y) / b, (x * 4294967296 + y) % b) else none
theorem div32_quo (x y b : Int) (hx : 0 ≤ x) (hx1 : x < b) (hb : b < 4294967296) (hy : 0 ≤ y) (hy1 : y < 4294967296) : IntKind.u64.wrap ((bits .or .u64 (x * 4294967296) y).tdiv b) % 4294967296 = (x * 4294967296 + y) / b ∧ (bits .or .u64 (x * 4294967296) y).tmod b % 4294967296 = (x * 4294967296 + y) % b := by
  have e : bits .or .u64 (x * 4294967296) y = x * 4294967296 + y := bits_join .u64 64 (by decide) w64 32 _ _ (by omega) (by omega) (by omega) (by omega) (by omega) (by omega)
  rw [e]
  have hz : 0 ≤ x * 4294967296 + y := by omega
  have hzb : x * 4294967296 + y < b * 4294967296 := by omega
  generalize x * 4294967296 + y = z at hz hzb
  have h0 : 0 ≤ z / b := Int.ediv_nonneg hz (by omega)
  have h1 : z / b < 4294967296 := Int.ediv_lt_of_lt_mul (by omega) (by rw [Int.mul_comm]; exact hzb)
  have h2 : 0 ≤ z % b := Int.emod_nonneg _ (by omega)
  have h3 : z % b < b := Int.emod_lt_of_pos _ (by omega)
  rw [Int.tdiv_eq_ediv_of_nonneg hz, Int.tmod_eq_emod_of_nonneg hz, w64 _ h0 (by omega)]
  constructor <;> omega
set_option maxRecDepth 100000 in
set_option maxHeartbeats 1000000 in
theorem P.bits_Div32.calls (x y b : Int) (r1 r2 : Int) (w : World) (h : P.bits_Div32.f x y b = some (r1, r2)) :
    Calls Tryz.prog 201 #[.int .u32 x, .int .u32 y, .int .u32 b] w fun e w' => e = .returned (.tuple #[.int .u32 r1, .int .u32 r2]) ∧ Below w.heap.size w w' := by
  unfold P.bits_Div32.f at h
  by_cases hc : 0 ≤ x ∧ x < b ∧ b < 4294967296 ∧ 0 ≤ y ∧ y < 4294967296
  case neg => rw [if_neg hc] at h; cases h
  rw [if_pos hc] at h
  injection h with h
  injection h with e1 e2
  subst e1; subst e2
  obtain ⟨q1, q2, q3, q4, q5⟩ := hc
  have hf := Aside0.mk (div32_quo x y b q1 q2 q3 q4 q5)
  have h1 : decide (b = 0) = false := decide_eq_false (by omega)
  have h2 : (b != 0) = true := bne_iff_ne.2 (by omega)
  have h2b : (b == 0) = false := beq_eq_false_iff_ne.2 (by omega)
  have h3 : decide (b ≤ x) = false := decide_eq_false (by omega)
  have h4 : IntKind.u64.wrap b = b := w64 b (by omega) (by omega)
  go_enter Tryz.func201, Tryz.ntmps201
  go_wp2
  go_quiet (fail)
  go_wp2
  go_ret2
  exact ⟨(congrArg (fun z => Ending.returned (Value.tuple #[.int .u32 z, .int .u32 _])) hf.out.1).trans (congrArg (fun z => Ending.returned (Value.tuple #[.int .u32 ((x * 4294967296 + y) / b), .int .u32 z])) hf.out.2), pw_below_drewN (Below.refl _ _) _⟩
end Go.Proofs.YtioofhilohmfbaaGreatDoor
end
section
namespace Go.Proofs.YtioofhilohmfbaaGreatDoor.P
open Go.RowKit Go.Proofs.YtioofhilohmfbaaGreatDoorW.PrintWords Go.Proofs.YtioofhilohmfbaaGreatDoorW.PrintLast Go.Proofs.YtioofhilohmfbaaGreatDoorW.PrintMore
attribute [local go_sem] max2_int min2_int max_two min_two max_three min_three max_four min_four
set_option linter.unusedVariables false
set_option linter.unusedSimpArgs false
/-! ### nat_minus: function 191 -/
def nat_minus.l0 : Nat → List Int → List Int → List Int → Int → Int → Int → Option (List Int)
  | 0, _, _, _, _, _, _ => none
  | k + 1, x0, x1, x5, x6, x13, x14 => if x14 < x13 then (if x14 < (x1.length : Int) then (if 0 ≤ x14 then (if x14 < (x0.length : Int) then ((bits_Sub32.f (rd x0 x14) (rd x1 x14) x6).bind fun bt6 => (if x14 < (x5.length : Int) then (nat_minus.l0 k x0 x1 (x5.set (x14 : Int).toNat bt6.1) bt6.2 x13 (wrap64 (x14 + 1))) else (none))) else (none)) else (none)) else (if 0 ≤ x14 then (if x14 < (x0.length : Int) then ((bits_Sub32.f (rd x0 x14) 0 x6).bind fun bt10 => (if x14 < (x5.length : Int) then (nat_minus.l0 k x0 x1 (x5.set (x14 : Int).toNat bt10.1) bt10.2 x13 (wrap64 (x14 + 1))) else (none))) else (none)) else (none))) else ((nat_trim.f k x5).bind fun t13 => (some t13))
def nat_minus.f (k : Nat) (l0 : List Int) (l1 : List Int) : Option (List Int) := if 0 ≤ (l0.length : Int) then (if ((l0.length : Int) : Int).toNat ≤ 70368744177664 then (nat_minus.l0 k l0 l1 (List.replicate ((l0.length : Int) : Int).toNat 0) 0 (l0.length : Int) 0) else (none)) else (none)
theorem nat_minus.mono_l : ∀ k, (∀ y0 y1 y2 y3 y4 y5, LeO (nat_minus.l0 k y0 y1 y2 y3 y4 y5) (nat_minus.l0 (k + 1) y0 y1 y2 y3 y4 y5))
  | 0 => fun _ _ _ _ _ _ r h => by simp [nat_minus.l0] at h
  | k + 1 => by
    have ih0 := nat_minus.mono_l k
    · intro y0 y1 y2 y3 y4 y5
      unfold nat_minus.l0
      repeat' first
      | (with_reducible exact ih0 _ _ _ _ _ _)
      | (with_reducible exact nat_trim.mono _ _)
      | (with_reducible exact LeO.refl _)
      | (with_reducible exact LeO.none _)
      | (with_reducible refine LeO.ite ?_ ?_)
      | (with_reducible refine LeO.bind ?_ (fun _ => ?_))
      | exact ih0 _ _ _ _ _ _
      | exact nat_trim.mono _ _
      | exact LeO.none _
      | refine LeO.ite ?_ ?_
      | refine LeO.bind ?_ (fun _ => ?_)
theorem nat_minus.mono : ∀ a0 a1 k, LeO (nat_minus.f k a0 a1) (nat_minus.f (k + 1) a0 a1) := by
  intro a0 a1 k
  have ih0 := nat_minus.mono_l k
  unfold nat_minus.f
  repeat' first
      | (with_reducible exact ih0 _ _ _ _ _ _)
      | (with_reducible exact nat_trim.mono _ _)
      | (with_reducible exact LeO.refl _)
      | (with_reducible exact LeO.none _)
      | (with_reducible refine LeO.ite ?_ ?_)
      | (with_reducible refine LeO.bind ?_ (fun _ => ?_))
      | exact ih0 _ _ _ _ _ _
      | exact nat_trim.mono _ _
      | exact LeO.none _
      | refine LeO.ite ?_ ?_
      | refine LeO.bind ?_ (fun _ => ?_)
set_option maxHeartbeats 8000000 in
set_option maxRecDepth 100000 in
theorem nat_minus.calls (k : Nat) (A0 : Option Addr) (c0 : Nat) (l0 : List Int) (A1 : Option Addr) (c1 : Nat) (l1 : List Int) (r : List Int) (w : World) (hr0 : Kd.C (Kd.int .u32) w A0 l0.length l0) (hc0 : l0.length ≤ c0) (hr1 : Kd.C (Kd.int .u32) w A1 l1.length l1) (hc1 : l1.length ≤ c1) (h : nat_minus.f k l0 l1 = some r) :
    Calls Tryz.prog 191 #[.slice A0 l0.length c0, .slice A1 l1.length c1] w fun e w' => ∃ v0_ : Value, e = .returned (v0_) ∧ Kd.V (Kd.int .u32) 109 w' w.heap.size (fun k_ => (w.heap.size ≤ k_)) v0_ r ∧ Below w.heap.size w w' := by
  have HR0 := Aside0.mk hr0
  have HC0 := Aside0.mk hc0
  clear hr0 hc0
  have HR1 := Aside0.mk hr1
  have HC1 := Aside0.mk hc1
  clear hr1 hc1
  have HB := Aside0.mk (Below.refl w.heap.size w)
  have H : (if 0 ≤ (l0.length : Int) then (if ((l0.length : Int) : Int).toNat ≤ 70368744177664 then (nat_minus.l0 k l0 l1 (List.replicate ((l0.length : Int) : Int).toNat 0) 0 (l0.length : Int) 0) else (none)) else (none)) = some r := h
  clear h
  by_cases c3 : 0 ≤ (l0.length : Int)
  · rw [if_pos c3] at H
    have c3b0 := eq_true c3
    have c3b1 : decide (0 ≤ (l0.length : Int)) = true := decide_eq_true c3
    clear c3
    by_cases c4 : ((l0.length : Int) : Int).toNat ≤ 70368744177664
    · rw [if_pos c4] at H
      have c4b0 := eq_true c4
      have c4b1 : decide (((l0.length : Int) : Int).toNat ≤ 70368744177664) = true := decide_eq_true c4
      clear c4
      obtain ⟨y1, hy1⟩ : ∃ y_ : List Int, y_ = (List.replicate ((l0.length : Int) : Int).toNat 0) := ⟨_, rfl⟩
      replace H : (nat_minus.l0 k l0 l1 y1 0 (l0.length : Int) 0) = some r := by first | (rw [hy1]; with_reducible exact H) | (have H2_ := (Option.bind_some _ _).symm.trans H; rw [hy1]; with_reducible exact H2_) | (have H2_ := (Option.bind_some _ _).symm.trans H; with_reducible exact H2_) | with_reducible exact H | (rw [hy1]; exact H) | exact H
      have Ny1 := Aside0.mk hy1
      clear hy1
      have H' := Aside0.mk H
      clear H
      go_enter Tryz.func191, Tryz.ntmps191
      go_wp2_with (first | ((with_reducible refine gate_dst (N := 11) rfl ?_); refine Kd.R_make (Kd.int .u32) _ 109 rfl (N := 11) rfl 39 _ _ rfl (l0.length : Int) rfl rfl Tryz.underlying39 (.int .u32 0) 4 info109 rfl (by decide) (by omega) 0 (ok := fun _ => True) (okp := fun _ => True) rfl (fun _ hk => hk) trivial (of_decide_eq_true (by first | (with_reducible assumption) | assumption)) (Nat.le_trans (Nat.mul_le_mul_right _ (of_decide_eq_true (by first | (with_reducible assumption) | assumption) : (l0.length : Int).toNat ≤ 70368744177664)) (by omega)) (Below.refl _ _) (Nat.le_refl _) ?_; intro v2 w5 ho6 hb hg_ hnew_; clear hg_ hnew_; (first | rw [← Ny1.out] at ho6 | (simp only [Int.reduceToNat] at ho6; rw [← Ny1.out] at ho6)); have n0_ := Aside0.mk (Kd.R_lower (Kd.R_newM (M := fun k_ => (w.heap.size ≤ k_)) ho6 (below_size (lc HB.out)) (fun k_ h_ => h_)) (below_size (lc HB.out))); have n1_ := Aside0.mk (below_step (lc HB.out) hb); clear HB; have HO3 := n0_; have HB := n1_; clear n0_ n1_; clear hb ho6))
      go_loopg [6, 14] k (fun kq v6 v14 w' => ∃ (x5_1 : List Int) (x6_1 : Int) (x14_1 : Int), v6 = .int .u32 x6_1 ∧ v14 = .int .i64 x14_1 ∧ Aside0 (nat_minus.l0 kq l0 l1 x5_1 x6_1 (l0.length : Int) x14_1 = some r) ∧ Aside0 (kq ≤ k) ∧ Aside0 (Kd.R (Kd.int .u32) 109 w' w.heap.size (fun k_ => (w.heap.size ≤ k_)) v2 x5_1) ∧ Aside0 (Below w.heap.size w w'))
      case atStart => exact ⟨(y1), (0), (0), (by first | rfl | (simp; done) | (simp [*]; done)), (by first | rfl | (simp; done) | (simp [*]; done)), H', ⟨Nat.le_refl _⟩, ⟨by (with_reducible repeat (first | apply Kd.R_alloc | apply Kd.R_drewN | apply Kd.R_drew)); exact Kd.R_mono HO3.out (fun _ hk => hk.1)⟩, ⟨by exact lc HB.out⟩⟩
      case round =>
        clear H'
        try clear c1
        try clear p2
        try clear c3
        try clear c3b0
        try clear c3b1
        try clear c4
        try clear c4b0
        try clear c4b1
        obtain ⟨x5_1, x6_1, x14_1, rfl, rfl, HA, HK1, HO_5, HB⟩ := hrel
        cases gk with
        | zero => exact absurd HA.out (by simp [nat_minus.l0])
        | succ k1 =>
          have H := HA.out
          clear HA
          simp only [nat_minus.l0] at H
          by_cases c7 : x14_1 < (l0.length : Int)
          · rw [if_pos c7] at H
            have c7b0 : decide (x14_1 < (l0.length : Int)) = true := decide_eq_true c7
            clear c7
            by_cases c8 : x14_1 < (l1.length : Int)
            · rw [if_pos c8] at H
              have c8b0 : decide (x14_1 < (l1.length : Int)) = true := decide_eq_true c8
              clear c8
              by_cases c9 : 0 ≤ x14_1
              · rw [if_pos c9] at H
                have c9b0 : decide (0 ≤ x14_1) = true := decide_eq_true c9
                clear c9
                by_cases c10 : x14_1 < (l0.length : Int)
                · rw [if_pos c10] at H
                  have c10b0 : decide (x14_1 < (l0.length : Int)) = true := decide_eq_true c10
                  clear c10
                  replace H := Option.bind_eq_some_iff.mp H
                  obtain ⟨⟨t6, t7⟩, A110, H⟩ := H
                  replace H : (if x14_1 < (x5_1.length : Int) then (nat_minus.l0 k1 l0 l1 (x5_1.set (x14_1 : Int).toNat t6) t7 (l0.length : Int) (wrap64 (x14_1 + 1))) else (none)) = some r := H
                  have A11 := Aside0.mk A110
                  clear A110
                  by_cases c12 : x14_1 < (x5_1.length : Int)
                  · rw [if_pos c12] at H
                    have c12b0 : decide (x14_1 < (x5_1.length : Int)) = true := decide_eq_true c12
                    clear c12
                    obtain ⟨y8, hy8⟩ : ∃ y_ : List Int, y_ = (x5_1.set (x14_1 : Int).toNat t6) := ⟨_, rfl⟩
                    replace H : (nat_minus.l0 k1 l0 l1 y8 t7 (l0.length : Int) (wrap64 (x14_1 + 1))) = some r := by first | (rw [hy8]; with_reducible exact H) | (have H2_ := (Option.bind_some _ _).symm.trans H; rw [hy8]; with_reducible exact H2_) | (have H2_ := (Option.bind_some _ _).symm.trans H; with_reducible exact H2_) | with_reducible exact H | (rw [hy8]; exact H) | exact H
                    have Ny8 := Aside0.mk hy8
                    clear hy8
                    have H' := Aside0.mk H
                    clear H
                    have p4 : 0 ≤ (x14_1 : Int) := of_decide_eq_true (by first | (with_reducible assumption) | assumption)
                    have q4 : x14_1 < (l1.length : Int) := of_decide_eq_true (by first | (with_reducible assumption) | assumption)
                    obtain ⟨ad4, e4, hx4_0⟩ := Kd.at_int HR1.out x14_1 p4 q4
                    cases e4
                    replace hx4_0 := (HB.out.cell (World.block_lt_of_cell? w _ hx4_0)).trans hx4_0
                    replace p4 := eq_true p4
                    replace q4 := eq_true q4
                    have p5 : 0 ≤ (x14_1 : Int) := of_decide_eq_true (by first | (with_reducible assumption) | assumption)
                    have q5 : x14_1 < (l0.length : Int) := of_decide_eq_true (by first | (with_reducible assumption) | assumption)
                    obtain ⟨ad5, e5, hx5_0⟩ := Kd.at_int HR0.out x14_1 p5 q5
                    cases e5
                    replace hx5_0 := (HB.out.cell (World.block_lt_of_cell? w _ hx5_0)).trans hx5_0
                    replace p5 := eq_true p5
                    replace q5 := eq_true q5
                    go_wp2_with (first | (go_at_call 203; (with_reducible refine (bits_Sub32.calls (rd l0 x14_1) (rd l1 x14_1) x6_1 t6 t7 _ A11.out).mono ?_); rintro e w14 ⟨rfl, hb⟩; have n0_ := Aside0.mk (Kd.R_below (rc HO_5.out) hb); have n1_ := Aside0.mk (below_step (lc HB.out) hb); clear HO_5; clear HB; have HO_5 := n0_; have HB := n1_; clear n0_ n1_; (try clear hb); (try clear hb2); (try clear hk); (try clear hi); have p13 : 0 ≤ (x14_1 : Int) := of_decide_eq_true (by first | (with_reducible assumption) | assumption); have q13 : (x14_1 : Int) < ((x5_1.length : Int) : Int) := of_decide_eq_true (by first | (with_reducible assumption) | assumption); obtain ⟨go13, co13, eo13, gb13, gl13, cl13, HG13⟩ := Kd.R_form HO_5.out (by omega); (first | cases eo13 | (injection eo13 with ea_ en_ ec_; (first | subst ea_ | (injection ea_ with ea_; subst ea_)); subst ec_; clear en_)); have GB13 := Aside0.mk gb13; have GG13 := Aside0.mk HG13; clear gb13 gl13 HG13; obtain ⟨hx13_0, hf13_0⟩ := Kd.R_celln 0 HO_5.out (x14_1 : Int) p13 q13; replace p13 := eq_true p13; replace q13 := eq_true q13; obtain ⟨hy15_, hz15_⟩ := Kd.R_celln 0 HO_5.out (x14_1 : Int) (of_decide_eq_true (by first | (with_reducible assumption) | assumption)) (of_decide_eq_true (by first | (with_reducible assumption) | assumption)); have HP15 := Kd.R_putg HO_5.out (x14_1 : Int) t6) | ((with_reducible refine gate_store (t := 109) (p := 37) rfl ?_); refine store_event (t := 109) (p := 37) (v := ?vo_w16) (w1 := (w14.setCell ⟨go13, (x14_1 : Int).toNat, none⟩ (.int .u32 t6))) ?hg ?ho ?hn ?hr ?_; (case ho => rfl); (case hg => rfl); (case hn => rfl); (case hr => first | (go_simp; done) | (go_simp; rfl)); intro w16 hw; have hg : w14.grownBy w16 (some go13) := (by rw [hw]; exact HP15.2); have hp_ : Kd.R (Kd.int .u32) 109 w16 w.heap.size (fun k_ => (w.heap.size ≤ k_)) (.slice (some ⟨go13, 0, none⟩) x5_1.length co13) y8 := (by rw [hw, Ny8.out]; exact HP15.1); clear HP15; have n0_ := Aside0.mk (hp_); have n1_ := Aside0.mk ((by rw [hw]; exact below_set (HB.out) GB13.out : Below w.heap.size w w16)); clear HO_5; clear HB; have HO_5 := n0_; have HB := n1_; clear n0_ n1_; clear hg hw hp_))
                    go_roundg k1
                    case measure => have := HK1.out; omega
                    case rel => exact ⟨(y8), (t7), (wrap64 (x14_1 + 1)), (by first | rfl | (simp; done) | (simp [*]; done)), (by first | rfl | (simp; done) | (simp [*]; done)), H', ⟨by have := HK1.out; omega⟩, ⟨by (with_reducible repeat (first | apply Kd.R_alloc | apply Kd.R_drewN | apply Kd.R_drew)); exact HO_5.out⟩, ⟨by exact lc HB.out⟩⟩
                  · rw [if_neg c12] at H
                    exact absurd H (by simp)
                · rw [if_neg c10] at H
                  exact absurd H (by simp)
              · rw [if_neg c9] at H
                exact absurd H (by simp)
            · rw [if_neg c8] at H
              have c8b0 : decide (x14_1 < (l1.length : Int)) = false := decide_eq_false c8
              clear c8
              by_cases c17 : 0 ≤ x14_1
              · rw [if_pos c17] at H
                have c17b0 : decide (0 ≤ x14_1) = true := decide_eq_true c17
                clear c17
                by_cases c18 : x14_1 < (l0.length : Int)
                · rw [if_pos c18] at H
                  have c18b0 : decide (x14_1 < (l0.length : Int)) = true := decide_eq_true c18
                  clear c18
                  replace H := Option.bind_eq_some_iff.mp H
                  obtain ⟨⟨t10, t11⟩, A190, H⟩ := H
                  replace H : (if x14_1 < (x5_1.length : Int) then (nat_minus.l0 k1 l0 l1 (x5_1.set (x14_1 : Int).toNat t10) t11 (l0.length : Int) (wrap64 (x14_1 + 1))) else (none)) = some r := H
                  have A19 := Aside0.mk A190
                  clear A190
                  by_cases c20 : x14_1 < (x5_1.length : Int)
                  · rw [if_pos c20] at H
                    have c20b0 : decide (x14_1 < (x5_1.length : Int)) = true := decide_eq_true c20
                    clear c20
                    obtain ⟨y12, hy12⟩ : ∃ y_ : List Int, y_ = (x5_1.set (x14_1 : Int).toNat t10) := ⟨_, rfl⟩
                    replace H : (nat_minus.l0 k1 l0 l1 y12 t11 (l0.length : Int) (wrap64 (x14_1 + 1))) = some r := by first | (rw [hy12]; with_reducible exact H) | (have H2_ := (Option.bind_some _ _).symm.trans H; rw [hy12]; with_reducible exact H2_) | (have H2_ := (Option.bind_some _ _).symm.trans H; with_reducible exact H2_) | with_reducible exact H | (rw [hy12]; exact H) | exact H
                    have Ny12 := Aside0.mk hy12
                    clear hy12
                    have H' := Aside0.mk H
                    clear H
                    have p9 : 0 ≤ (x14_1 : Int) := of_decide_eq_true (by first | (with_reducible assumption) | assumption)
                    have q9 : x14_1 < (l0.length : Int) := of_decide_eq_true (by first | (with_reducible assumption) | assumption)
                    obtain ⟨ad9, e9, hx9_0⟩ := Kd.at_int HR0.out x14_1 p9 q9
                    cases e9
                    replace hx9_0 := (HB.out.cell (World.block_lt_of_cell? w _ hx9_0)).trans hx9_0
                    replace p9 := eq_true p9
                    replace q9 := eq_true q9
                    go_wp2_with (first | (go_at_call 203; (with_reducible refine (bits_Sub32.calls (rd l0 x14_1) 0 x6_1 t10 t11 _ A19.out).mono ?_); rintro e w22 ⟨rfl, hb⟩; have n0_ := Aside0.mk (Kd.R_below (rc HO_5.out) hb); have n1_ := Aside0.mk (below_step (lc HB.out) hb); clear HO_5; clear HB; have HO_5 := n0_; have HB := n1_; clear n0_ n1_; (try clear hb); (try clear hb2); (try clear hk); (try clear hi); have p21 : 0 ≤ (x14_1 : Int) := of_decide_eq_true (by first | (with_reducible assumption) | assumption); have q21 : (x14_1 : Int) < ((x5_1.length : Int) : Int) := of_decide_eq_true (by first | (with_reducible assumption) | assumption); obtain ⟨go21, co21, eo21, gb21, gl21, cl21, HG21⟩ := Kd.R_form HO_5.out (by omega); (first | cases eo21 | (injection eo21 with ea_ en_ ec_; (first | subst ea_ | (injection ea_ with ea_; subst ea_)); subst ec_; clear en_)); have GB21 := Aside0.mk gb21; have GG21 := Aside0.mk HG21; clear gb21 gl21 HG21; obtain ⟨hx21_0, hf21_0⟩ := Kd.R_celln 0 HO_5.out (x14_1 : Int) p21 q21; replace p21 := eq_true p21; replace q21 := eq_true q21; obtain ⟨hy23_, hz23_⟩ := Kd.R_celln 0 HO_5.out (x14_1 : Int) (of_decide_eq_true (by first | (with_reducible assumption) | assumption)) (of_decide_eq_true (by first | (with_reducible assumption) | assumption)); have HP23 := Kd.R_putg HO_5.out (x14_1 : Int) t10) | ((with_reducible refine gate_store (t := 109) (p := 37) rfl ?_); refine store_event (t := 109) (p := 37) (v := ?vo_w24) (w1 := (w22.setCell ⟨go21, (x14_1 : Int).toNat, none⟩ (.int .u32 t10))) ?hg ?ho ?hn ?hr ?_; (case ho => rfl); (case hg => rfl); (case hn => rfl); (case hr => first | (go_simp; done) | (go_simp; rfl)); intro w24 hw; have hg : w22.grownBy w24 (some go21) := (by rw [hw]; exact HP23.2); have hp_ : Kd.R (Kd.int .u32) 109 w24 w.heap.size (fun k_ => (w.heap.size ≤ k_)) (.slice (some ⟨go21, 0, none⟩) x5_1.length co21) y12 := (by rw [hw, Ny12.out]; exact HP23.1); clear HP23; have n0_ := Aside0.mk (hp_); have n1_ := Aside0.mk ((by rw [hw]; exact below_set (HB.out) GB21.out : Below w.heap.size w w24)); clear HO_5; clear HB; have HO_5 := n0_; have HB := n1_; clear n0_ n1_; clear hg hw hp_))
                    go_roundg k1
                    case measure => have := HK1.out; omega
                    case rel => exact ⟨(y12), (t11), (wrap64 (x14_1 + 1)), (by first | rfl | (simp; done) | (simp [*]; done)), (by first | rfl | (simp; done) | (simp [*]; done)), H', ⟨by have := HK1.out; omega⟩, ⟨by (with_reducible repeat (first | apply Kd.R_alloc | apply Kd.R_drewN | apply Kd.R_drew)); exact HO_5.out⟩, ⟨by exact lc HB.out⟩⟩
                  · rw [if_neg c20] at H
                    exact absurd H (by simp)
                · rw [if_neg c18] at H
                  exact absurd H (by simp)
              · rw [if_neg c17] at H
                exact absurd H (by simp)
          · rw [if_neg c7] at H
            have c7b0 : decide (x14_1 < (l0.length : Int)) = false := decide_eq_false c7
            clear c7
            replace H := Option.bind_eq_some_iff.mp H
            obtain ⟨t13, A250, H⟩ := H
            replace H : (some t13) = some r := H
            have A25 := Aside0.mk A250
            clear A250
            obtain rfl := Option.some.inj H
            obtain ⟨Ao26, co26, eo26⟩ := Kd.R_slice HO_5.out
            subst eo26
            go_wp2_with (first | (go_at_call 167; (with_reducible refine (nat_trim.calls k1 (fun k_ => some k_ = (.slice Ao26 x5_1.length co26 : Value).ownBlock) _ _ x5_1 t13 _ ?side1 A25.out).mono ?_); (case side1 => exact Kd.R_V (Kd.R_tight rfl (HO_5.out))); rintro e w27 ⟨v14, rfl, ho0, hb⟩; have n0_ := Aside0.mk (Kd.R_below (rc HO_5.out) hb); have n1_ := Aside0.mk (Kd.V_lower (Kd.V_mono (ok' := fun k_ => (w.heap.size ≤ k_)) ho0 (fun k_ hk_ => Or.elim hk_ (fun hs_ => ((HO_5.out).1 k_ hs_.symm)) (fun hn_ => (Nat.le_trans (below_size (lc HB.out)) hn_)))) (below_size (lc HB.out))); have n2_ := Aside0.mk (below_step (lc HB.out) hb); clear HO_5; clear HB; have HO_5 := n0_; have HO15 := n1_; have HB := n2_; clear n0_ n1_ n2_; (try clear hb); (try clear hb2); (try clear hk); (try clear hi); (try clear ho0)))
            go_ret
            exact ⟨_, by first | rfl | (simp [errW_none, errW_some] <;> rfl) | (simp [*, errW_none, errW_some] <;> rfl), by (with_reducible repeat (first | apply Kd.V_alloc | apply Kd.V_drewN | apply Kd.V_drew)); exact HO15.out, by exact lc HB.out⟩
    · rw [if_neg c4] at H
      exact absurd H (by simp)
  · rw [if_neg c3] at H
    exact absurd H (by simp)
end Go.Proofs.YtioofhilohmfbaaGreatDoor.P
end
section
namespace Go.Proofs.YtioofhilohmfbaaGreatDoor.P
open Go.RowKit Go.Proofs.YtioofhilohmfbaaGreatDoorW.PrintWords Go.Proofs.YtioofhilohmfbaaGreatDoorW.PrintLast Go.Proofs.YtioofhilohmfbaaGreatDoorW.PrintMore
attribute [local go_sem] max2_int min2_int max_two min_two max_three min_three max_four min_four
set_option linter.unusedVariables false
set_option linter.unusedSimpArgs false
/-! ### nat_short: function 188 -/
def nat_short.l0 : Nat → List Int → Int → List Int → Int → Int → Option (List Int × Int)
  | 0, _, _, _, _, _ => none
  | k + 1, x0, x1, x6, x7, x8 => if x8 ≥ 0 then (if 0 ≤ x8 then (if x8 < (x0.length : Int) then ((bits_Div32.f x7 (rd x0 x8) x1).bind fun bt5 => (if x8 < (x6.length : Int) then (nat_short.l0 k x0 x1 (x6.set (x8 : Int).toNat bt5.1) bt5.2 (wrap64 (x8 - 1))) else (none))) else (none)) else (none)) else ((nat_trim.f k x6).bind fun t8 => (some (t8, x7)))
def nat_short.f (k : Nat) (l0 : List Int) (a1 : Int) : Option (List Int × Int) := if 0 ≤ (l0.length : Int) then (if ((l0.length : Int) : Int).toNat ≤ 70368744177664 then (nat_short.l0 k l0 a1 (List.replicate ((l0.length : Int) : Int).toNat 0) 0 (wrap64 ((l0.length : Int) - 1))) else (none)) else (none)
theorem nat_short.mono_l : ∀ k, (∀ y0 y1 y2 y3 y4, LeO (nat_short.l0 k y0 y1 y2 y3 y4) (nat_short.l0 (k + 1) y0 y1 y2 y3 y4))
  | 0 => fun _ _ _ _ _ r h => by simp [nat_short.l0] at h
  | k + 1 => by
    have ih0 := nat_short.mono_l k
    · intro y0 y1 y2 y3 y4
      unfold nat_short.l0
      repeat' first
      | (with_reducible exact ih0 _ _ _ _ _)
      | (with_reducible exact nat_trim.mono _ _)
      | (with_reducible exact LeO.refl _)
      | (with_reducible exact LeO.none _)
      | (with_reducible refine LeO.ite ?_ ?_)
      | (with_reducible refine LeO.bind ?_ (fun _ => ?_))
      | exact ih0 _ _ _ _ _
      | exact nat_trim.mono _ _
      | exact LeO.none _
      | refine LeO.ite ?_ ?_
      | refine LeO.bind ?_ (fun _ => ?_)
theorem nat_short.mono : ∀ a0 a1 k, LeO (nat_short.f k a0 a1) (nat_short.f (k + 1) a0 a1) := by
  intro a0 a1 k
  have ih0 := nat_short.mono_l k
  unfold nat_short.f
  repeat' first
      | (with_reducible exact ih0 _ _ _ _ _)
      | (with_reducible exact nat_trim.mono _ _)
      | (with_reducible exact LeO.refl _)
      | (with_reducible exact LeO.none _)
      | (with_reducible refine LeO.ite ?_ ?_)
      | (with_reducible refine LeO.bind ?_ (fun _ => ?_))
      | exact ih0 _ _ _ _ _
      | exact nat_trim.mono _ _
      | exact LeO.none _
      | refine LeO.ite ?_ ?_
      | refine LeO.bind ?_ (fun _ => ?_)
set_option maxHeartbeats 8000000 in
set_option maxRecDepth 100000 in
theorem nat_short.calls (k : Nat) (A0 : Option Addr) (c0 : Nat) (l0 : List Int) (a1 : Int) (r1 : List Int) (r2 : Int) (w : World) (hr0 : Kd.C (Kd.int .u32) w A0 l0.length l0) (hc0 : l0.length ≤ c0) (h : nat_short.f k l0 a1 = some (r1, r2)) :
    Calls Tryz.prog 188 #[.slice A0 l0.length c0, .int .u32 a1] w fun e w' => ∃ v0_ : Value, e = .returned (.tuple #[v0_, .int .u32 r2]) ∧ Kd.V (Kd.int .u32) 109 w' w.heap.size (fun k_ => (w.heap.size ≤ k_)) v0_ r1 ∧ Below w.heap.size w w' := by
  have HR0 := Aside0.mk hr0
  have HC0 := Aside0.mk hc0
  clear hr0 hc0
  have HB := Aside0.mk (Below.refl w.heap.size w)
  have H : (if 0 ≤ (l0.length : Int) then (if ((l0.length : Int) : Int).toNat ≤ 70368744177664 then (nat_short.l0 k l0 a1 (List.replicate ((l0.length : Int) : Int).toNat 0) 0 (wrap64 ((l0.length : Int) - 1))) else (none)) else (none)) = some (r1, r2) := h
  clear h
  by_cases c3 : 0 ≤ (l0.length : Int)
  · rw [if_pos c3] at H
    have c3b0 := eq_true c3
    have c3b1 : decide (0 ≤ (l0.length : Int)) = true := decide_eq_true c3
    clear c3
    by_cases c4 : ((l0.length : Int) : Int).toNat ≤ 70368744177664
    · rw [if_pos c4] at H
      have c4b0 := eq_true c4
      have c4b1 : decide (((l0.length : Int) : Int).toNat ≤ 70368744177664) = true := decide_eq_true c4
      clear c4
      obtain ⟨y1, hy1⟩ : ∃ y_ : List Int, y_ = (List.replicate ((l0.length : Int) : Int).toNat 0) := ⟨_, rfl⟩
      replace H : (nat_short.l0 k l0 a1 y1 0 (wrap64 ((l0.length : Int) - 1))) = some (r1, r2) := by first | (rw [hy1]; with_reducible exact H) | (have H2_ := (Option.bind_some _ _).symm.trans H; rw [hy1]; with_reducible exact H2_) | (have H2_ := (Option.bind_some _ _).symm.trans H; with_reducible exact H2_) | with_reducible exact H | (rw [hy1]; exact H) | exact H
      have Ny1 := Aside0.mk hy1
      clear hy1
      have H' := Aside0.mk H
      clear H
      go_enter Tryz.func188, Tryz.ntmps188
      go_wp2_with (first | ((with_reducible refine gate_dst (N := 11) rfl ?_); refine Kd.R_make (Kd.int .u32) _ 109 rfl (N := 11) rfl 39 _ _ rfl (l0.length : Int) rfl rfl Tryz.underlying39 (.int .u32 0) 4 info109 rfl (by decide) (by omega) 0 (ok := fun _ => True) (okp := fun _ => True) rfl (fun _ hk => hk) trivial (of_decide_eq_true (by first | (with_reducible assumption) | assumption)) (Nat.le_trans (Nat.mul_le_mul_right _ (of_decide_eq_true (by first | (with_reducible assumption) | assumption) : (l0.length : Int).toNat ≤ 70368744177664)) (by omega)) (Below.refl _ _) (Nat.le_refl _) ?_; intro v2 w5 ho6 hb hg_ hnew_; clear hg_ hnew_; (first | rw [← Ny1.out] at ho6 | (simp only [Int.reduceToNat] at ho6; rw [← Ny1.out] at ho6)); have n0_ := Aside0.mk (Kd.R_lower (Kd.R_newM (M := fun k_ => (w.heap.size ≤ k_)) ho6 (below_size (lc HB.out)) (fun k_ h_ => h_)) (below_size (lc HB.out))); have n1_ := Aside0.mk (below_step (lc HB.out) hb); clear HB; have HO3 := n0_; have HB := n1_; clear n0_ n1_; clear hb ho6))
      go_loopg [7, 8] k (fun kq v7 v8 w' => ∃ (x6_1 : List Int) (x7_1 : Int) (x8_1 : Int), v7 = .int .u32 x7_1 ∧ v8 = .int .i64 x8_1 ∧ Aside0 (nat_short.l0 kq l0 a1 x6_1 x7_1 x8_1 = some (r1, r2)) ∧ Aside0 (kq ≤ k) ∧ Aside0 (Kd.R (Kd.int .u32) 109 w' w.heap.size (fun k_ => (w.heap.size ≤ k_)) v2 x6_1) ∧ Aside0 (Below w.heap.size w w'))
      case atStart => exact ⟨(y1), (0), (wrap64 ((l0.length : Int) - 1)), (by first | rfl | (simp; done) | (simp [*]; done)), (by first | rfl | (simp; done) | (simp [*]; done)), H', ⟨Nat.le_refl _⟩, ⟨by (with_reducible repeat (first | apply Kd.R_alloc | apply Kd.R_drewN | apply Kd.R_drew)); exact Kd.R_mono HO3.out (fun _ hk => hk.1)⟩, ⟨by exact lc HB.out⟩⟩
      case round =>
        clear H'
        try clear c1
        try clear p2
        try clear c3
        try clear c3b0
        try clear c3b1
        try clear c4
        try clear c4b0
        try clear c4b1
        try clear p6
        obtain ⟨x6_1, x7_1, x8_1, rfl, rfl, HA, HK1, HO_6, HB⟩ := hrel
        cases gk with
        | zero => exact absurd HA.out (by simp [nat_short.l0])
        | succ k1 =>
          have H := HA.out
          clear HA
          simp only [nat_short.l0] at H
          by_cases c7 : x8_1 ≥ 0
          · rw [if_pos c7] at H
            have c7b0 : decide (0 ≤ x8_1) = true := decide_eq_true c7
            clear c7
            by_cases c8 : 0 ≤ x8_1
            · rw [if_pos c8] at H
              have c8b0 : decide (0 ≤ x8_1) = true := decide_eq_true c8
              clear c8
              by_cases c9 : x8_1 < (l0.length : Int)
              · rw [if_pos c9] at H
                have c9b0 : decide (x8_1 < (l0.length : Int)) = true := decide_eq_true c9
                clear c9
                replace H := Option.bind_eq_some_iff.mp H
                obtain ⟨⟨t5, t6⟩, A100, H⟩ := H
                replace H : (if x8_1 < (x6_1.length : Int) then (nat_short.l0 k1 l0 a1 (x6_1.set (x8_1 : Int).toNat t5) t6 (wrap64 (x8_1 - 1))) else (none)) = some (r1, r2) := H
                have A10 := Aside0.mk A100
                clear A100
                by_cases c11 : x8_1 < (x6_1.length : Int)
                · rw [if_pos c11] at H
                  have c11b0 : decide (x8_1 < (x6_1.length : Int)) = true := decide_eq_true c11
                  clear c11
                  obtain ⟨y7, hy7⟩ : ∃ y_ : List Int, y_ = (x6_1.set (x8_1 : Int).toNat t5) := ⟨_, rfl⟩
                  replace H : (nat_short.l0 k1 l0 a1 y7 t6 (wrap64 (x8_1 - 1))) = some (r1, r2) := by first | (rw [hy7]; with_reducible exact H) | (have H2_ := (Option.bind_some _ _).symm.trans H; rw [hy7]; with_reducible exact H2_) | (have H2_ := (Option.bind_some _ _).symm.trans H; with_reducible exact H2_) | with_reducible exact H | (rw [hy7]; exact H) | exact H
                  have Ny7 := Aside0.mk hy7
                  clear hy7
                  have H' := Aside0.mk H
                  clear H
                  have p4 : 0 ≤ (x8_1 : Int) := of_decide_eq_true (by first | (with_reducible assumption) | assumption)
                  have q4 : x8_1 < (l0.length : Int) := of_decide_eq_true (by first | (with_reducible assumption) | assumption)
                  obtain ⟨ad4, e4, hx4_0⟩ := Kd.at_int HR0.out x8_1 p4 q4
                  cases e4
                  replace hx4_0 := (HB.out.cell (World.block_lt_of_cell? w _ hx4_0)).trans hx4_0
                  replace p4 := eq_true p4
                  replace q4 := eq_true q4
                  go_wp2_with (first | (go_at_call 201; (with_reducible refine (bits_Div32.calls x7_1 (rd l0 x8_1) a1 t5 t6 _ A10.out).mono ?_); rintro e w13 ⟨rfl, hb⟩; have n0_ := Aside0.mk (Kd.R_below (rc HO_6.out) hb); have n1_ := Aside0.mk (below_step (lc HB.out) hb); clear HO_6; clear HB; have HO_6 := n0_; have HB := n1_; clear n0_ n1_; (try clear hb); (try clear hb2); (try clear hk); (try clear hi); have p12 : 0 ≤ (x8_1 : Int) := of_decide_eq_true (by first | (with_reducible assumption) | assumption); have q12 : (x8_1 : Int) < ((x6_1.length : Int) : Int) := of_decide_eq_true (by first | (with_reducible assumption) | assumption); obtain ⟨go12, co12, eo12, gb12, gl12, cl12, HG12⟩ := Kd.R_form HO_6.out (by omega); (first | cases eo12 | (injection eo12 with ea_ en_ ec_; (first | subst ea_ | (injection ea_ with ea_; subst ea_)); subst ec_; clear en_)); have GB12 := Aside0.mk gb12; have GG12 := Aside0.mk HG12; clear gb12 gl12 HG12; obtain ⟨hx12_0, hf12_0⟩ := Kd.R_celln 0 HO_6.out (x8_1 : Int) p12 q12; replace p12 := eq_true p12; replace q12 := eq_true q12; obtain ⟨hy14_, hz14_⟩ := Kd.R_celln 0 HO_6.out (x8_1 : Int) (of_decide_eq_true (by first | (with_reducible assumption) | assumption)) (of_decide_eq_true (by first | (with_reducible assumption) | assumption)); have HP14 := Kd.R_putg HO_6.out (x8_1 : Int) t5) | ((with_reducible refine gate_store (t := 109) (p := 31) rfl ?_); refine store_event (t := 109) (p := 31) (v := ?vo_w15) (w1 := (w13.setCell ⟨go12, (x8_1 : Int).toNat, none⟩ (.int .u32 t5))) ?hg ?ho ?hn ?hr ?_; (case ho => rfl); (case hg => rfl); (case hn => rfl); (case hr => first | (go_simp; done) | (go_simp; rfl)); intro w15 hw; have hg : w13.grownBy w15 (some go12) := (by rw [hw]; exact HP14.2); have hp_ : Kd.R (Kd.int .u32) 109 w15 w.heap.size (fun k_ => (w.heap.size ≤ k_)) (.slice (some ⟨go12, 0, none⟩) x6_1.length co12) y7 := (by rw [hw, Ny7.out]; exact HP14.1); clear HP14; have n0_ := Aside0.mk (hp_); have n1_ := Aside0.mk ((by rw [hw]; exact below_set (HB.out) GB12.out : Below w.heap.size w w15)); clear HO_6; clear HB; have HO_6 := n0_; have HB := n1_; clear n0_ n1_; clear hg hw hp_))
                  go_roundg k1
                  case measure => have := HK1.out; omega
                  case rel => exact ⟨(y7), (t6), (wrap64 (x8_1 - 1)), (by first | rfl | (simp; done) | (simp [*]; done)), (by first | rfl | (simp; done) | (simp [*]; done)), H', ⟨by have := HK1.out; omega⟩, ⟨by (with_reducible repeat (first | apply Kd.R_alloc | apply Kd.R_drewN | apply Kd.R_drew)); exact HO_6.out⟩, ⟨by exact lc HB.out⟩⟩
                · rw [if_neg c11] at H
                  exact absurd H (by simp)
              · rw [if_neg c9] at H
                exact absurd H (by simp)
            · rw [if_neg c8] at H
              exact absurd H (by simp)
          · rw [if_neg c7] at H
            have c7b0 : decide (0 ≤ x8_1) = false := decide_eq_false c7
            clear c7
            replace H := Option.bind_eq_some_iff.mp H
            obtain ⟨t8, A160, H⟩ := H
            replace H : (some (t8, x7_1)) = some (r1, r2) := H
            have A16 := Aside0.mk A160
            clear A160
            simp only [Option.some.injEq, Prod.mk.injEq] at H
            obtain ⟨rfl, rfl⟩ := H
            obtain ⟨Ao17, co17, eo17⟩ := Kd.R_slice HO_6.out
            subst eo17
            go_wp2_with (first | (go_at_call 167; (with_reducible refine (nat_trim.calls k1 (fun k_ => some k_ = (.slice Ao17 x6_1.length co17 : Value).ownBlock) _ _ x6_1 t8 _ ?side1 A16.out).mono ?_); (case side1 => exact Kd.R_V (Kd.R_tight rfl (HO_6.out))); rintro e w18 ⟨v9, rfl, ho0, hb⟩; have n0_ := Aside0.mk (Kd.R_below (rc HO_6.out) hb); have n1_ := Aside0.mk (Kd.V_lower (Kd.V_mono (ok' := fun k_ => (w.heap.size ≤ k_)) ho0 (fun k_ hk_ => Or.elim hk_ (fun hs_ => ((HO_6.out).1 k_ hs_.symm)) (fun hn_ => (Nat.le_trans (below_size (lc HB.out)) hn_)))) (below_size (lc HB.out))); have n2_ := Aside0.mk (below_step (lc HB.out) hb); clear HO_6; clear HB; have HO_6 := n0_; have HO10 := n1_; have HB := n2_; clear n0_ n1_ n2_; (try clear hb); (try clear hb2); (try clear hk); (try clear hi); (try clear ho0)))
            go_ret2
            exact ⟨_, by first | rfl | (simp [errW_none, errW_some] <;> rfl) | (simp [*, errW_none, errW_some] <;> rfl), by (with_reducible repeat (first | apply Kd.V_alloc | apply Kd.V_drewN | apply Kd.V_drew)); exact HO10.out, by exact lc HB.out⟩
    · rw [if_neg c4] at H
      exact absurd H (by simp)
  · rw [if_neg c3] at H
    exact absurd H (by simp)
end Go.Proofs.YtioofhilohmfbaaGreatDoor.P
end
section
set_option linter.unusedVariables false
namespace Go.Proofs.YtioofhilohmfbaaGreatDoor.P
open Go Go.RowKit Go.Proofs.YtioofhilohmfbaaGreatDoorW.PrintWords Go.Proofs.YtioofhilohmfbaaGreatDoorW.PrintLast Go.Proofs.YtioofhilohmfbaaGreatDoorW.PrintMore
theorem Ev.at1 {α : Type} {g : Nat → Option α} {r : α} (h : ∀ k, g (k + 1) = some r) : Ev g r := ⟨1, fun k hk => by
  obtain ⟨m, rfl⟩ : ∃ m, k = m + 1 := ⟨k - 1, by omega⟩
  exact h m⟩
theorem rd_nat (l : List Int) (i : Nat) : rd l (i : Int) = l.getD i 0 := rfl
theorem Tr_last {l : List Int} {n : Nat} (hl : l.length = n + 1) : Tr l ↔ l.getD n 0 ≠ 0 := by
  unfold Tr
  rw [List.getLast?_eq_getElem?, hl, Nat.add_sub_cancel, List.getD_eq_getElem?_getD, List.getElem?_eq_getElem (show n < l.length by omega)]
  simp
theorem trim_ev : ∀ (n : Nat) (l : List Int), l.length = n → n ≤ 140737488355328 → U l → Ev (fun k => nat_trim.f k l) (lim n (lv l))
  | 0, l, hl, _, _ => by
    obtain rfl := List.eq_nil_of_length_eq_zero hl
    exact Ev.at1 (fun k => by simp [nat_trim.f, nat_trim.l0, lim])
  | n + 1, l, hl, hb, hU => by
    have e0 : wrap64 ((l.length : Int) - 1) = (n : Int) := by rw [hl]; unfold wrap64; omega
    by_cases hx : l.getD n 0 = 0
    · have ih := trim_ev n (l.take n) (by rw [List.length_take]; omega) (by omega) (U_take hU n)
      have hv : lv l = lv (l.take n) := by
        have := lv_take_succ l n (by omega)
        rw [hx, List.take_of_length_le (by omega)] at this
        omega
      have h1 := lv_nonneg (U_take hU n)
      have h2 := lv_lt (U_take hU n)
      rw [List.length_take, Nat.min_eq_left (by omega)] at h2
      have h3 := pow_le (show n ≤ n + 1 by omega)
      rw [hv, lim_more (m := n) h1 (by omega) h2]
      refine Ev.step (fun k => ?_) ih
      simp only [nat_trim.f, nat_trim.l0, e0]
      rw [if_pos (by omega), if_pos (by omega), if_pos (by omega), rd_nat, if_pos hx, if_pos (by omega)]
      rfl
    · rw [lim_of (n + 1) hU ((Tr_last hl).2 hx) (by omega)]
      refine Ev.at1 (fun k => ?_)
      simp only [nat_trim.f, nat_trim.l0, e0]
      rw [if_pos (by omega), if_pos (by omega), if_pos (by omega), rd_nat, if_neg hx]
/-- How two numbers stand. -/
def cmpI (a b : Int) : Int := if a < b then -1 else if a = b then 0 else 1
theorem cmp_loop (a b : List Int) (n : Nat) (ha : a.length = n) (hb : b.length = n) (hn : n ≤ 140737488355328) (hU : U a) (hV : U b) :
    ∀ d, d ≤ n → Ev (fun k => nat_compare.l0 k a b (n : Int) ((n - d : Nat) : Int)) (cmpI (lv (a.take d)) (lv (b.take d)))
  | 0, _ => by
    refine Ev.at1 (fun k => ?_)
    simp only [nat_compare.l0]
    rw [if_neg (by omega)]
    rfl
  | d + 1, hd => by
    have ih := cmp_loop a b n ha hb hn hU hV d (by omega)
    have e1 : wrap64 ((wrap64 ((n : Int) - 1)) - ((n - (d + 1) : Nat) : Int)) = (d : Int) := by unfold wrap64; omega
    have e2 : wrap64 (((n - (d + 1) : Nat) : Int) + 1) = ((n - d : Nat) : Int) := by unfold wrap64; omega
    have ta := lv_take_succ a d (by omega)
    have tb := lv_take_succ b d (by omega)
    have la := lv_lt (U_take hU d)
    have lb := lv_lt (U_take hV d)
    rw [List.length_take, Nat.min_eq_left (by omega)] at la lb
    have na := lv_nonneg (U_take hU d)
    have nb := lv_nonneg (U_take hV d)
    have hp := pow_pos d
    by_cases he : a.getD d 0 = b.getD d 0
    · have : cmpI (lv (a.take (d + 1))) (lv (b.take (d + 1))) = cmpI (lv (a.take d)) (lv (b.take d)) := by
        unfold cmpI
        rw [ta, tb, he]
        by_cases h1 : lv (a.take d) < lv (b.take d)
        · rw [if_pos h1, if_pos (by omega)]
        · by_cases h2 : lv (a.take d) = lv (b.take d)
          · rw [if_neg h1, if_neg (by omega), if_pos h2, if_pos (by omega)]
          · rw [if_neg h1, if_neg (by omega), if_neg h2, if_neg (by omega)]
      rw [this]
      refine Ev.step (fun k => ?_) ih
      simp only [nat_compare.l0, ha, hb, e1, e2, rd_nat]
      rw [if_pos (by omega), if_pos (by omega), if_pos (by omega), if_pos (by omega), if_pos (by omega), if_pos he]
    · refine Ev.at1 (fun k => ?_)
      simp only [nat_compare.l0, ha, hb, e1, e2, rd_nat]
      rw [if_pos (by omega), if_pos (by omega), if_pos (by omega), if_pos (by omega), if_pos (by omega), if_neg he]
      by_cases hl : a.getD d 0 < b.getD d 0
      · rw [if_pos hl]
        have := Int.mul_le_mul_of_nonneg_left (show a.getD d 0 + 1 ≤ b.getD d 0 by omega) (Int.le_of_lt hp)
        rw [Int.mul_add, Int.mul_one] at this
        unfold cmpI
        rw [if_pos (by omega)]
      · rw [if_neg hl]
        have := Int.mul_le_mul_of_nonneg_left (show b.getD d 0 + 1 ≤ a.getD d 0 by omega) (Int.le_of_lt hp)
        rw [Int.mul_add, Int.mul_one] at this
        unfold cmpI
        rw [if_neg (by omega), if_neg (by omega)]
theorem compare_ev (a b : List Int) (ha : a.length ≤ 140737488355328) (hb : b.length ≤ 140737488355328) (hU : U a) (ta : Tr a) (hV : U b) (tb : Tr b) :
    Ev (fun k => nat_compare.f k a b) (cmpI (lv a) (lv b)) := by
  by_cases hl : a.length = b.length
  · have := cmp_loop a b a.length rfl hl.symm ha hU hV a.length (Nat.le_refl _)
    rw [List.take_of_length_le (Nat.le_refl _), List.take_of_length_le (by omega), Nat.sub_self] at this
    refine Ev.congr (fun k => ?_) this
    unfold nat_compare.f
    rw [if_pos (by omega)]
    rfl
  · refine Ev.at1 (fun k => ?_)
    unfold nat_compare.f
    rw [if_neg (by omega)]
    rcases Nat.lt_or_gt_of_ne hl with h | h
    · have := lv_lt_len hU hV tb h
      unfold cmpI
      rw [if_pos this]
      congr 1
      unfold mn mx wrap64
      omega
    · have := lv_lt_len hV hU ta h
      unfold cmpI
      rw [if_neg (by omega), if_neg (by omega)]
      congr 1
      unfold mn mx wrap64
      omega
theorem Of_ev (n : Int) (h0 : 0 ≤ n) (h1 : n < 18446744073709551616) : Ev (fun k => nat_Of.f k n) (lim 2 n) := by
  have hv : lv [n % 4294967296, n / 4294967296 % 4294967296] = n := by
    rw [lv, lv, lv]; omega
  have := trim_ev 2 [n % 4294967296, n / 4294967296 % 4294967296] rfl (by decide) (U_cons.2 ⟨by omega, U_cons.2 ⟨by omega, U_nil⟩⟩)
  rw [hv] at this
  exact Ev.bind this (Ev.now _)
theorem wrapu64 (n : Int) (h₀ : 0 ≤ n) (h₁ : n < 18446744073709551616) : IntKind.u64.wrap n = n := by rw [IntKind.wrap_u64]; omega
theorem getD_set (l : List Int) (i j : Nat) (x : Int) (h : i < l.length) : (l.set i x).getD j 0 = if j = i then x else l.getD j 0 := by
  rw [List.getD_eq_getElem?_getD, List.getElem?_set, List.getD_eq_getElem?_getD]
  by_cases e : i = j
  · subst e; rw [if_pos rfl, if_pos h, if_pos rfl]; rfl
  · rw [if_neg e, if_neg (fun h => e h.symm)]
theorem getD_rep (n j : Nat) : (List.replicate n (0 : Int)).getD j 0 = 0 := by
  rw [List.getD_eq_getElem?_getD, List.getElem?_replicate]
  split <;> rfl
/-- One product of two limbs, with what is there and what is over. -/
theorem limb_mul {x y o c : Int} (hx : 0 ≤ x ∧ x < 4294967296) (hy : 0 ≤ y ∧ y < 4294967296) (ho : 0 ≤ o ∧ o < 4294967296) (hc : 0 ≤ c ∧ c < 4294967296) :
    0 ≤ x * y ∧ x * y ≤ 18446744065119617025 ∧ IntKind.u64.wrap (c + IntKind.u64.wrap (IntKind.u64.wrap o + IntKind.u64.wrap (IntKind.u64.wrap x * IntKind.u64.wrap y))) = c + (o + x * y) ∧ 0 ≤ c + (o + x * y) ∧ (c + (o + x * y)) / 4294967296 < 4294967296 := by
  have h1 := Int.mul_nonneg hx.1 hy.1
  have h2 : x * y ≤ 4294967295 * 4294967295 := Int.mul_le_mul (by omega) (by omega) hy.1 (by omega)
  rw [show (4294967295 * 4294967295 : Int) = 18446744065119617025 by decide] at h2
  rw [wrapu64 x (by omega) (by omega), wrapu64 y (by omega) (by omega), wrapu64 o (by omega) (by omega), wrapu64 (x * y) (by omega) (by omega), wrapu64 (o + x * y) (by omega) (by omega), wrapu64 (c + (o + x * y)) (by omega) (by omega)]
  exact ⟨h1, h2, rfl, by omega, by omega⟩
/-- times' inner loop, from one limb of b on: what it hands to the outer one. -/
theorem times_in (a b : List Int) (i : Nat) (hU : U a) (hV : U b) (hi : i < a.length) (hab : a.length + b.length ≤ 140737488355328) :
    ∀ d j, j + d = b.length → ∀ (out : List Int) (c : Int), out.length = a.length + b.length → U out → (∀ p, i + b.length ≤ p → out.getD p 0 = 0) → 0 ≤ c ∧ c < 4294967296 →
    ∃ out', out'.length = a.length + b.length ∧ U out' ∧ (∀ p, i + 1 + b.length ≤ p → out'.getD p 0 = 0) ∧ lv out' = lv out + 4294967296 ^ (i + j) * (a.getD i 0 * lv (b.drop j) + c) ∧
      ∀ r, Ev (fun k => nat_times.l0 k b out' a (a.length : Int) ((i + 1 : Nat) : Int)) r → Ev (fun k => nat_times.l1 k b out (i : Int) (a.getD i 0) c a (a.length : Int) (i : Int) b (b.length : Int) (j : Int)) r
  | 0, j, hj, out, c, hl, hO, hz, hc => by
    have e1 : wrap64 ((i : Int) + (b.length : Int)) = ((i + b.length : Nat) : Int) := by unfold wrap64; omega
    have e2 : wrap64 ((i : Int) + 1) = ((i + 1 : Nat) : Int) := by unfold wrap64; omega
    have e3 : c % 4294967296 = c := by omega
    refine ⟨out.set (i + b.length) c, by rw [List.length_set]; exact hl, U_set hO _ _ hc.1 hc.2, fun p hp => ?_, ?_, fun r hr => ?_⟩
    · rw [getD_set _ _ _ _ (by omega), if_neg (by omega)]
      exact hz p (by omega)
    · rw [lv_set _ _ _ (by omega), hz _ (Nat.le_refl _), List.drop_of_length_le (by omega), lv, Int.mul_zero, Int.zero_add, Int.sub_zero, show i + j = i + b.length by omega]
    · refine Ev.step (fun k => ?_) hr
      simp only [nat_times.l1, e1, e2, e3]
      rw [if_neg (by omega), if_pos (by omega), if_pos (by omega), Int.toNat_natCast]
  | d + 1, j, hj, out, c, hl, hO, hz, hc => by
    have e1 : wrap64 ((i : Int) + (j : Int)) = ((i + j : Nat) : Int) := by unfold wrap64; omega
    have e2 : wrap64 ((j : Int) + 1) = ((j + 1 : Nat) : Int) := by unfold wrap64; omega
    obtain ⟨m1, m2, m3, m4, m5⟩ := limb_mul (U_get hU i) (U_get hV j) (U_get hO (i + j)) hc
    obtain ⟨t, ht⟩ : ∃ t, c + (out.getD (i + j) 0 + a.getD i 0 * b.getD j 0) = t := ⟨_, rfl⟩
    rw [ht] at m3 m4 m5
    have M3 := Aside0.mk m3
    clear m1 m2 m3
    obtain ⟨out', g1, g2, g3, g4, g5⟩ := times_in a b i hU hV hi hab d (j + 1) (by omega) (out.set (i + j) (t % 4294967296)) (t / 4294967296) (by rw [List.length_set]; exact hl) (U_set hO _ _ (by omega) (by omega))
      (fun p hp => by rw [getD_set _ _ _ _ (by omega), if_neg (by omega)]; exact hz p hp) ⟨by omega, m5⟩
    refine ⟨out', g1, g2, g3, ?_, fun r hr => ?_⟩
    · rw [g4, lv_set _ _ _ (by omega), lv_drop_succ b j (by omega), show i + (j + 1) = i + j + 1 by omega, Int.pow_succ]
      have hq : 4294967296 * (t / 4294967296) + t % 4294967296 = t := Int.mul_ediv_add_emod t 4294967296
      clear M3 g5 g4 g3 g2 g1 hz e1 e2 m4 m5
      generalize ((4294967296 : Int) ^ (i + j)) = p at *
      generalize lv (b.drop (j + 1)) = v at *
      generalize a.getD i 0 = x at *
      generalize b.getD j 0 = y at *
      generalize out.getD (i + j) 0 = o at *
      generalize t / 4294967296 = q at *
      generalize t % 4294967296 = m at *
      rw [Int.add_assoc, show p * (m - o) + p * 4294967296 * (x * v + q) = p * ((m - o) + 4294967296 * (x * v + q)) by rw [Int.mul_assoc, ← Int.mul_add]]
      congr 2
      rw [Int.mul_add, Int.mul_add, Int.mul_left_comm]
      omega
    · refine Ev.step (fun k => ?_) (g5 r hr)
      simp only [nat_times.l1, e1, e2, rd_nat, M3.out]
      rw [if_pos (by omega), if_pos (by omega), if_pos (by omega), if_pos (by omega), if_pos (by omega), Int.toNat_natCast]
theorem times_out (a b : List Int) (hU : U a) (hV : U b) (hab : a.length + b.length ≤ 140737488355328) :
    ∀ d i, i + d = a.length → ∀ (out : List Int), out.length = a.length + b.length → U out → (∀ p, i + b.length ≤ p → out.getD p 0 = 0) →
      Ev (fun k => nat_times.l0 k b out a (a.length : Int) (i : Int)) (lim (a.length + b.length) (lv out + 4294967296 ^ i * (lv (a.drop i) * lv b)))
  | 0, i, hi, out, hl, hO, hz => by
    have := trim_ev _ out hl hab hO
    rw [List.drop_of_length_le (by omega), lv, Int.zero_mul, Int.mul_zero, Int.add_zero]
    refine Ev.step (f := fun k => (nat_trim.f k out).bind fun t4 => some t4) (fun k => ?_) (Ev.bind this (Ev.now _))
    simp only [nat_times.l0]
    rw [if_neg (by omega)]
  | d + 1, i, hi, out, hl, hO, hz => by
    obtain ⟨out', g1, g2, g3, g4, g5⟩ := times_in a b i hU hV (by omega) hab b.length 0 (by omega) out 0 hl hO hz ⟨by decide, by decide⟩
    have ih := times_out a b hU hV hab d (i + 1) (by omega) out' g1 g2 g3
    have e : lv out' + 4294967296 ^ (i + 1) * (lv (a.drop (i + 1)) * lv b) = lv out + 4294967296 ^ i * (lv (a.drop i) * lv b) := by
      rw [g4, lv_drop_succ a i (by omega), Int.pow_succ, List.drop_zero, Int.add_zero, Nat.add_zero, Int.add_mul, Int.mul_add (4294967296 ^ i), Int.mul_assoc (4294967296 ^ i), Int.mul_assoc 4294967296]
      omega
    rw [e] at ih
    refine Ev.step (fun k => ?_) (g5 _ ih)
    simp only [nat_times.l0, rd_nat]
    rw [if_pos (by omega), if_pos (by omega), if_pos (by omega)]
    rfl
theorem times_ev (a b : List Int) (hU : U a) (hV : U b) (hab : a.length + b.length ≤ 70368744177664) : Ev (fun k => nat_times.f k a b) (lim (a.length + b.length) (lv a * lv b)) := by
  have e : wrap64 ((a.length : Int) + (b.length : Int)) = ((a.length + b.length : Nat) : Int) := by unfold wrap64; omega
  have := times_out a b hU hV (by omega) a.length 0 (by omega) (List.replicate (a.length + b.length) 0) (by simp) (U_rep _) (fun p _ => getD_rep _ _)
  rw [lv_rep, Int.zero_add, List.drop_zero, Int.pow_zero, Int.one_mul] at this
  refine Ev.congr (fun k => ?_) this
  unfold nat_times.f
  rw [e, if_pos (by omega), if_pos (by omega), Int.toNat_natCast]
  rfl
theorem lv_drop_any (l : List Int) (i : Nat) : lv (l.drop i) = l.getD i 0 + 4294967296 * lv (l.drop (i + 1)) := by
  by_cases h : i < l.length
  · exact lv_drop_succ l i h
  · rw [List.drop_of_length_le (by omega), List.drop_of_length_le (by omega), List.getD_eq_getElem?_getD, List.getElem?_eq_none (by omega)]
    rfl
/-- Bits ahead of the others: or is a sum. -/
theorem or_add (o a s : Nat) (hs : s < 32) (ho : o < 2 ^ s) (ha : a < 4294967296) :
    Go.bits .or .u32 (o : Int) (((a : Int) * 2 ^ s) % 4294967296) = (o : Int) + ((a : Int) * 2 ^ s) % 4294967296 ∧ (o : Int) + ((a : Int) * 2 ^ s) % 4294967296 < 4294967296 := by
  have e32 : (2 : Nat) ^ s * 2 ^ (32 - s) = 4294967296 := by
    rw [← Nat.pow_add, show s + (32 - s) = 32 by omega]
  have em : (a * 2 ^ s) % 4294967296 = 2 ^ s * (a % 2 ^ (32 - s)) := by
    rw [← e32, Nat.mul_comm a, Nat.mul_mod_mul_left]
  have hm : a % 2 ^ (32 - s) < 2 ^ (32 - s) := Nat.mod_lt _ (Nat.two_pow_pos _)
  have hle : 2 ^ s * (a % 2 ^ (32 - s)) + 2 ^ s ≤ 4294967296 := by
    rw [← e32, ← Nat.mul_succ]
    exact Nat.mul_le_mul_left _ hm
  have ec : ((a : Int) * 2 ^ s) % 4294967296 = ((2 ^ s * (a % 2 ^ (32 - s)) : Nat) : Int) := by
    rw [← em]; simp
  have hor : o ||| 2 ^ s * (a % 2 ^ (32 - s)) = o + 2 ^ s * (a % 2 ^ (32 - s)) := by
    rw [Nat.or_comm, ← Nat.two_pow_add_eq_or_of_lt ho, Nat.add_comm]
  rw [ec]
  generalize 2 ^ s * (a % 2 ^ (32 - s)) = lo at *
  refine ⟨?_, by omega⟩
  rw [or32 o lo (by omega) (by omega), hor]
  omega
theorem or_addI (o a : Int) (s : Nat) (hs : s < 32) (ho : 0 ≤ o ∧ o < 2 ^ s) (ha : 0 ≤ a ∧ a < 4294967296) :
    Go.bits .or .u32 o ((a * 2 ^ s) % 4294967296) = o + (a * 2 ^ s) % 4294967296 ∧ o + (a * 2 ^ s) % 4294967296 < 4294967296 := by
  obtain ⟨o, rfl⟩ := Int.eq_ofNat_of_zero_le ho.1
  obtain ⟨a, rfl⟩ := Int.eq_ofNat_of_zero_le ha.1
  exact or_add o a s hs (by have := ho.2; exact Int.ofNat_lt.1 (by simpa using this)) (by omega)
theorem two_pow_le (s : Nat) (hs : s < 32) : (1 : Int) ≤ 2 ^ s ∧ (2 : Int) ^ s ≤ 2147483648 := by
  have h1 : 2 ^ s ≤ 2 ^ 31 := Nat.pow_le_pow_right (by decide) (by omega)
  have h2 : 0 < 2 ^ s := Nat.two_pow_pos s
  have e : (2 : Int) ^ s = ((2 ^ s : Nat) : Int) := by simp
  rw [e]
  have : (2 : Nat) ^ 31 = 2147483648 := by decide
  omega
theorem shl_at (x : Int) (s : Nat) (hs : s < 32) (hx : 0 ≤ x ∧ x < 4294967296) : shl .u64 (IntKind.u64.wrap x) (s : Int) = x * 2 ^ s ∧ 0 ≤ x * 2 ^ s ∧ (x * 2 ^ s) / 4294967296 < 2 ^ s := by
  have hp := two_pow_le s hs
  have h1 : x * 2 ^ s ≤ 4294967295 * 2 ^ s := Int.mul_le_mul_of_nonneg_right (by omega) (by omega)
  have h0 : 0 ≤ x * 2 ^ s := Int.mul_nonneg hx.1 (by omega)
  refine ⟨?_, h0, by omega⟩
  unfold shl
  rw [wrapu64 x (by omega) (by omega), Int.toNat_natCast, Nat.min_eq_left (show s ≤ IntKind.u64.bits by show s ≤ 64; omega), wrapu64 _ h0 (by omega)]
theorem shifted_loop (a : List Int) (s : Nat) (hs : s < 32) (hU : U a) (hn : a.length ≤ 140737488355328) :
    ∀ d i, i + d = a.length → ∀ out : List Int, out.length = a.length + 1 → U out → out.getD i 0 < 2 ^ s → (∀ p, i < p → out.getD p 0 = 0) →
      ∃ r, Ev (fun k => nat_shifted.l0 k (s : Int) out a (a.length : Int) (i : Int)) r ∧ r.length = a.length + 1 ∧ U r ∧ lv r = lv out + 4294967296 ^ i * (2 ^ s * lv (a.drop i))
  | 0, i, hi, out, hl, hO, hc, hz => by
    refine ⟨out, Ev.at1 (fun k => ?_), hl, hO, ?_⟩
    · simp only [nat_shifted.l0]
      rw [if_neg (by omega)]
    · rw [List.drop_of_length_le (by omega), lv, Int.mul_zero, Int.mul_zero, Int.add_zero]
  | d + 1, i, hi, out, hl, hO, hc, hz => by
    have e2 : wrap64 ((i : Int) + 1) = ((i + 1 : Nat) : Int) := by unfold wrap64; omega
    obtain ⟨s1, s2, s3⟩ := shl_at (a.getD i 0) s hs (U_get hU i)
    obtain ⟨o1, o2⟩ := or_addI (out.getD i 0) (a.getD i 0) s hs ⟨(U_get hO i).1, hc⟩ (U_get hU i)
    have hp := two_pow_le s hs
    obtain ⟨x, hx⟩ : ∃ x, a.getD i 0 * 2 ^ s = x := ⟨_, rfl⟩
    rw [hx] at s1 s2 s3 o1 o2
    have oi := U_get hO i
    obtain ⟨r, r1, r2, r3, r4⟩ := shifted_loop a s hs hU hn d (i + 1) (by omega) ((out.set i (out.getD i 0 + x % 4294967296)).set (i + 1) (x / 4294967296 % 4294967296)) (by simp [hl])
      (U_set (U_set hO _ _ (by omega) o2) _ _ (by omega) (by omega)) (by rw [getD_set _ _ _ _ (by simp; omega), if_pos rfl]; omega)
      (fun p hp => by rw [getD_set _ _ _ _ (by simp; omega), if_neg (by omega), getD_set _ _ _ _ (by omega), if_neg (by omega)]; exact hz p (by omega))
    refine ⟨r, Ev.step (fun k => ?_) r1, r2, r3, ?_⟩
    · have S1 := Aside0.mk s1
      have O1 := Aside0.mk o1
      have E2 := Aside0.mk e2
      clear s1 s2 s3 o1 o2 r4 e2 hx
      simp only [nat_shifted.l0, E2.out, rd_nat, S1.out, O1.out, Int.toNat_natCast]
      rw [if_pos (by omega), if_pos (by omega), if_pos (by omega), if_pos (by omega), if_pos (by omega), if_pos (by omega), if_pos (by omega)]
    · rw [r4, lv_set _ _ _ (by simp; omega), lv_set _ _ _ (by omega), getD_set _ _ _ _ (by omega), if_neg (by omega), hz (i + 1) (by omega), lv_drop_succ a i (by omega), Int.pow_succ]
      have hq : x = 4294967296 * (x / 4294967296) + x % 4294967296 := (Int.mul_ediv_add_emod x 4294967296).symm
      have hx' : x / 4294967296 % 4294967296 = x / 4294967296 := by omega
      rw [hx', Int.sub_zero, show out.getD i 0 + x % 4294967296 - out.getD i 0 = x % 4294967296 by omega]
      generalize lv (a.drop (i + 1)) = v at *
      generalize ((4294967296 : Int) ^ i) = p at *
      have h3 : 2 ^ s * (a.getD i 0 + 4294967296 * v) = x % 4294967296 + 4294967296 * (x / 4294967296) + 4294967296 * (2 ^ s * v) := by
        rw [Int.mul_add, Int.mul_comm (2 ^ s) (a.getD i 0), hx, Int.mul_left_comm (2 ^ s)]
        omega
      rw [h3, Int.mul_assoc p, Int.mul_assoc p, Int.mul_add, Int.mul_add]
      omega
theorem shifted_ev (a : List Int) (s : Nat) (hs : s < 32) (hU : U a) (hn : a.length < 70368744177664) :
    ∃ r, Ev (fun k => nat_shifted.f k a (s : Int)) r ∧ r.length = a.length + 1 ∧ U r ∧ lv r = lv a * 2 ^ s := by
  have e : wrap64 ((a.length : Int) + 1) = ((a.length + 1 : Nat) : Int) := by unfold wrap64; omega
  have hp := two_pow_le s hs
  obtain ⟨r, r1, r2, r3, r4⟩ := shifted_loop a s hs hU (by omega) a.length 0 (by omega) (List.replicate (a.length + 1) 0) (by simp) (U_rep _) (by rw [getD_rep]; omega) (fun p _ => getD_rep _ _)
  refine ⟨r, Ev.congr (fun k => ?_) r1, r2, r3, ?_⟩
  · unfold nat_shifted.f
    rw [e, if_pos (by omega), if_pos (by omega), Int.toNat_natCast]
    rfl
  · rw [r4, lv_rep, Int.pow_zero, Int.one_mul, List.drop_zero, Int.zero_add, Int.mul_comm]
theorem minus_loop (a b : List Int) (hU : U a) (hV : U b) (hba : b.length ≤ a.length) (hn : a.length ≤ 140737488355328) :
    ∀ d i, i + d = a.length → ∀ (out : List Int) (c : Int), out.length = a.length → U out → (∀ p, i ≤ p → out.getD p 0 = 0) → 0 ≤ c ∧ c ≤ 1 →
      ∃ out' f, out'.length = a.length ∧ U out' ∧ 0 ≤ f ∧ f ≤ 1 ∧ lv out' = lv out + 4294967296 ^ i * (lv (a.drop i) - lv (b.drop i) - c) + 4294967296 ^ a.length * f ∧
        Ev (fun k => nat_minus.l0 k a b out c (a.length : Int) (i : Int)) (lim a.length (lv out'))
  | 0, i, hi, out, c, hl, hO, hz, hc => by
    refine ⟨out, c, hl, hO, hc.1, hc.2, ?_, ?_⟩
    · rw [List.drop_of_length_le (by omega), List.drop_of_length_le (by omega), lv, show i = a.length by omega, Int.sub_zero, Int.zero_sub, Int.mul_neg]
      omega
    · have := trim_ev _ out hl hn hO
      refine Ev.step (f := fun k => (nat_trim.f k out).bind fun t4 => some t4) (fun k => ?_) (Ev.bind this (Ev.now _))
      simp only [nat_minus.l0]
      rw [if_neg (by omega)]
  | d + 1, i, hi, out, c, hl, hO, hz, hc => by
    have e2 : wrap64 ((i : Int) + 1) = ((i + 1 : Nat) : Int) := by unfold wrap64; omega
    have ai := U_get hU i
    have bi := U_get hV i
    have hs : bits_Sub32.f (a.getD i 0) (b.getD i 0) c = some ((a.getD i 0 - b.getD i 0 - c) % 4294967296, if a.getD i 0 < b.getD i 0 + c then 1 else 0) := by
      unfold bits_Sub32.f
      rw [if_pos (by omega)]
    obtain ⟨x, hx⟩ : ∃ x, (a.getD i 0 - b.getD i 0 - c) % 4294967296 = x := ⟨_, rfl⟩
    obtain ⟨f, hf⟩ : ∃ f : Int, (if a.getD i 0 < b.getD i 0 + c then 1 else 0) = f := ⟨_, rfl⟩
    have hxf : a.getD i 0 - b.getD i 0 - c = x - 4294967296 * f ∧ 0 ≤ f ∧ f ≤ 1 := by
      rw [← hf, ← hx]
      split <;> omega
    rw [hx, hf] at hs
    obtain ⟨out', g, g1, g2, g3, g4, g5, g6⟩ := minus_loop a b hU hV hba hn d (i + 1) (by omega) (out.set i x) f (by simp [hl]) (U_set hO _ _ (by omega) (by omega))
      (fun p hp => by rw [getD_set _ _ _ _ (by omega), if_neg (by omega)]; exact hz p (by omega)) hxf.2
    refine ⟨out', g, g1, g2, g3, g4, ?_, Ev.step (fun k => ?_) g6⟩
    · rw [g5, lv_set _ _ _ (by omega), hz i (Nat.le_refl _), lv_drop_any a i, lv_drop_any b i, Int.pow_succ]
      clear g6 g5 hs hf hx
      generalize ((4294967296 : Int) ^ i) = p at *
      generalize ((4294967296 : Int) ^ a.length) * g = q at *
      generalize lv (a.drop (i + 1)) = u at *
      generalize lv (b.drop (i + 1)) = v at *
      generalize a.getD i 0 = s at *
      generalize b.getD i 0 = t at *
      rw [show s + 4294967296 * u - (t + 4294967296 * v) - c = x + 4294967296 * (u - v - f) by omega, Int.sub_zero, Int.mul_assoc, Int.mul_add]
      omega
    · have HS := Aside0.mk hs
      clear hs g5 g6 hx hf
      simp only [nat_minus.l0, rd_nat, e2, Int.toNat_natCast]
      by_cases hb : i < b.length
      · rw [if_pos (by omega), if_pos (by omega), if_pos (by omega), if_pos (by omega), HS.out]
        simp only [Option.bind_some]
        rw [if_pos (by omega)]
      · have hz : b.getD i 0 = 0 := by rw [List.getD_eq_getElem?_getD, List.getElem?_eq_none (by omega)]; rfl
        have hs := HS.out
        rw [hz] at hs
        rw [if_pos (by omega), if_neg (by omega), if_pos (by omega), if_pos (by omega), hs]
        simp only [Option.bind_some]
        rw [if_pos (by omega)]
theorem minus_ev (a b : List Int) (hU : U a) (hV : U b) (hba : b.length ≤ a.length) (hn : a.length ≤ 70368744177664) (hle : lv b ≤ lv a) : Ev (fun k => nat_minus.f k a b) (lim a.length (lv a - lv b)) := by
  obtain ⟨out', f, g1, g2, g3, g4, g5, g6⟩ := minus_loop a b hU hV hba (by omega) a.length 0 (by omega) (List.replicate a.length 0) 0 (by simp) (U_rep _) (fun p _ => getD_rep _ _) ⟨by decide, by decide⟩
  rw [lv_rep, List.drop_zero, List.drop_zero, Int.pow_zero, Int.one_mul, Int.sub_zero, Int.zero_add] at g5
  have h1 := lv_lt g2
  rw [g1] at h1
  have hf : f = 0 := by
    rcases (show f = 0 ∨ f = 1 by omega) with h | h
    · exact h
    · rw [h] at g5; omega
  rw [hf, Int.mul_zero, Int.add_zero] at g5
  rw [← g5]
  refine Ev.congr (fun k => ?_) g6
  unfold nat_minus.f
  rw [if_pos (by omega), if_pos (by omega), Int.toNat_natCast]
  rfl
theorem short_loop (a : List Int) (y : Int) (hy : 0 < y) (hy1 : y < 4294967296) (hU : U a) (hn : a.length ≤ 140737488355328) :
    ∀ j, j ≤ a.length → ∀ (out : List Int) (c : Int), out.length = a.length → U out → (∀ p, p < j → out.getD p 0 = 0) → 0 ≤ c ∧ c < y →
      ∃ out', out'.length = a.length ∧ U out' ∧ lv out' = lv out + (4294967296 ^ j * c + lv (a.take j)) / y ∧
        Ev (fun k => nat_short.l0 k a y out c ((j : Int) - 1)) (lim a.length (lv out'), (4294967296 ^ j * c + lv (a.take j)) % y)
  | 0, _, out, c, hl, hO, hz, hc => by
    rw [Int.pow_zero, Int.one_mul, List.take_zero, lv, Int.add_zero, Int.ediv_eq_zero_of_lt hc.1 hc.2, Int.add_zero, Int.emod_eq_of_lt hc.1 hc.2]
    refine ⟨out, hl, hO, rfl, ?_⟩
    have := trim_ev _ out hl hn hO
    refine Ev.step (f := fun k => (nat_trim.f k out).bind fun t8 => some (t8, c)) (fun k => ?_) (Ev.bind this (Ev.now _))
    simp only [nat_short.l0]
    rw [if_neg (by omega)]
  | j + 1, hj, out, c, hl, hO, hz, hc => by
    have e1 : (((j + 1 : Nat) : Int) - 1) = (j : Int) := by omega
    have e2 : wrap64 ((j : Int) - 1) = (j : Int) - 1 := by unfold wrap64; omega
    have aj := U_get hU j
    obtain ⟨cur, hcur⟩ : ∃ t, c * 4294967296 + a.getD j 0 = t := ⟨_, rfl⟩
    have hd : bits_Div32.f c (a.getD j 0) y = some (cur / y, cur % y) := by
      unfold bits_Div32.f
      rw [if_pos (by omega), hcur]
    have hq : cur / y < 4294967296 := by
      have h1 : (c + 1) * 4294967296 ≤ y * 4294967296 := Int.mul_le_mul_of_nonneg_right (by omega) (by omega)
      exact Int.ediv_lt_of_lt_mul hy (by rw [Int.mul_comm]; omega)
    have hq0 : 0 ≤ cur / y := Int.ediv_nonneg (by omega) (by omega)
    have hr0 := Int.emod_nonneg cur (show y ≠ 0 by omega)
    have hr1 := Int.emod_lt_of_pos cur hy
    have hqr := Int.mul_ediv_add_emod cur y
    obtain ⟨out', g1, g2, g3, g4⟩ := short_loop a y hy hy1 hU hn j (by omega) (out.set j (cur / y)) (cur % y) (by simp [hl]) (U_set hO _ _ hq0 hq)
      (fun p hp => by rw [getD_set _ _ _ _ (by omega), if_neg (by omega)]; exact hz p (by omega)) ⟨hr0, hr1⟩
    have key : 4294967296 ^ (j + 1) * c + lv (a.take (j + 1)) = (4294967296 ^ j * (cur % y) + lv (a.take j)) + y * (4294967296 ^ j * (cur / y)) := by
      rw [lv_take_succ a j (by omega), Int.pow_succ]
      generalize ((4294967296 : Int) ^ j) = p at *
      have h2 : p * cur = p * (y * (cur / y) + cur % y) := by rw [hqr]
      rw [← hcur, Int.mul_add, Int.mul_add, hcur] at h2
      rw [Int.mul_left_comm y, Int.mul_assoc, Int.mul_comm 4294967296 c]
      omega
    rw [key, Int.add_mul_ediv_left _ _ (by omega), Int.add_mul_emod_self_left]
    refine ⟨out', g1, g2, ?_, Ev.step (fun k => ?_) g4⟩
    · rw [g3, lv_set _ _ _ (by omega), hz j (by omega), Int.sub_zero]
      omega
    · have HD := Aside0.mk hd
      clear hd key g3 g4 hqr
      simp only [nat_short.l0, e1, e2, rd_nat, Int.toNat_natCast]
      rw [if_pos (by omega), if_pos (by omega), if_pos (by omega), HD.out]
      simp only [Option.bind_some]
      rw [if_pos (by omega)]
theorem short_ev (a : List Int) (y : Int) (hy : 0 < y) (hy1 : y < 4294967296) (hU : U a) (hn : a.length ≤ 70368744177664) :
    Ev (fun k => nat_short.f k a y) (lim a.length (lv a / y), lv a % y) := by
  obtain ⟨out', g1, g2, g3, g4⟩ := short_loop a y hy hy1 hU (by omega) a.length (Nat.le_refl _) (List.replicate a.length 0) 0 (by simp) (U_rep _) (fun p _ => getD_rep _ _) ⟨by decide, hy⟩
  rw [Int.mul_zero, Int.zero_add, List.take_of_length_le (Nat.le_refl _)] at g4
  rw [lv_rep, Int.mul_zero, Int.zero_add, Int.zero_add, List.take_of_length_le (Nat.le_refl _)] at g3
  rw [g3] at g4
  refine Ev.congr (fun k => ?_) g4
  have e : wrap64 ((a.length : Int) - 1) = (a.length : Int) - 1 := by unfold wrap64; omega
  unfold nat_short.f
  rw [e, if_pos (by omega), if_pos (by omega), Int.toNat_natCast]
end Go.Proofs.YtioofhilohmfbaaGreatDoor.P
end
section
set_option linter.unusedVariables false
namespace Go.Proofs.YtioofhilohmfbaaGreatDoor.P
open Go Go.RowKit Go.Proofs.YtioofhilohmfbaaGreatDoorW.PrintWords Go.Proofs.YtioofhilohmfbaaGreatDoorW.PrintLast Go.Proofs.YtioofhilohmfbaaGreatDoorW.PrintMore
/-- How far a divisor is shifted up. -/
def upOf (x : Int) : Nat := 32 - Lib.bitLen x.toNat
theorem up_lt (x : Int) (h0 : 0 < x) (h1 : x < 4294967296) : upOf x < 32 ∧ Lib.bitLen x.toNat ≤ 32 ∧ x * 2 ^ upOf x < 4294967296 ∧ (x + 1) * 2 ^ upOf x ≤ 4294967296 := by
  have e64 : (2 : Nat) ^ 64 = 18446744073709551616 := by decide
  have e32 : (2 : Nat) ^ 32 = 4294967296 := by decide
  have hb := Lib.bitLenAux_bounds 64 x.toNat (by omega) (by omega)
  have hl : Lib.bitLen x.toNat ≤ 32 := Lib.bitLen_le x.toNat 32 (by decide) (by omega)
  have h1 : 1 ≤ Lib.bitLen x.toNat := hb.1
  have h2 : x.toNat < 2 ^ Lib.bitLen x.toNat := hb.2.2
  have hu : Lib.bitLen x.toNat + upOf x = 32 := by unfold upOf; omega
  have hp : 0 < 2 ^ upOf x := Nat.two_pow_pos _
  have h3 : (x.toNat + 1) * 2 ^ upOf x ≤ 4294967296 := by
    have : (x.toNat + 1) * 2 ^ upOf x ≤ 2 ^ Lib.bitLen x.toNat * 2 ^ upOf x := Nat.mul_le_mul_right _ h2
    rw [← Nat.pow_add, hu] at this
    exact this
  have e : (x + 1) * 2 ^ upOf x ≤ 4294967296 := by
    have h4 : ((x.toNat + 1) * 2 ^ upOf x : Nat) ≤ (4294967296 : Int) := by omega
    rw [Int.natCast_mul] at h4
    simp only [Int.natCast_pow, Int.natCast_add] at h4
    rw [Int.toNat_of_nonneg (by omega)] at h4
    exact h4
  have hp' : (0 : Int) < 2 ^ upOf x := Int.pow_pos (by decide)
  refine ⟨by omega, hl, ?_, e⟩
  rw [Int.add_mul, Int.one_mul] at e
  omega
/-- A number's limbs, of which it has just so many. -/
theorem lim_full {n k : Nat} {v : Int} (h0 : 4294967296 ^ (n - 1) ≤ v) (h1 : v < 4294967296 ^ n) (hn : 0 < n) (hk : n ≤ k) : (lim k v).length = n ∧ lv (lim k v) = v ∧ Tr (lim k v) ∧ U (lim k v) := by
  have hp := pow_pos (n - 1)
  have h2 : v < 4294967296 ^ k := Int.lt_of_lt_of_le h1 (pow_le hk)
  have hv := lim_lv k v (by omega) h2
  refine ⟨?_, hv, lim_Tr k v (by omega) h2, lim_U k v⟩
  have h3 := lim_len_le (by omega) h2 h1
  have h4 := lv_lt (lim_U k v)
  rw [hv] at h4
  rcases Nat.lt_or_ge (lim k v).length n with h | h
  · have := pow_le (show (lim k v).length ≤ n - 1 by omega)
    omega
  · omega
/-- The divisor, shifted up, has as1 many limbs. -/
theorem divisor_up (b : List Int) (hU : U b) (ht : Tr b) (n : Nat) (hn : b.length = n + 1) :
    0 < b.getD n 0 ∧ 4294967296 ^ n ≤ lv b * 2 ^ upOf (b.getD n 0) ∧ lv b * 2 ^ upOf (b.getD n 0) < 4294967296 ^ (n + 1) := by
  have hx := U_get hU n
  have hx0 : 0 < b.getD n 0 := by
    have := (Tr_last hn).1 ht
    omega
  have hup := up_lt (b.getD n 0) hx0 hx.2
  have hp' : (0 : Int) < 2 ^ upOf (b.getD n 0) := Int.pow_pos (by decide)
  have hl := lv_lower hU ht (fun e => by rw [e] at hn; simp at hn)
  rw [hn, Nat.add_sub_cancel] at hl
  have ht := lv_take_succ b n (by omega)
  rw [List.take_of_length_le (by omega)] at ht
  have h1 := lv_lt (U_take hU n)
  rw [List.length_take, Nat.min_eq_left (by omega)] at h1
  have h2 := lv_nonneg (U_take hU n)
  have h3 := pow_pos n
  refine ⟨hx0, ?_, ?_⟩
  · have := Int.mul_le_mul_of_nonneg_left (show (1 : Int) ≤ 2 ^ upOf (b.getD n 0) by omega) (show 0 ≤ lv b by omega)
    rw [Int.mul_one] at this
    omega
  · have h4 : lv b + 1 ≤ 4294967296 ^ n * (b.getD n 0 + 1) := by rw [Int.mul_add]; omega
    have h5 := Int.mul_le_mul_of_nonneg_right h4 (Int.le_of_lt hp')
    rw [Int.mul_assoc, Int.add_mul, Int.one_mul] at h5
    have h6 := Int.mul_le_mul_of_nonneg_left hup.2.2.2 (Int.le_of_lt h3)
    rw [Int.pow_succ]
    omega
/-- What stands at the head of a round: t digits are still to come. -/
structure DivSt (N y : Int) (m n t : Nat) (L Q : List Int) : Prop where
  lL : L.length = m + 1
  uL : U L
  lQ : Q.length = m - n + 1
  uQ : U Q
  zero : ∀ p, p < t → Q.getD p 0 = 0
  val : lv L + y * lv Q = N
  lt : lv L < y * 4294967296 ^ t
theorem part_facts {N y : Int} {m n t : Nat} {L Q : List Int} (h : DivSt N y m n (t + 1) L Q) (hy : y < 4294967296 ^ n) (hy0 : 0 < y) (ht : t + n ≤ m) :
    ((L.take (t + n + 1)).drop t).length = n + 1 ∧ U ((L.take (t + n + 1)).drop t) ∧ lv L = lv (L.take t) + 4294967296 ^ t * lv ((L.take (t + n + 1)).drop t) ∧ lv ((L.take (t + n + 1)).drop t) < y * 4294967296 ∧ (∀ p, t + n + 1 ≤ p → L.getD p 0 = 0) ∧ lv (L.drop (t + n + 1)) = 0 := by
  have hl : ((L.take (t + n + 1)).drop t).length = n + 1 := by rw [List.length_drop, List.length_take, h.lL]; omega
  have hu : U ((L.take (t + n + 1)).drop t) := U_drop (U_take h.uL _) _
  have e1 := lv_take_drop L (t + n + 1) (by rw [h.lL]; omega)
  have e2 := lv_take_drop (L.take (t + n + 1)) t (by rw [List.length_take, h.lL]; omega)
  rw [List.take_take, Nat.min_eq_left (by omega)] at e2
  have n1 := lv_nonneg (U_drop h.uL (t + n + 1))
  have n2 := lv_nonneg (U_take h.uL t)
  have n3 := lv_nonneg hu
  have n4 := lv_nonneg (U_take h.uL (t + n + 1))
  have hlt := h.lt
  have hp := pow_pos (t + n + 1)
  have hpt := pow_pos t
  have hb : y * 4294967296 ^ (t + 1) < 4294967296 ^ (t + n + 1) := by
    have := Int.mul_lt_mul_of_pos_right hy (pow_pos (t + 1))
    rw [← Int.pow_add] at this
    rwa [show t + n + 1 = n + (t + 1) by omega]
  have hz : lv (L.drop (t + n + 1)) = 0 := by
    rcases Int.lt_or_le 0 (lv (L.drop (t + n + 1))) with h0 | h0
    · have := Int.mul_le_mul_of_nonneg_left (show (1 : Int) ≤ lv (L.drop (t + n + 1)) by omega) (Int.le_of_lt hp)
      rw [Int.mul_one] at this
      omega
    · omega
  rw [hz, Int.mul_zero, Int.add_zero, e2] at e1
  refine ⟨hl, hu, e1, ?_, fun p hp => ?_, hz⟩
  · rcases Int.lt_or_le (lv ((L.take (t + n + 1)).drop t)) (y * 4294967296) with h0 | h0
    · exact h0
    · have := Int.mul_le_mul_of_nonneg_left h0 (Int.le_of_lt hpt)
      rw [Int.pow_succ, Int.mul_left_comm y] at hlt
      omega
  · have : ∀ (l : List Int), U l → lv l = 0 → ∀ j, l.getD j 0 = 0 := by
      intro l
      induction l with
      | nil => intro _ _ j; rfl
      | cons x l ih =>
        intro hU hv j
        have h1 := U_cons.1 hU
        have h2 := lv_nonneg h1.2
        rw [lv] at hv
        cases j with
        | zero => simp; omega
        | succ j => rw [List.getD_cons_succ]; exact ih h1.2 (by omega) j
    have h5 := this _ (U_drop h.uL (t + n + 1)) hz (p - (t + n + 1))
    rw [List.getD_eq_getElem?_getD, List.getElem?_drop] at h5
    rw [List.getD_eq_getElem?_getD]
    rwa [show t + n + 1 + (p - (t + n + 1)) = p by omega] at h5
/-- The first guess is no less than the digit. -/
theorem guess_ge {y V top c : Int} {n : Nat} (hy0 : 0 < y) (hc0 : 0 < c) (hyc : 4294967296 ^ n * c ≤ y) (hV0 : 0 ≤ V) (hVt : V < 4294967296 ^ n * (top + 1)) : V / y ≤ top / c := by
  have hd := Int.mul_ediv_self_le (x := V) (k := y) (by omega)
  have hd0 : 0 ≤ V / y := Int.ediv_nonneg hV0 (by omega)
  have h1 := Int.mul_le_mul_of_nonneg_right hyc hd0
  have hp := pow_pos n
  rw [Int.mul_assoc] at h1
  have h2 : 4294967296 ^ n * (c * (V / y)) < 4294967296 ^ n * (top + 1) := by omega
  have h3 := Int.lt_of_mul_lt_mul_left h2 (Int.le_of_lt hp)
  exact Int.le_ediv_of_mul_le hc0 (by rw [Int.mul_comm]; omega)
/-- A round's end. -/
theorem round_end {N y : Int} {m n t : Nat} {L Q : List Int} (h : DivSt N y m n (t + 1) L Q) (hy : y < 4294967296 ^ n) (hy0 : 0 < y) (ht : t + n ≤ m) (hnm : n ≤ m) (R : List Int) (hR : R.length = n + 1) (hRU : U R)
    (hRv : lv R = lv ((L.take (t + n + 1)).drop t) % y) :
    DivSt N y m n t (L.take t ++ (R ++ L.drop (t + n + 1))) (Q.set t (lv ((L.take (t + n + 1)).drop t) / y)) := by
  obtain ⟨f1, f2, f3, f4, f5, f6⟩ := part_facts h hy hy0 ht
  obtain ⟨V, hV⟩ : ∃ V, lv ((L.take (t + n + 1)).drop t) = V := ⟨_, rfl⟩
  have n3 := lv_nonneg f2
  rw [hV] at f3 f4 hRv n3 ⊢
  have hlL := h.lL
  have hd0 : 0 ≤ V / y := Int.ediv_nonneg n3 (by omega)
  have hd1 : V / y < 4294967296 := Int.ediv_lt_of_lt_mul hy0 (by rw [Int.mul_comm]; exact f4)
  have hr0 := Int.emod_nonneg V (show y ≠ 0 by omega)
  have hr1 := Int.emod_lt_of_pos V hy0
  have hqr := Int.mul_ediv_add_emod V y
  have hlt : (L.take t).length = t := by rw [List.length_take]; omega
  have hval : lv (L.take t ++ (R ++ L.drop (t + n + 1))) = lv (L.take t) + 4294967296 ^ t * (V % y) := by
    rw [lv_app, lv_app, f6, Int.mul_zero, Int.add_zero, hlt, hRv]
  refine ⟨by simp [hR]; omega, U_app.2 ⟨U_take h.uL t, U_app.2 ⟨hRU, U_drop h.uL _⟩⟩, by rw [List.length_set]; exact h.lQ, U_set h.uQ t _ hd0 hd1, fun p hp => ?_, ?_, ?_⟩
  · rw [getD_set _ _ _ _ (by rw [h.lQ]; omega), if_neg (by omega)]
    exact h.zero p (by omega)
  · have hv := h.val
    rw [hval, lv_set _ _ _ (by rw [h.lQ]; omega), h.zero t (by omega), Int.sub_zero, Int.mul_add y, Int.mul_left_comm y]
    have h5 : 4294967296 ^ t * V = 4294967296 ^ t * (y * (V / y)) + 4294967296 ^ t * (V % y) := by rw [← Int.mul_add, hqr]
    omega
  · rw [hval]
    have h1 := lv_lt (U_take h.uL t)
    rw [hlt] at h1
    have h2 := Int.mul_le_mul_of_nonneg_left (show V % y + 1 ≤ y by omega) (Int.le_of_lt (pow_pos t))
    rw [Int.mul_add, Int.mul_one, Int.mul_comm _ y] at h2
    omega
theorem div_start {a b A0 Q : List Int} {m n s : Nat} (hU : U a) (hV : U b) (hm : a.length = m) (hn : 0 < n) (hnm : n ≤ m) (hb0 : 4294967296 ^ (n - 1) ≤ lv b)
    (hl : A0.length = m + 1) (hA : U A0) (hv : lv A0 = lv a * 2 ^ s) (hQ : Q = List.replicate (m - n + 1) 0) : DivSt (lv a * 2 ^ s) (lv b * 2 ^ s) m n (m - n + 1) A0 Q := by
  subst hQ
  refine ⟨hl, hA, by simp, U_rep _, fun p _ => getD_rep _ _, by rw [lv_rep, Int.mul_zero, Int.add_zero, hv], ?_⟩
  rw [hv]
  have h1 := lv_lt hU
  rw [hm] at h1
  have hp : (0 : Int) < 2 ^ s := Int.pow_pos (by decide)
  have h2 : (4294967296 : Int) ^ m ≤ lv b * 4294967296 ^ (m - n + 1) := by
    have := Int.mul_le_mul_of_nonneg_right hb0 (Int.le_of_lt (pow_pos (m - n + 1)))
    rw [← Int.pow_add, show n - 1 + (m - n + 1) = m by omega] at this
    exact this
  rw [Int.mul_right_comm]
  exact Int.mul_lt_mul_of_pos_right (by omega) hp
theorem div_done {a b : Int} {m n s : Nat} {L Q : List Int} (hb : 0 < b) (h : DivSt (a * 2 ^ s) (b * 2 ^ s) m n 0 L Q) : lv Q = a / b ∧ lv L = (a % b) * 2 ^ s := by
  have hp : (0 : Int) < 2 ^ s := Int.pow_pos (by decide)
  have h1 := h.val
  have h2 := h.lt
  rw [Int.pow_zero, Int.mul_one] at h2
  have h3 := lv_nonneg h.uL
  have hy : (0 : Int) < b * 2 ^ s := Int.mul_pos hb hp
  have hq : lv Q = (a * 2 ^ s) / (b * 2 ^ s) := by
    rw [← h1, Int.add_mul_ediv_left _ _ (by omega), Int.ediv_eq_zero_of_lt h3 h2, Int.zero_add]
  have hr : lv L = (a * 2 ^ s) % (b * 2 ^ s) := by
    rw [← h1, Int.add_mul_emod_self_left, Int.emod_eq_of_lt h3 h2]
  rw [Int.mul_comm a, Int.mul_comm b] at hq hr
  rw [Int.mul_ediv_mul_of_pos _ _ hp] at hq
  rw [Int.mul_emod_mul_of_pos _ _ hp] at hr
  exact ⟨hq, by rw [hr, Int.mul_comm]⟩
/-- One limb of what is left, shifted down. -/
theorem down_limb {L : List Int} (hU : U L) (i s : Nat) (hs : s < 32) : ((L.getD (i + 1) 0 * 4294967296 + L.getD i 0) / 2 ^ s) % 4294967296 = lv (L.drop i) / 2 ^ s % 4294967296 := by
  have hp := two_pow_le s hs
  rw [lv_drop_any L i, lv_drop_any L (i + 1)]
  generalize lv (L.drop (i + 1 + 1)) = z
  generalize L.getD (i + 1) 0 = x
  generalize L.getD i 0 = y
  have e : (2 : Int) ^ s * 2 ^ (32 - s) = 4294967296 := by
    rw [← Int.pow_add, show s + (32 - s) = 32 by omega]; decide
  have e2 : y + 4294967296 * (x + 4294967296 * z) = (x * 4294967296 + y) + 2 ^ s * (2 ^ (32 - s) * (4294967296 * z)) := by
    rw [← Int.mul_assoc (2 ^ s), e]; omega
  rw [e2, Int.add_mul_ediv_left _ _ (by omega), Int.mul_left_comm, Int.add_mul_emod_self_left]
/-- What has been shifted down till now. -/
theorem down_step {L R : List Int} {n i s : Nat} (hU : U L) (hs : s < 32) (hR : R.length = n) (hi : i < n) (hz : ∀ p, i ≤ p → R.getD p 0 = 0) (hv : lv R = lv L / 2 ^ s % 4294967296 ^ i) (hL : i ≤ L.length) :
    lv (R.set i (lv (L.drop i) / 2 ^ s % 4294967296)) = lv L / 2 ^ s % 4294967296 ^ (i + 1) := by
  rw [lv_set _ _ _ (by omega), hz i (Nat.le_refl _), Int.sub_zero, hv]
  have hp : (0 : Int) < 2 ^ s := Int.pow_pos (by decide)
  have hB := pow_pos i
  have e : lv (L.drop i) / 2 ^ s = lv L / 2 ^ s / 4294967296 ^ i := by
    rw [Int.ediv_ediv_of_nonneg (by omega), Int.mul_comm, ← Int.ediv_ediv_of_nonneg (by omega)]
    have h1 := lv_take_drop L i hL
    have h2 := lv_lt (U_take hU i)
    rw [List.length_take, Nat.min_eq_left hL] at h2
    rw [h1, Int.add_mul_ediv_left _ _ (by omega), Int.ediv_eq_zero_of_lt (lv_nonneg (U_take hU i)) h2, Int.zero_add]
  rw [e, Int.pow_succ]
  generalize lv L / 2 ^ s = x
  generalize ((4294967296 : Int) ^ i) = p at *
  have h1 := Int.mul_ediv_add_emod x p
  have h2 := Int.mul_ediv_add_emod (x / p) 4294967296
  have h3 := Int.emod_nonneg x (show p ≠ 0 by omega)
  have h4 := Int.emod_lt_of_pos x hB
  have h5 := Int.emod_nonneg (x / p) (show (4294967296 : Int) ≠ 0 by decide)
  have h6 := Int.emod_lt_of_pos (x / p) (show (0 : Int) < 4294967296 by decide)
  have h7 : x = (x % p + p * (x / p % 4294967296)) + p * 4294967296 * (x / p / 4294967296) := by
    have h8 : p * (x / p) = p * (4294967296 * (x / p / 4294967296)) + p * (x / p % 4294967296) := by rw [← Int.mul_add, h2]
    rw [Int.mul_assoc]
    omega
  have h9 : x % p + p * (x / p % 4294967296) < p * 4294967296 := by
    have := Int.mul_le_mul_of_nonneg_left (show x / p % 4294967296 + 1 ≤ 4294967296 by omega) (Int.le_of_lt hB)
    rw [Int.mul_add, Int.mul_one] at this
    omega
  have h10 : 0 ≤ x % p + p * (x / p % 4294967296) := by
    have := Int.mul_nonneg (Int.le_of_lt hB) h5
    omega
  conv => rhs; rw [h7, Int.add_mul_emod_self_left, Int.emod_eq_of_lt h10 h9]
end Go.Proofs.YtioofhilohmfbaaGreatDoor.P
end
section
set_option linter.unusedVariables false
set_option linter.unusedSimpArgs false
namespace Go.Proofs.YtioofhilohmfbaaGreatDoor.P
open Go Go.RowKit Go.Proofs.YtioofhilohmfbaaGreatDoorW.PrintWords Go.Proofs.YtioofhilohmfbaaGreatDoorW.PrintLast Go.Proofs.YtioofhilohmfbaaGreatDoorW.PrintMore
set_option maxRecDepth 100000 in
set_option maxHeartbeats 1000000 in
theorem trim_same (k : Nat) (A0 : Option Addr) (c0 : Nat) (l0 : List Int) (r : List Int) (w : World) (hr0 : Kd.C (Kd.int .u32) w A0 l0.length l0) (hc0 : l0.length ≤ c0) (h : nat_trim.f k l0 = some r) :
    Calls Tryz.prog 167 #[.slice A0 l0.length c0] w fun e w' => ∃ m : Nat, e = .returned (.slice A0 m c0) ∧ (m ≤ l0.length ∧ r = l0.take m) ∧ Below w.heap.size w w' := by
  have HR0 := Aside0.mk hr0
  have HC0 := Aside0.mk hc0
  have H' := Aside0.mk (show nat_trim.l0 k (l0.take l0.length) = some r by rw [List.take_length]; exact h)
  clear hr0 hc0 h
  have HB := Aside0.mk (Below.refl w.heap.size w)
  go_enter Tryz.func167, Tryz.ntmps167
  go_wp2
  go_loopg [0] k (fun kq v0 w' => ∃ (m : Nat), v0 = .slice A0 m c0 ∧ Aside0 (m ≤ l0.length ∧ nat_trim.l0 kq (l0.take m) = some r) ∧ Aside0 (Below w.heap.size w w'))
  case atStart => exact ⟨l0.length, rfl, ⟨Nat.le_refl _, H'.out⟩, HB⟩
  case round =>
    clear H' HB
    obtain ⟨m, rfl, HM, HB⟩ := hrel
    have hlen : (l0.take m).length = m := by rw [List.length_take]; have := HM.out.1; omega
    have hmx : m ≤ 9223372036854775807 := by have := (Kd.C_max HR0.out); have := HM.out.1; omega
    cases gk with
    | zero => exact absurd HM.out.2 (by simp [nat_trim.l0])
    | succ k1 =>
      have H := HM.out.2
      simp only [nat_trim.l0, hlen] at H
      have HL := Aside0.mk hlen
      clear hlen
      by_cases c2 : (m : Int) > 0
      · rw [if_pos c2] at H
        have c2b0 : decide (0 < (m : Int)) = true := decide_eq_true c2
        have c2b1 : decide (0 < m) = true := decide_eq_true (by omega)
        obtain ⟨j, hj⟩ : ∃ j_ : Int, (wrap64 ((m : Int) - 1)) = j_ := ⟨_, rfl⟩
        have hjm : j = (m : Int) - 1 := by rw [← hj]; unfold wrap64; omega
        have hjw : (IntKind.i64.wrap ((m : Int) - 1)) = j := (i64_w _).trans hj
        rw [hj, if_pos (by omega), if_pos (by omega)] at H
        have p0 : 0 ≤ j := by omega
        have q0 : j < (m : Int) := by omega
        obtain ⟨ad, e, hx⟩ := Kd.at_int HR0.out j p0 (by have := HM.out.1; omega)
        cases e
        replace hx := (HB.out.cell (World.block_lt_of_cell? w _ hx)).trans hx
        have hrd : rd (l0.take m) j = rd l0 j := by
          unfold rd
          rw [List.getD_eq_getElem?_getD, List.getElem?_take_of_lt (by omega), List.getD_eq_getElem?_getD]
        rw [hrd] at H
        by_cases c6 : rd l0 j = 0
        · rw [if_pos c6, if_pos (by omega), List.take_take, Nat.min_eq_left (by omega)] at H
          have c6b0 : ((rd l0 j) == 0) = true := beq_iff_eq.mpr c6
          have c6b1 : ((rd l0 j) != 0) = false := bne_eq_false_iff_eq.mpr c6
          have c4b0 : decide (0 ≤ j) = true := decide_eq_true p0
          have c5b0 : decide (j < (m : Int)) = true := decide_eq_true q0
          have c7b0 : decide (j ≤ (m : Int)) = true := decide_eq_true (by omega)
          have c8b0 : (j ≤ (m : Int)) = True := eq_true (by omega)
          have p1 : (0 ≤ j) = True := eq_true p0
          have q1 : (j < (m : Int)) = True := eq_true q0
          obtain ⟨i0, hi0, _, hsz, _⟩ := info_parts info109
          have hcut := cut_to (P := Tryz.prog) 39 109 .i64 Tryz.underlying39 hi0 (some ad) m c0 j p0 (by omega) (by have := HM.out.1; have := HC0.out; omega)
          have HN : Aside0 (j.toNat ≤ l0.length ∧ nat_trim.l0 k1 (l0.take j.toNat) = some r) := ⟨by have := HM.out.1; omega, H⟩
          clear H hi0 hsz c6 hrd hjm c2 hj p0 q0
          go_wp2
          go_roundg k1
          case measure => omega
          case rel => exact ⟨j.toNat, rfl, HN, HB⟩
        · rw [if_neg c6] at H
          have c6b0 : ((rd l0 j) == 0) = false := beq_eq_false_iff_ne.mpr c6
          have c6b1 : ((rd l0 j) != 0) = true := bne_iff_ne.mpr c6
          have c4b0 : decide (0 ≤ j) = true := decide_eq_true p0
          have c5b0 : decide (j < (m : Int)) = true := decide_eq_true q0
          have p1 : (0 ≤ j) = True := eq_true p0
          have q1 : (j < (m : Int)) = True := eq_true q0
          have HN : Aside0 (m ≤ l0.length ∧ r = l0.take m) := ⟨HM.out.1, (Option.some.inj H).symm⟩
          clear H hrd hjm c2 hj p0 q0
          go_wp2
          go_ret
          exact ⟨m, rfl, HN.out, HB.out⟩
      · rw [if_neg c2] at H
        have c2b0 : decide (0 < (m : Int)) = false := decide_eq_false c2
        have c2b1 : decide (0 < m) = false := decide_eq_false (by omega)
        have HN : Aside0 (m ≤ l0.length ∧ r = l0.take m) := ⟨HM.out.1, (Option.some.inj H).symm⟩
        clear H c2
        go_wp2
        go_ret
        exact ⟨m, rfl, HN.out, HB.out⟩
theorem R_cut {e : Nat} {w : World} {base : Nat} {ok : Nat → Prop} {A : Option Addr} {n c m : Nat} {xs r : List Int} (h : Kd.R (Kd.int .u32) e w base ok (.slice A n c) xs) (hm : m ≤ xs.length ∧ r = xs.take m) : Kd.R (Kd.int .u32) e w base ok (.slice A m c) r := by
  rw [hm.2]
  exact Kd.R_take h hm.1
theorem take_mid {β : Type} (c es : List β) (off k len : Nat) (h : es.length = k) (h1 : off + k ≤ len) (h2 : len ≤ c.length) : (c.take off ++ es ++ c.drop (off + k)).take len = c.take off ++ (es ++ (c.drop (off + k)).take (len - (off + k))) := by
  have hl : (c.take off ++ es).length = off + k := by rw [List.length_append, List.length_take, h]; omega
  rw [List.take_append, hl, List.take_of_length_le (by omega), List.append_assoc]
section
variable {P : Program} {ops : Array Oper} {rest : List Oper} {o : Oper} {a : Act} {Q : Exit → Act → World → Prop} {α : Type}
/-- copy(v[off:off+k], ys), v a row of scalars of one's own. -/
theorem R_copy_at {enc : α → Value} {h1 : ∀ x, (enc x).oneCell' = true} (d : α) {w0 W : World} (base : Nat) (hgd : o.guard = none) (s x : Operand) (t t' e : TypeId)
    (ho : o.op = .call { callee := .builtin .copy, args := #[s, x], argTypes := #[t, t'] }) (ht : P.underlying t = some (.slice e)) (hinfo : (P.info? e).map (·.size) = some 1)
    (g off dLen dCap n cap : Nat) (xs ys : List α) (A : Option Addr) (m c : Nat) (ok : Nat → Prop) (hs : a.eval s = .slice (some ⟨g, off, none⟩) dLen dCap) (hx : a.eval x = .slice A m c)
    (HO : (Kd.scalar enc h1).R e W base ok (.slice (some ⟨g, 0, none⟩) n cap) xs) (HR : (Kd.scalar enc h1).C W A m ys) (HB : Below base w0 W) (hbase : base ≤ W.heap.size) (hfit : off + dLen ≤ xs.length)
    (h : ∀ w1, (Kd.scalar enc h1).R e w1 base ok (.slice (some ⟨g, 0, none⟩) n cap) (xs.take off ++ (ys.take (min m dLen) ++ xs.drop (off + min m dLen))) → Below base w0 w1 → W.grownBy w1 (some g) → wpList P ops Q rest (a.put o.dst (.int .i64 ((min m dLen : Nat) : Int))) w1) :
    wpList P ops Q (o :: rest) a W := by
  have hR := Kd.reads_of_C (enc := enc) (d := d) (h1 := h1) HR
  have hm : ys.length = m := hR.1
  have hown := Kd.own_of_R HO
  have fin : ∀ w1, (Builtin.copy_ #[t, t'] o.type #[.slice (some ⟨g, off, none⟩) dLen dCap, .slice A m c]).run P W = .ok (goInt ((min m dLen : Nat) : Int)) w1 → (Kd.scalar enc h1).R e w1 base ok (.slice (some ⟨g, 0, none⟩) n cap) (xs.take off ++ (ys.take (min m dLen) ++ xs.drop (off + min m dLen))) → W.grownBy w1 (some g) → wpList P ops Q (o :: rest) a W := by
    intro w1 hr hrow hg
    refine wpList_plain hgd fun K hK => ?_
    unfold Oper.wp execOp
    simp only [ho, resolve, invoke, builtin, Sem.run_bind, Sem.run_pure, Result.andThen_ok, List.map_toArray, List.map_cons, List.map_nil, hs, hx, hr]
    exact hK _ _ (h w1 hrow (HB.grown hg hbase (own_base hown)) hg)
  rcases Nat.eq_zero_or_pos (min m dLen) with h0 | hp
  · refine fin W ?_ (by rw [h0, List.take_zero, List.nil_append, Nat.add_zero, List.take_append_drop]; exact HO) (World.grownBy.refl W _)
    rw [h0]
    exact run_copy_none W t t' o.type e (some ⟨g, off, none⟩) A dLen dCap m c ht hinfo h0
  · obtain ⟨ad, hA, hc⟩ := hR.2.2 (by omega)
    rcases hown.2 with ⟨hv0, _⟩ | ⟨g', cap', cur, hv, hb, hh, hnc, hcm, hcs, htake⟩
    · cases hv0
    injection hv with hv1 hv2 hv3
    injection hv1 with hv1
    injection hv1 with hv1
    subst hv1 hv3
    have hcs1 : cur.size = cap := by omega
    have hsrc : ∀ j u, (encs enc (ys.take (min m dLen)))[j]? = some u → W.cell? (ad.add j) = some u := by
      intro j u hu
      have hj : j < (ys.take (min m dLen)).length := by
        rcases Nat.lt_or_ge j (ys.take (min m dLen)).length with h | h
        · exact h
        · rw [List.getElem?_eq_none (by rw [encs_length]; exact h)] at hu
          cases hu
      have hjm : j < min m dLen := by rw [List.length_take] at hj; omega
      rw [encs_get (d := d) _ j hj] at hu
      rw [hc j (by omega), ← hu]
      simp [List.getD_eq_getElem?_getD, hjm]
    have hkl : (encs enc (ys.take (min m dLen))).length = min m dLen := by rw [encs_length, List.length_take]; omega
    have hr := run_copy_cells (P := P) W t t' o.type e g off dLen dCap ad m c (encs enc (ys.take (min m dLen))) ht hinfo (by rw [hkl]) hsrc
      (fun j hj => by rw [cell_of_row W g _ cur e (0, 0) hh]; simp; omega) (fun j _ => blk_frozen hh _) (by intro u hu; simp only [encs, List.mem_map] at hu; obtain ⟨q, _, rfl⟩ := hu; exact h1 q)
    obtain ⟨cur', h3, h4, h5⟩ := setCells_row (encs enc (ys.take (min m dLen))) off W cur hh (by rw [hkl]; omega)
    obtain ⟨s1, s2, s3, s4⟩ := setCells_same g (encs enc (ys.take (min m dLen))) off W
    refine fin _ (by rw [hA, hr, hkl]) (Kd.R_of_own ?_ HO.1) ⟨s1, s2, s3, by rw [s4]; exact Nat.le_refl _, fun k _ hk => setCells_far _ _ k (fun he => hk (by rw [he]))⟩
    have hln : (xs.take off ++ (ys.take (min m dLen) ++ xs.drop (off + min m dLen))).length = xs.length := by
      rw [List.length_append, List.length_append, List.length_take, List.length_take, List.length_drop]
      omega
    rw [hln]
    refine ⟨by rw [encs_length, hln, Nat.mul_one], .inr ⟨g, cap, cur', by rw [hv2], hb, h3, hnc, hcm, by rw [h4, hcs], ?_⟩⟩
    have htk : cur.toList.take xs.length = encs enc xs := by rw [← htake, Nat.mul_one]
    have hcl : xs.length ≤ cur.toList.length := by have := Array.length_toList (xs := cur); omega
    have e1 : encs enc (xs.take off) = cur.toList.take off := by
      rw [show encs enc (xs.take off) = (encs enc xs).take off by simp [encs, List.map_take], ← htk, List.take_take, Nat.min_eq_left (by omega)]
    have e2 : encs enc (xs.drop (off + min m dLen)) = (cur.toList.drop (off + min m dLen)).take (xs.length - (off + min m dLen)) := by
      rw [show encs enc (xs.drop (off + min m dLen)) = (encs enc xs).drop (off + min m dLen) by simp [encs, List.map_drop], ← htk, List.drop_take]
    rw [h5, encs_append, encs_append, e1, e2, hkl, Nat.mul_one]
    exact take_mid _ _ _ _ _ hkl (by omega) hcl
end
end Go.Proofs.YtioofhilohmfbaaGreatDoor.P
end
section
namespace Go.Proofs.YtioofhilohmfbaaGreatDoor.P
open Go.RowKit Go.Proofs.YtioofhilohmfbaaGreatDoorW.PrintWords Go.Proofs.YtioofhilohmfbaaGreatDoorW.PrintLast Go.Proofs.YtioofhilohmfbaaGreatDoorW.PrintMore
attribute [local go_sem] max2_int min2_int max_two min_two max_three min_three max_four min_four
set_option linter.unusedVariables false
set_option linter.unusedSimpArgs false
set_option maxRecDepth 100000 in
theorem nat_Of.rows (k : Nat) (a0 : Int) (r : List Int) (w : World) (h : nat_Of.f k a0 = some r) :
    Calls Tryz.prog 137 #[.int .u64 a0] w fun e w' => ∃ v0_ : Value, e = .returned (v0_) ∧ Kd.R (Kd.int .u32) 109 w' w.heap.size (fun _ => True) v0_ r ∧ Below w.heap.size w w' := by
  have HB := Aside0.mk (Below.refl w.heap.size w)
  have H : ((nat_trim.f k (([(a0) % 4294967296, (a0 / 4294967296) % 4294967296] : List Int))).bind fun t4 => (some t4)) = some r := h
  clear h
  obtain ⟨y1, hy1⟩ : ∃ y_ : List Int, y_ = (([(a0) % 4294967296, (a0 / 4294967296) % 4294967296] : List Int)) := ⟨_, rfl⟩
  replace H : ((nat_trim.f k y1).bind fun t4 => (some t4)) = some r := by first | (rw [hy1]; with_reducible exact H) | (have H2_ := (Option.bind_some _ _).symm.trans H; rw [hy1]; with_reducible exact H2_) | (have H2_ := (Option.bind_some _ _).symm.trans H; with_reducible exact H2_) | with_reducible exact H | (rw [hy1]; exact H) | exact H
  have Ny1 := Aside0.mk hy1
  clear hy1
  replace H := Option.bind_eq_some_iff.mp H
  obtain ⟨t4, A20, H⟩ := H
  replace H : (some t4) = some r := H
  have A2 := Aside0.mk A20
  clear A20
  obtain rfl := Option.some.inj H
  go_enter Tryz.func137, Tryz.ntmps137
  go_wp2_with (first | ((with_reducible refine gate_dst (N := 8) rfl ?_); refine Kd.R_lit (Kd.int .u32) _ 109 ?hg (N := 8) ?hd (xs := ([(a0) % 4294967296, (a0 / 4294967296) % 4294967296] : List Int)) (inner := [.int .u32 ((a0) % 4294967296), .int .u32 ((a0 / 4294967296) % 4294967296)]) (ok := fun _ => True) (okp := fun _ => True) ?hr ?hp (fun _ hk => hk) trivial (Below.refl _ _) (Nat.le_refl _) (by simp) ?_; (case hd => rfl); (case hg => rfl); (case hr => first | (go_simp; done) | (go_simp; rfl)); (case hp => exact (Reps.one (show Kd.M (Kd.int .u32) _ _ _ ((a0) % 4294967296) [.int .u32 ((a0) % 4294967296)] from rfl) (Reps.one (show Kd.M (Kd.int .u32) _ _ _ ((a0 / 4294967296) % 4294967296) [.int .u32 ((a0 / 4294967296) % 4294967296)] from rfl) (Reps.none _ _)))); intro v2 w3 ho4 hb hg_ hnew_; clear hg_ hnew_; (first | rw [← Ny1.out] at ho4 | (simp only [Int.reduceToNat] at ho4; rw [← Ny1.out] at ho4)); have n0_ := Aside0.mk (Kd.R_lower (Kd.R_newM (M := fun k_ => (w.heap.size ≤ k_)) ho4 (below_size (by repeat (first | (with_reducible first | exact HB.out | apply below_alloc | apply pw_below_drewN | apply below_drew1) | exact HB.out))) (fun k_ h_ => h_)) (below_size (by repeat (first | (with_reducible first | exact HB.out | apply below_alloc | apply pw_below_drewN | apply below_drew1) | exact HB.out)))); have n1_ := Aside0.mk (below_step (by repeat (first | (with_reducible first | exact HB.out | apply below_alloc | apply pw_below_drewN | apply below_drew1) | exact HB.out)) hb); clear HB; have HO3 := n0_; have HB := n1_; clear n0_ n1_; clear hb ho4; obtain ⟨Ao5, co5, eo5⟩ := Kd.R_slice HO3.out; subst eo5) | ((with_reducible refine gate_callee (f := 167) rfl ?_); refine goesL_ (some 9) rfl rfl Tryz.func167 (by kernel_rfl) rfl #[.slice Ao5 y1.length co5] rfl (by (try simp only [List.map_toArray, List.map_cons, List.map_nil]); first | done | rfl | (simp only [List.length_drop, List.length_take]; rfl)) ?_; (with_reducible refine (trim_same k _ _ y1 t4 _ ?side1 ?side2 A2.out).mono ?_); (case side1 => exact (Kd.R_reads' HO3.out).2.2); (case side2 => exact (Kd.R_reads' HO3.out).2.1); rintro e w6 ⟨v5, rfl, hm_, hb⟩; refine ⟨_, rfl, ?_⟩; have n0_ := Aside0.mk (Kd.R_below (by (with_reducible repeat (first | apply Kd.R_alloc | apply Kd.R_drewN | apply Kd.R_drew)); exact HO3.out) hb); have n1_ := Aside0.mk (Kd.R_mono (ok' := fun _ => True) (Kd.R_below (R_cut HO3.out hm_) hb) (fun _ _ => trivial)); clear hm_; have n2_ := Aside0.mk (below_step (by repeat (first | (with_reducible first | exact HB.out | apply below_alloc | apply pw_below_drewN | apply below_drew1) | exact HB.out)) hb); clear HO3; clear HB; have HO3 := n0_; have HO6 := n1_; have HB := n2_; clear n0_ n1_ n2_; (try clear hb); (try clear hb2); (try clear hk); (try clear hi); (try clear ho0)))
  go_ret
  exact ⟨_, by first | rfl | (simp [errW_none, errW_some] <;> rfl) | (simp [*, errW_none, errW_some] <;> rfl), by (with_reducible repeat (first | apply Kd.R_alloc | apply Kd.R_drewN | apply Kd.R_drew)); exact HO6.out, by repeat (first | (with_reducible first | exact HB.out | apply below_alloc | apply pw_below_drewN | apply below_drew1) | exact HB.out)⟩
end Go.Proofs.YtioofhilohmfbaaGreatDoor.P
end
section
namespace Go.Proofs.YtioofhilohmfbaaGreatDoor.P
open Go.RowKit Go.Proofs.YtioofhilohmfbaaGreatDoorW.PrintWords Go.Proofs.YtioofhilohmfbaaGreatDoorW.PrintLast Go.Proofs.YtioofhilohmfbaaGreatDoorW.PrintMore
attribute [local go_sem] max2_int min2_int max_two min_two max_three min_three max_four min_four
set_option linter.unusedVariables false
set_option linter.unusedSimpArgs false
set_option maxRecDepth 100000 in
theorem nat_short.rows (k : Nat) (A0 : Option Addr) (c0 : Nat) (l0 : List Int) (a1 : Int) (r1 : List Int) (r2 : Int) (w : World) (hr0 : Kd.C (Kd.int .u32) w A0 l0.length l0) (hc0 : l0.length ≤ c0) (h : nat_short.f k l0 a1 = some (r1, r2)) :
    Calls Tryz.prog 188 #[.slice A0 l0.length c0, .int .u32 a1] w fun e w' => ∃ v0_ : Value, e = .returned (.tuple #[v0_, .int .u32 r2]) ∧ Kd.R (Kd.int .u32) 109 w' w.heap.size (fun _ => True) v0_ r1 ∧ Below w.heap.size w w' := by
  have HR0 := Aside0.mk hr0
  have HC0 := Aside0.mk hc0
  clear hr0 hc0
  have HB := Aside0.mk (Below.refl w.heap.size w)
  have H : (if 0 ≤ (l0.length : Int) then (if ((l0.length : Int) : Int).toNat ≤ 70368744177664 then (nat_short.l0 k l0 a1 (List.replicate ((l0.length : Int) : Int).toNat 0) 0 (wrap64 ((l0.length : Int) - 1))) else (none)) else (none)) = some (r1, r2) := h
  clear h
  by_cases c3 : 0 ≤ (l0.length : Int)
  · rw [if_pos c3] at H
    have c3b0 := eq_true c3
    have c3b1 : decide (0 ≤ (l0.length : Int)) = true := decide_eq_true c3
    clear c3
    by_cases c4 : ((l0.length : Int) : Int).toNat ≤ 70368744177664
    · rw [if_pos c4] at H
      have c4b0 := eq_true c4
      have c4b1 : decide (((l0.length : Int) : Int).toNat ≤ 70368744177664) = true := decide_eq_true c4
      clear c4
      obtain ⟨y1, hy1⟩ : ∃ y_ : List Int, y_ = (List.replicate ((l0.length : Int) : Int).toNat 0) := ⟨_, rfl⟩
      replace H : (nat_short.l0 k l0 a1 y1 0 (wrap64 ((l0.length : Int) - 1))) = some (r1, r2) := by first | (rw [hy1]; with_reducible exact H) | (have H2_ := (Option.bind_some _ _).symm.trans H; rw [hy1]; with_reducible exact H2_) | (have H2_ := (Option.bind_some _ _).symm.trans H; with_reducible exact H2_) | with_reducible exact H | (rw [hy1]; exact H) | exact H
      have Ny1 := Aside0.mk hy1
      clear hy1
      have H' := Aside0.mk H
      clear H
      go_enter Tryz.func188, Tryz.ntmps188
      go_wp2_with (first | ((with_reducible refine gate_dst (N := 11) rfl ?_); refine Kd.R_make (Kd.int .u32) _ 109 rfl (N := 11) rfl 39 _ _ rfl (l0.length : Int) rfl rfl Tryz.underlying39 (.int .u32 0) 4 info109 rfl (by decide) (by omega) 0 (ok := fun _ => True) (okp := fun _ => True) rfl (fun _ hk => hk) trivial (of_decide_eq_true (by first | (with_reducible assumption) | assumption)) (Nat.le_trans (Nat.mul_le_mul_right _ (of_decide_eq_true (by first | (with_reducible assumption) | assumption) : (l0.length : Int).toNat ≤ 70368744177664)) (by omega)) (Below.refl _ _) (Nat.le_refl _) ?_; intro v2 w5 ho6 hb hg_ hnew_; clear hg_ hnew_; (first | rw [← Ny1.out] at ho6 | (simp only [Int.reduceToNat] at ho6; rw [← Ny1.out] at ho6)); have n0_ := Aside0.mk (Kd.R_lower (Kd.R_newM (M := fun k_ => (w.heap.size ≤ k_)) ho6 (below_size (by repeat (first | (with_reducible first | exact HB.out | apply below_alloc | apply pw_below_drewN | apply below_drew1) | exact HB.out))) (fun k_ h_ => h_)) (below_size (by repeat (first | (with_reducible first | exact HB.out | apply below_alloc | apply pw_below_drewN | apply below_drew1) | exact HB.out)))); have n1_ := Aside0.mk (below_step (by repeat (first | (with_reducible first | exact HB.out | apply below_alloc | apply pw_below_drewN | apply below_drew1) | exact HB.out)) hb); clear HB; have HO3 := n0_; have HB := n1_; clear n0_ n1_; clear hb ho6))
      go_loopg [7, 8] k (fun kq v7 v8 w' => ∃ (x6_1 : List Int) (x7_1 : Int) (x8_1 : Int), v7 = .int .u32 x7_1 ∧ v8 = .int .i64 x8_1 ∧ Aside0 (nat_short.l0 kq l0 a1 x6_1 x7_1 x8_1 = some (r1, r2)) ∧ Aside0 (kq ≤ k) ∧ Aside0 (Kd.R (Kd.int .u32) 109 w' w.heap.size (fun k_ => (w.heap.size ≤ k_)) v2 x6_1) ∧ Aside0 (Below w.heap.size w w'))
      case atStart => exact ⟨(y1), (0), (wrap64 ((l0.length : Int) - 1)), (by first | rfl | (simp; done) | (simp [*]; done)), (by first | rfl | (simp; done) | (simp [*]; done)), H', ⟨Nat.le_refl _⟩, ⟨by (with_reducible repeat (first | apply Kd.R_alloc | apply Kd.R_drewN | apply Kd.R_drew)); exact Kd.R_mono HO3.out (fun _ hk => hk.1)⟩, ⟨by repeat (first | (with_reducible first | exact HB.out | apply below_alloc | apply pw_below_drewN | apply below_drew1) | exact HB.out)⟩⟩
      case round =>
        clear H'
        try clear c1
        try clear p2
        try clear c3
        try clear c3b0
        try clear c3b1
        try clear c4
        try clear c4b0
        try clear c4b1
        try clear p6
        obtain ⟨x6_1, x7_1, x8_1, rfl, rfl, HA, HK1, HO_6, HB⟩ := hrel
        cases gk with
        | zero => exact absurd HA.out (by simp [nat_short.l0])
        | succ k1 =>
          have H := HA.out
          clear HA
          simp only [nat_short.l0] at H
          by_cases c7 : x8_1 ≥ 0
          · rw [if_pos c7] at H
            have c7b0 : decide (0 ≤ x8_1) = true := decide_eq_true c7
            clear c7
            by_cases c8 : 0 ≤ x8_1
            · rw [if_pos c8] at H
              have c8b0 : decide (0 ≤ x8_1) = true := decide_eq_true c8
              clear c8
              by_cases c9 : x8_1 < (l0.length : Int)
              · rw [if_pos c9] at H
                have c9b0 : decide (x8_1 < (l0.length : Int)) = true := decide_eq_true c9
                clear c9
                replace H := Option.bind_eq_some_iff.mp H
                obtain ⟨⟨t5, t6⟩, A100, H⟩ := H
                replace H : (if x8_1 < (x6_1.length : Int) then (nat_short.l0 k1 l0 a1 (x6_1.set (x8_1 : Int).toNat t5) t6 (wrap64 (x8_1 - 1))) else (none)) = some (r1, r2) := H
                have A10 := Aside0.mk A100
                clear A100
                by_cases c11 : x8_1 < (x6_1.length : Int)
                · rw [if_pos c11] at H
                  have c11b0 : decide (x8_1 < (x6_1.length : Int)) = true := decide_eq_true c11
                  clear c11
                  obtain ⟨y7, hy7⟩ : ∃ y_ : List Int, y_ = (x6_1.set (x8_1 : Int).toNat t5) := ⟨_, rfl⟩
                  replace H : (nat_short.l0 k1 l0 a1 y7 t6 (wrap64 (x8_1 - 1))) = some (r1, r2) := by first | (rw [hy7]; with_reducible exact H) | (have H2_ := (Option.bind_some _ _).symm.trans H; rw [hy7]; with_reducible exact H2_) | (have H2_ := (Option.bind_some _ _).symm.trans H; with_reducible exact H2_) | with_reducible exact H | (rw [hy7]; exact H) | exact H
                  have Ny7 := Aside0.mk hy7
                  clear hy7
                  have H' := Aside0.mk H
                  clear H
                  have p4 : 0 ≤ (x8_1 : Int) := of_decide_eq_true (by first | (with_reducible assumption) | assumption)
                  have q4 : x8_1 < (l0.length : Int) := of_decide_eq_true (by first | (with_reducible assumption) | assumption)
                  obtain ⟨ad4, e4, hx4_0⟩ := Kd.at_int HR0.out x8_1 p4 q4
                  cases e4
                  replace hx4_0 := (HB.out.cell (World.block_lt_of_cell? w _ hx4_0)).trans hx4_0
                  replace p4 := eq_true p4
                  replace q4 := eq_true q4
                  go_wp2_with (first | ((with_reducible refine gate_callee (f := 201) rfl ?_); refine goesL_ (some 28) rfl rfl Tryz.func201 (by kernel_rfl) rfl #[.int .u32 x7_1, .int .u32 (rd l0 x8_1), .int .u32 a1] rfl (by (try simp only [List.map_toArray, List.map_cons, List.map_nil]); first | done | rfl | (simp only [List.length_drop, List.length_take]; rfl)) ?_; (with_reducible refine (bits_Div32.calls x7_1 (rd l0 x8_1) a1 t5 t6 _ A10.out).mono ?_); rintro e w13 ⟨rfl, hb⟩; refine ⟨_, rfl, ?_⟩; have n0_ := Aside0.mk (Kd.R_below (by (with_reducible repeat (first | apply Kd.R_alloc | apply Kd.R_drewN | apply Kd.R_drew)); exact HO_6.out) hb); have n1_ := Aside0.mk (below_step (by repeat (first | (with_reducible first | exact HB.out | apply below_alloc | apply pw_below_drewN | apply below_drew1) | exact HB.out)) hb); clear HO_6; clear HB; have HO_6 := n0_; have HB := n1_; clear n0_ n1_; (try clear hb); (try clear hb2); (try clear hk); (try clear hi); have p12 : 0 ≤ (x8_1 : Int) := of_decide_eq_true (by first | (with_reducible assumption) | assumption); have q12 : (x8_1 : Int) < ((x6_1.length : Int) : Int) := of_decide_eq_true (by first | (with_reducible assumption) | assumption); obtain ⟨go12, co12, eo12, gb12, gl12, cl12, HG12⟩ := Kd.R_form HO_6.out (by omega); (first | cases eo12 | (injection eo12 with ea_ en_ ec_; (first | subst ea_ | (injection ea_ with ea_; subst ea_)); subst ec_; clear en_)); have GB12 := Aside0.mk gb12; have GG12 := Aside0.mk HG12; clear gb12 gl12 HG12; obtain ⟨hx12_0, hf12_0⟩ := Kd.R_celln 0 HO_6.out (x8_1 : Int) p12 q12; replace p12 := eq_true p12; replace q12 := eq_true q12; obtain ⟨hy14_, hz14_⟩ := Kd.R_celln 0 HO_6.out (x8_1 : Int) (of_decide_eq_true (by first | (with_reducible assumption) | assumption)) (of_decide_eq_true (by first | (with_reducible assumption) | assumption)); have HP14 := Kd.R_putg HO_6.out (x8_1 : Int) t5) | ((with_reducible refine gate_store (t := 109) (p := 31) rfl ?_); refine store_event (t := 109) (p := 31) (v := ?vo_w15) (w1 := (w13.setCell ⟨go12, (x8_1 : Int).toNat, none⟩ (.int .u32 t5))) ?hg ?ho ?hn ?hr ?_; (case ho => rfl); (case hg => rfl); (case hn => rfl); (case hr => first | (go_simp; done) | (go_simp; rfl)); intro w15 hw; have hg : w13.grownBy w15 (some go12) := (by rw [hw]; exact HP14.2); have hp_ : Kd.R (Kd.int .u32) 109 w15 w.heap.size (fun k_ => (w.heap.size ≤ k_)) (.slice (some ⟨go12, 0, none⟩) x6_1.length co12) y7 := (by rw [hw, Ny7.out]; exact HP14.1); clear HP14; have n0_ := Aside0.mk (hp_); have n1_ := Aside0.mk ((by rw [hw]; exact below_set (HB.out) GB12.out : Below w.heap.size w w15)); clear HO_6; clear HB; have HO_6 := n0_; have HB := n1_; clear n0_ n1_; clear hg hw hp_))
                  go_roundg k1
                  case measure => have := HK1.out; omega
                  case rel => exact ⟨(y7), (t6), (wrap64 (x8_1 - 1)), (by first | rfl | (simp; done) | (simp [*]; done)), (by first | rfl | (simp; done) | (simp [*]; done)), H', ⟨by have := HK1.out; omega⟩, ⟨by (with_reducible repeat (first | apply Kd.R_alloc | apply Kd.R_drewN | apply Kd.R_drew)); exact HO_6.out⟩, ⟨by repeat (first | (with_reducible first | exact HB.out | apply below_alloc | apply pw_below_drewN | apply below_drew1) | exact HB.out)⟩⟩
                · rw [if_neg c11] at H
                  exact absurd H (by simp)
              · rw [if_neg c9] at H
                exact absurd H (by simp)
            · rw [if_neg c8] at H
              exact absurd H (by simp)
          · rw [if_neg c7] at H
            have c7b0 : decide (0 ≤ x8_1) = false := decide_eq_false c7
            clear c7
            replace H := Option.bind_eq_some_iff.mp H
            obtain ⟨t8, A160, H⟩ := H
            replace H : (some (t8, x7_1)) = some (r1, r2) := H
            have A16 := Aside0.mk A160
            clear A160
            simp only [Option.some.injEq, Prod.mk.injEq] at H
            obtain ⟨rfl, rfl⟩ := H
            obtain ⟨Ao17, co17, eo17⟩ := Kd.R_slice HO_6.out
            subst eo17
            go_wp2_with (first | ((with_reducible refine gate_callee (f := 167) rfl ?_); refine goesL_ (some 33) rfl rfl Tryz.func167 (by kernel_rfl) rfl #[.slice Ao17 x6_1.length co17] rfl (by (try simp only [List.map_toArray, List.map_cons, List.map_nil]); first | done | rfl | (simp only [List.length_drop, List.length_take]; rfl)) ?_; (with_reducible refine (trim_same k1 _ _ x6_1 t8 _ ?side1 ?side2 A16.out).mono ?_); (case side1 => exact (Kd.R_reads' HO_6.out).2.2); (case side2 => exact (Kd.R_reads' HO_6.out).2.1); rintro e w18 ⟨v9, rfl, hm_, hb⟩; refine ⟨_, rfl, ?_⟩; have n0_ := Aside0.mk (Kd.R_below (by (with_reducible repeat (first | apply Kd.R_alloc | apply Kd.R_drewN | apply Kd.R_drew)); exact HO_6.out) hb); have n1_ := Aside0.mk (Kd.R_mono (ok' := fun _ => True) (Kd.R_below (R_cut HO_6.out hm_) hb) (fun _ _ => trivial)); clear hm_; have n2_ := Aside0.mk (below_step (by repeat (first | (with_reducible first | exact HB.out | apply below_alloc | apply pw_below_drewN | apply below_drew1) | exact HB.out)) hb); clear HO_6; clear HB; have HO_6 := n0_; have HO10 := n1_; have HB := n2_; clear n0_ n1_ n2_; (try clear hb); (try clear hb2); (try clear hk); (try clear hi); (try clear ho0)))
            go_ret2
            exact ⟨_, by first | rfl | (simp [errW_none, errW_some] <;> rfl) | (simp [*, errW_none, errW_some] <;> rfl), by (with_reducible repeat (first | apply Kd.R_alloc | apply Kd.R_drewN | apply Kd.R_drew)); exact HO10.out, by repeat (first | (with_reducible first | exact HB.out | apply below_alloc | apply pw_below_drewN | apply below_drew1) | exact HB.out)⟩
    · rw [if_neg c4] at H
      exact absurd H (by simp)
  · rw [if_neg c3] at H
    exact absurd H (by simp)
end Go.Proofs.YtioofhilohmfbaaGreatDoor.P
end
section
set_option linter.unusedVariables false
namespace Go.Proofs.YtioofhilohmfbaaGreatDoor.P
open Go Go.RowKit Go.Lib Go.Proofs.YtioofhilohmfbaaGreatDoorW.PrintWords Go.Proofs.YtioofhilohmfbaaGreatDoorW.PrintLast Go.Proofs.YtioofhilohmfbaaGreatDoorW.PrintMore
def slices_Clone_uint32_uint32.f (l0 : List Int) : Option (List Int) := if l0.length ≤ 17592186044416 then some l0 else none
set_option maxRecDepth 100000 in
set_option maxHeartbeats 4000000 in
theorem slices_Clone_uint32_uint32.calls (A0 : Option Addr) (c0 : Nat) (l0 : List Int) (r : List Int) (w : World) (hr0 : Kd.C (Kd.int .u32) w A0 l0.length l0) (hc0 : l0.length ≤ c0) (h : slices_Clone_uint32_uint32.f l0 = some r) :
    Calls Tryz.prog 90 #[.slice A0 l0.length c0] w fun e w' => ∃ v0_ : Value, e = .returned (v0_) ∧ Kd.R (Kd.int .u32) 109 w' w.heap.size (fun _ => True) v0_ r ∧ Below w.heap.size w w' := by
  unfold slices_Clone_uint32_uint32.f at h
  by_cases hs : l0.length ≤ 17592186044416
  case neg => rw [if_neg hs] at h; cases h
  rw [if_pos hs] at h
  injection h with h
  subst h
  cases A0 with
  | none =>
    have hl : l0 = [] := by
      rcases Nat.eq_zero_or_pos l0.length with h0 | h0
      · exact List.eq_nil_of_length_eq_zero h0
      · obtain ⟨ad, e, _⟩ := hr0.2.2 h0
        cases e
    subst hl
    refine (Tryz.slices_Clone_nil _ c0 w).mono ?_
    rintro e w' ⟨rfl, rfl⟩
    exact ⟨_, rfl, Kd.R_nil _ _ _ _ _, Below.refl _ _⟩
  | some ad =>
    have q39 : ∀ (w : World) (a : Option Addr) (n c n' c' : Nat), (binOp .eql 39 (.slice a n c) (.slice none n' c')).run Tryz.prog w = .ok (.bool a.isNone) w := fun w a n c n' c' => Lib.run_eql_slice_nil w _ _ a n c n' c' Tryz.underlying39
    have HR0 := Aside0.mk hr0
    have HS := Aside0.mk hs
    clear hr0 hs
    go_enter Tryz.func90, Tryz.ntmps90
    go_wp2_with (first
      | ((with_reducible refine gate_dst (N := 5) rfl ?_); refine Kd.R_lit (Kd.int .u32) _ 109 ?hg (N := 5) ?hd (xs := ([] : List Int)) (inner := []) (ok := fun _ => True) (okp := fun _ => True) ?hr ?hp (fun _ hk => hk) trivial (Below.refl _ _) (Nat.le_refl _) (by simp) ?_; (case hd => rfl); (case hg => rfl); (case hr => first | (go_simp; done) | (go_simp; rfl)); (case hp => exact Reps.none _ _); intro v2 w5 ho hb hg_ hnew_; clear hg_ hnew_; have HO := Aside0.mk ho; have HB := Aside0.mk hb; clear ho hb)
      | ((with_reducible refine gate_builtin (b := .append) (xs := #[.tmp 5, .tmp 6]) rfl ?_); at_builtin; refine Kd.R_append_rows (Kd.int .u32) (w0 := w) w.heap.size rfl (.tmp 5) (.tmp 6) 39 109 (.int .u32 0) 4 rfl Tryz.underlying39 info109 rfl (by decide) (by omega) v2 ([] : List Int) l0 _ _ _ (fun _ => True) (fun _ => False) rfl rfl ?aO ?aR (fun _ _ h => h) (fun _ h => h.elim) ?aF ?aB ?aS ?aL ?_; (case aO => exact HO.out); (case aR => exact Kd.C_below HR0.out HB.out); (case aF => exact (fun _ _ => trivial)); (case aB => exact HB.out); (case aS => exact below_size HB.out); (case aL => have := HS.out; simp only [List.length_nil]; omega); intro v4 w11 ho hb hg hat; have HO4 := Aside0.mk ho; have HB4 := Aside0.mk hb; clear ho hb hg hat))
    go_ret
    exact ⟨_, rfl, HO4.out, HB4.out⟩
end Go.Proofs.YtioofhilohmfbaaGreatDoor.P
end
section
set_option linter.unusedVariables false
set_option linter.unusedSimpArgs false
namespace Go.Proofs.YtioofhilohmfbaaGreatDoor.P
open Go Go.RowKit Go.Proofs.YtioofhilohmfbaaGreatDoorW.PrintWords Go.Proofs.YtioofhilohmfbaaGreatDoorW.PrintLast Go.Proofs.YtioofhilohmfbaaGreatDoorW.PrintMore
attribute [local go_sem] max2_int min2_int
def divOk (l0 l1 : List Int) : Prop := U l0 ∧ Tr l0 ∧ U l1 ∧ Tr l1 ∧ l1 ≠ [] ∧ l0.length ≤ 1000 ∧ l1.length ≤ 1000
instance (l0 l1 : List Int) : Decidable (divOk l0 l1) := inferInstanceAs (Decidable (_ ∧ _))
def nat_divide.f (l0 l1 : List Int) : Option (List Int × List Int) := if divOk l0 l1 then some (lim l0.length (lv l0 / lv l1), lim l1.length (lv l0 % lv l1)) else none
/-- What is handed back. -/
def Two (w : World) (r1 r2 : List Int) (e : Ending) (w' : World) : Prop :=
  ∃ v0_ v1_ : Value, e = .returned (.tuple #[v0_, v1_]) ∧ Kd.R (Kd.int .u32) 109 w' w.heap.size (fun k_ => some k_ ≠ v1_.ownBlock) v0_ r1 ∧ Kd.R (Kd.int .u32) 109 w' w.heap.size (fun k_ => some k_ ≠ v0_.ownBlock) v1_ r2 ∧ Below w.heap.size w w'
theorem two_mk {w w' : World} {r1 r2 : List Int} {v0 v1 : Value} {ok1 ok2 : Nat → Prop} (h1 : Kd.R (Kd.int .u32) 109 w' w.heap.size ok1 v0 r1) (h2 : Kd.R (Kd.int .u32) 109 w' w.heap.size ok2 v1 r2) (hne : ∀ k, v0.ownBlock = some k → v1.ownBlock ≠ some k) (hb : Below w.heap.size w w') : Two w r1 r2 (.returned (.tuple #[v0, v1])) w' :=
  ⟨v0, v1, rfl, Kd.R_reok rfl h1 (fun k hk he => hne k hk he.symm), Kd.R_reok rfl h2 (fun k hk he => hne k he.symm hk), hb⟩
set_option maxRecDepth 100000 in
set_option maxHeartbeats 1000000 in
theorem divide_less (A0 : Option Addr) (c0 : Nat) (l0 : List Int) (A1 : Option Addr) (c1 : Nat) (l1 : List Int) (w : World) (hr0 : Kd.C (Kd.int .u32) w A0 l0.length l0) (hc0 : l0.length ≤ c0) (hr1 : Kd.C (Kd.int .u32) w A1 l1.length l1) (hc1 : l1.length ≤ c1) (hok : divOk l0 l1) (hlt : lv l0 < lv l1) :
    Calls Tryz.prog 164 #[.slice A0 l0.length c0, .slice A1 l1.length c1] w (Two w (lim l0.length (lv l0 / lv l1)) (lim l1.length (lv l0 % lv l1))) := by
  obtain ⟨u0, t0, u1, t1, hne, b0, b1⟩ := hok
  have n0 := lv_nonneg u0
  rw [Int.ediv_eq_zero_of_lt n0 hlt, Int.emod_eq_of_lt n0 hlt, lim_zero, show lim l1.length (lv l0) = l0 by
    rw [lim_more (m := l0.length) n0 (by have := lv_lt u1; omega) (lv_lt u0)]; exact lim_of _ u0 t0 (Nat.le_refl _)]
  obtain ⟨kc, hkc⟩ := (compare_ev l0 l1 (by omega) (by omega) u0 t0 u1 t1).rounds
  have hm1 : cmpI (lv l0) (lv l1) = -1 := by unfold cmpI; rw [if_pos hlt]
  rw [hm1] at hkc
  have KC := Aside0.mk hkc
  have HR0 := Aside0.mk hr0
  have HC0 := Aside0.mk hc0
  have HR1 := Aside0.mk hr1
  have HC1 := Aside0.mk hc1
  have HK : slices_Clone_uint32_uint32.f l0 = some l0 := by unfold slices_Clone_uint32_uint32.f; rw [if_pos (by omega)]
  have HK := Aside0.mk HK
  clear hr0 hc0 hr1 hc1 hkc hm1 u0 t0 u1 t1 hne b0 b1 n0 hlt
  go_enter Tryz.func164, Tryz.ntmps164
  go_wp2
  go_step3
  go_wp2_with (first
    | (go_at_call 187; (with_reducible refine (nat_compare.calls kc _ _ l0 _ _ l1 (-1) _ HR0.out HC0.out HR1.out HC1.out KC.out).mono ?_); rintro e w1 ⟨rfl, hb⟩; have HB := Aside0.mk hb; clear hb)
    | (go_at_call 90; (with_reducible refine (slices_Clone_uint32_uint32.calls _ _ l0 l0 _ (Kd.C_below HR0.out HB.out) HC0.out HK.out).mono ?_); rintro e w2 ⟨v2, rfl, ho, hb⟩; have HO := Aside0.mk (Kd.R_lower ho (below_size HB.out)); have HB2 := Aside0.mk (below_step HB.out hb); clear ho hb))
  rw [Exit.noGoto_ret]
  go_ret2
  exact two_mk (Kd.R_nil _ _ _ _ (fun _ => True)) HO.out (fun k hk => by simp [Value.ownBlock] at hk) HB2.out
theorem cmp_ge {a b : Int} (h : b ≤ a) : 0 ≤ cmpI a b := by
  unfold cmpI
  rw [if_neg (by omega)]
  split <;> omega
theorem own_none {w : World} {base e : Nat} {ok : Nat → Prop} {v1 : Value} {l : List Int} (h : Kd.R (Kd.int .u32) e w base ok v1 l) : ∀ k, v1.ownBlock = some k → base ≤ k ∧ k < w.heap.size := fun k hk => ⟨Kd.R_base h k hk, Kd.R_lt h k hk⟩
set_option maxRecDepth 100000 in
set_option maxHeartbeats 1000000 in
theorem divide_one (A0 : Option Addr) (c0 : Nat) (l0 : List Int) (A1 : Option Addr) (c1 : Nat) (l1 : List Int) (w : World) (hr0 : Kd.C (Kd.int .u32) w A0 l0.length l0) (hc0 : l0.length ≤ c0) (hr1 : Kd.C (Kd.int .u32) w A1 l1.length l1) (hc1 : l1.length ≤ c1) (hok : divOk l0 l1) (hle : lv l1 ≤ lv l0) (h1 : l1.length = 1) :
    Calls Tryz.prog 164 #[.slice A0 l0.length c0, .slice A1 l1.length c1] w (Two w (lim l0.length (lv l0 / lv l1)) (lim l1.length (lv l0 % lv l1))) := by
  obtain ⟨u0, t0, u1, t1, hne, b0, b1⟩ := hok
  have hy : lv l1 = rd l1 0 := by
    cases l1 with
    | nil => exact absurd rfl hne
    | cons x t =>
      cases t with
      | nil => simp [lv, rd]
      | cons => simp at h1
  have hyU := U_get u1 0
  rw [← rd_nat] at hyU
  have hy0 : 0 < rd l1 0 := by
    have := lv_lower u1 t1 hne
    rw [h1, hy] at this
    simp at this
    omega
  have hyU' : rd l1 0 < 4294967296 := hyU.2
  rw [show lim l1.length (lv l0 % lv l1) = lim 1 (lv l0 % lv l1) by rw [h1], hy]
  obtain ⟨cc, hcc⟩ : ∃ cc, cmpI (lv l0) (lv l1) = cc := ⟨_, rfl⟩
  have hc := cmp_ge hle
  rw [hcc] at hc
  obtain ⟨kc, hkc⟩ := (compare_ev l0 l1 (by omega) (by omega) u0 t0 u1 t1).rounds
  rw [hcc] at hkc
  obtain ⟨ks, hks⟩ := (short_ev l0 (rd l1 0) hy0 hyU' u0 (by omega)).rounds
  obtain ⟨r1, hr1'⟩ : ∃ r, lim l0.length (lv l0 / rd l1 0) = r := ⟨_, rfl⟩
  obtain ⟨r2, hr2'⟩ : ∃ r, lv l0 % rd l1 0 = r := ⟨_, rfl⟩
  have q0 : 0 ≤ r2 := by rw [← hr2']; exact Int.emod_nonneg _ (by omega)
  have q1 : r2 < 4294967296 := by rw [← hr2']; exact Int.lt_trans (Int.emod_lt_of_pos _ hy0) hyU'
  rw [hr1', hr2'] at hks
  rw [hr1', hr2', lim_more (k := 1) (m := 2) q0 (by omega) (by omega)]
  obtain ⟨ko, hko⟩ := (Of_ev r2 q0 (by omega)).rounds
  obtain ⟨r3, hr3'⟩ : ∃ r, lim 2 r2 = r := ⟨_, rfl⟩
  rw [hr3'] at hko ⊢
  have hw2 : IntKind.u64.wrap r2 = r2 := wrapu64 r2 q0 (by omega)
  have c0b : decide (cc < 0) = false := decide_eq_false (by omega)
  have c2b0 : ((l1.length : Int) == 1) = true := beq_iff_eq.mpr (by omega)
  have c2b1 : ((l1.length : Int) != 1) = false := bne_eq_false_iff_eq.mpr (by omega)
  have c3b0 : decide (0 < (l1.length : Int)) = true := decide_eq_true (by omega)
  have c3b1 : decide (0 < l1.length) = true := decide_eq_true (by omega)
  obtain ⟨ad, e, hx⟩ := Kd.at_int hr1 0 (by omega) (by omega)
  cases e
  rw [show ((0 : Int)).toNat = 0 from rfl, Addr.add_zero'] at hx
  have qi1 : (0 < l1.length) = True := eq_true (by omega)
  have p1 : ((0 : Int) ≤ 0) = True := eq_true (by omega)
  have q1' : (0 < (l1.length : Int)) = True := eq_true (by omega)
  have KC := Aside0.mk hkc
  have KS := Aside0.mk hks
  have KO := Aside0.mk hko
  have HR0 := Aside0.mk hr0
  have HC0 := Aside0.mk hc0
  have HR1 := Aside0.mk hr1
  have HC1 := Aside0.mk hc1
  have HX := Aside0.mk hx
  have HE := Aside0.mk (And.intro c2b0 c2b1)
  clear c2b0 c2b1
  clear hr0 hc0 hr1 hc1 hkc hks hko u0 t0 u1 t1 hne b0 b1 hle h1 hy hyU hy0 hyU' hcc hc hr1' hr2' q0 q1 hr3' hx
  go_enter Tryz.func164, Tryz.ntmps164
  go_wp2
  go_step3
  go_wp2_with (first
    | (go_at_call 187; (with_reducible refine (nat_compare.calls kc _ _ l0 _ _ l1 cc _ HR0.out HC0.out HR1.out HC1.out KC.out).mono ?_); rintro e w1 ⟨rfl, hb⟩; have HB := Aside0.mk hb; have hx := pw_cell_below hb HX.out; have c2b0 := HE.out.1; have c2b1 := HE.out.2; clear hb)
    | (go_at_call 188; (with_reducible refine (nat_short.rows ks _ _ l0 (rd l1 0) r1 r2 _ (Kd.C_below HR0.out HB.out) HC0.out KS.out).mono ?_); rintro e w2 ⟨v2, rfl, ho, hb⟩; have HO := Aside0.mk (Kd.R_lower ho (below_size HB.out)); have HB2 := Aside0.mk (below_step HB.out hb); clear ho hb hx)
    | (go_at_call 137; (with_reducible refine (nat_Of.rows ko r2 r3 _ KO.out).mono ?_); rintro e w3 ⟨v3, rfl, ho, hb⟩; have HO2 := Aside0.mk (Kd.R_below HO.out hb); have HL := Aside0.mk (Kd.R_lt HO.out); have HO3 := Aside0.mk ho; have HO4 := Aside0.mk (Kd.R_lower ho (below_size HB2.out)); have HB3 := Aside0.mk (below_step HB2.out hb); clear ho hb))
  rw [Exit.noGoto_ret]
  go_ret2
  exact two_mk HO2.out HO4.out (fun k hk he => by have := HL.out k hk; have := (own_none HO3.out k he).1; omega) HB3.out
/-- What the walk knows of its three rows, and of the part that is divided, at a world. -/
structure DW (w : World) (gl nl cl gb cb gq nq cq off : Nat) (L Y Q P : List Int) (W : World) : Prop where
  l : Kd.R (Kd.int .u32) 109 W w.heap.size (fun _ => True) (.slice (some ⟨gl, 0, none⟩) nl cl) L
  y : Kd.R (Kd.int .u32) 109 W w.heap.size (fun _ => True) (.slice (some ⟨gb, 0, none⟩) Y.length cb) Y
  q : Kd.R (Kd.int .u32) 109 W w.heap.size (fun _ => True) (.slice (some ⟨gq, 0, none⟩) nq cq) Q
  p : Kd.C (Kd.int .u32) W (some ⟨gl, off, none⟩) P.length P
  b : Below w.heap.size w W
theorem DW.below {w : World} {gl nl cl gb cb gq nq cq off : Nat} {L Y Q P : List Int} {W W' : World} (h : DW w gl nl cl gb cb gq nq cq off L Y Q P W) (hb : Below W.heap.size W W') : DW w gl nl cl gb cb gq nq cq off L Y Q P W' :=
  ⟨Kd.R_below h.l hb, Kd.R_below h.y hb, Kd.R_below h.q hb, Kd.C_below h.p hb, below_step h.b hb⟩
/-- What a guess brings. -/
theorem inner_pure (g : Int) (Y P : List Int) (hY : U Y) (hP : U P) (g0 : 0 ≤ g) (g1 : g < 4294967296) (hl : Y.length ≤ 2000) (hp : P.length ≤ 2000) :
    ∃ ko kt kp kc G2 O TP, nat_Of.f ko g = some G2 ∧ nat_times.f kt G2 Y = some O ∧ nat_trim.f kp P = some TP ∧ nat_compare.f kc O TP = some (cmpI (g * lv Y) (lv P)) ∧
      (g * lv Y ≤ lv P → ∃ km R, nat_minus.f km P O = some R ∧ U R ∧ R.length ≤ P.length ∧ lv R = lv P - g * lv Y) := by
  obtain ⟨ko, hko⟩ := (Of_ev g g0 (by omega)).rounds
  have hv2 := lim_lv 2 g g0 (by omega)
  have hl2 := lim_len 2 g
  obtain ⟨G2, hG⟩ : ∃ G, lim 2 g = G := ⟨_, rfl⟩
  have hU2 : U G2 := by rw [← hG]; exact lim_U _ _
  rw [hG] at hko hv2 hl2
  obtain ⟨kt, hkt⟩ := (times_ev G2 Y hU2 hY (by omega)).rounds
  rw [hv2] at hkt
  have hyn := lv_nonneg hY
  have hn : 0 ≤ g * lv Y := Int.mul_nonneg g0 hyn
  have hlt : g * lv Y < 4294967296 ^ (G2.length + Y.length) := by
    have h1 := lv_lt hU2
    rw [hv2] at h1
    have h2 := lv_lt hY
    rw [Int.pow_add]
    exact Int.lt_of_le_of_lt (Int.mul_le_mul_of_nonneg_left (Int.le_of_lt h2) g0) (Int.mul_lt_mul_of_pos_right h1 (pow_pos _))
  have hvO := lim_lv _ _ hn hlt
  have hlO := lim_len (G2.length + Y.length) (g * lv Y)
  have htO := lim_Tr _ _ hn hlt
  obtain ⟨O, hO⟩ : ∃ O, lim (G2.length + Y.length) (g * lv Y) = O := ⟨_, rfl⟩
  have hUO : U O := by rw [← hO]; exact lim_U _ _
  rw [hO] at hkt hvO hlO htO
  obtain ⟨kp, hkp⟩ := (trim_ev P.length P rfl (by omega) hP).rounds
  have hpn := lv_nonneg hP
  have hpl := lv_lt hP
  have hvT := lim_lv _ _ hpn hpl
  have hlT := lim_len P.length (lv P)
  have htT := lim_Tr _ _ hpn hpl
  obtain ⟨TP, hT⟩ : ∃ TP, lim P.length (lv P) = TP := ⟨_, rfl⟩
  have hUT : U TP := by rw [← hT]; exact lim_U _ _
  rw [hT] at hkp hvT hlT htT
  obtain ⟨kc, hkc⟩ := (compare_ev O TP (by omega) (by omega) hUO htO hUT htT).rounds
  rw [hvO, hvT] at hkc
  refine ⟨ko, kt, kp, kc, G2, O, TP, hko, hkt, hkp, hkc, fun hle => ?_⟩
  have hOP : O.length ≤ P.length := by
    rw [← hO]
    exact lim_len_le hn hlt (by omega)
  obtain ⟨km, hkm⟩ := (minus_ev P O hP hUO hOP (by omega) (by rw [hvO]; exact hle)).rounds
  rw [hvO] at hkm
  refine ⟨km, _, hkm, lim_U _ _, lim_len _ _, ?_⟩
  exact lim_lv _ _ (by omega) (by omega)
theorem cmp_le {a b : Int} : (a ≤ b → cmpI a b ≤ 0) ∧ (b < a → cmpI a b = 1) := by
  unfold cmpI
  constructor
  · intro h
    split
    · omega
    · rw [if_pos (by omega)]; omega
  · intro h
    rw [if_neg (by omega), if_neg (by omega)]
theorem mul_le_iff_div {V y g : Int} (hy : 0 < y) : (V / y < g → V < g * y) ∧ (g ≤ V / y → g * y ≤ V) :=
  ⟨fun h => Int.lt_mul_of_ediv_lt hy h, fun h => by rw [← Int.le_ediv_iff_mul_le hy]; exact h⟩
theorem copy_twice (L Z R : List Int) (t k : Nat) (hZ : Z.length = k) (hR : R.length ≤ k) (hL : t + k ≤ L.length) :
    (L.take t ++ (Z.take (min Z.length k) ++ L.drop (t + min Z.length k))).take t ++ (R.take (min R.length k) ++ (L.take t ++ (Z.take (min Z.length k) ++ L.drop (t + min Z.length k))).drop (t + min R.length k)) = L.take t ++ ((R ++ Z.drop R.length) ++ L.drop (t + k)) := by
  have hl : (L.take t).length = t := by rw [List.length_take]; omega
  rw [hZ, Nat.min_self, Nat.min_eq_left hR, List.take_of_length_le (l := Z) (by omega), List.take_of_length_le (l := R) (by omega)]
  rw [List.take_append_of_le_length (by omega), List.take_of_length_le (by omega), List.drop_append, hl, List.drop_of_length_le (by omega), List.nil_append, show t + R.length - t = R.length by omega, List.drop_append_of_le_length (by omega), List.append_assoc]
theorem or64 (a b : Int) (ha : 0 ≤ a ∧ a < 4294967296) (hb : 0 ≤ b ∧ b < 4294967296) : Go.bits .or .u64 (IntKind.u64.wrap (IntKind.u64.wrap a * 4294967296)) (IntKind.u64.wrap b) = a * 4294967296 + b := by
  rw [wrapu64 a (by omega) (by omega), wrapu64 b (by omega) (by omega), wrapu64 (a * 4294967296) (by omega) (by omega)]
  obtain ⟨a, rfl⟩ := Int.eq_ofNat_of_zero_le ha.1
  obtain ⟨b, rfl⟩ := Int.eq_ofNat_of_zero_le hb.1
  have e64 : (2 : Nat) ^ 64 = 18446744073709551616 := by decide
  have e32 : (2 : Nat) ^ 32 = 4294967296 := by decide
  have h := (bits_nat .u64 64 (by decide) w64 (a * 4294967296) b (by omega) (by omega)).2
  have h2 := Nat.two_pow_add_eq_or_of_lt (i := 32) (b := b) (by omega) a
  rw [e32, Nat.mul_comm] at h2
  rw [← h2] at h
  have e : ((a * 4294967296 : Nat) : Int) = (a : Int) * 4294967296 := by omega
  rw [e] at h
  rw [h]
  clear h h2 e e64 e32 ha hb
  omega
theorem getD_part (L : List Int) (t k j : Nat) (h : t + j < k) : ((L.take k).drop t).getD j 0 = L.getD (t + j) 0 := by
  rw [List.getD_eq_getElem?_getD, List.getElem?_drop, List.getElem?_take_of_lt h, List.getD_eq_getElem?_getD]
/-- The first guess: no less than the digit, and a limb. -/
theorem guess_ok {L Y P : List Int} {t n : Nat} {y : Int} (hU : U L) (hY : U Y) (hYl : Y.length = n + 1) (hYv : lv Y = y) (hY0 : 0 < Y.getD n 0) (hL : t + n + 1 < L.length) (hP : (L.take (t + (n + 1) + 1)).drop t = P) (hy0 : 0 < y) (hlt : lv P < y * 4294967296)
    (g0 : Int) (hg : min (IntKind.u64.wrap ((L.getD (t + n + 1) 0 * 4294967296 + L.getD (t + n) 0).tdiv (Y.getD n 0))) 4294967295 = g0) : lv P / y ≤ g0 ∧ g0 < 4294967296 := by
  have a1 := U_get hU (t + n + 1)
  have a2 := U_get hU (t + n)
  have hPU : U P := by rw [← hP]; exact U_drop (U_take hU _) _
  have hPl : P.length = n + 2 := by rw [← hP, List.length_drop, List.length_take]; omega
  have e1 : P.getD (n + 1) 0 = L.getD (t + n + 1) 0 := by rw [← hP, getD_part _ _ _ _ (by omega)]; rfl
  have e2 : P.getD n 0 = L.getD (t + n) 0 := by rw [← hP, getD_part _ _ _ _ (by omega)]
  have s1 := lv_take_succ P (n + 1) (by omega)
  have s2 := lv_take_succ P n (by omega)
  rw [List.take_of_length_le (by omega), e1, s2, e2, Int.pow_succ] at s1
  have s3 := lv_lt (U_take hPU n)
  rw [List.length_take, Nat.min_eq_left (by omega)] at s3
  have s4 := lv_take_succ Y n (by omega)
  rw [List.take_of_length_le (by omega), hYv] at s4
  have s5 := lv_nonneg (U_take hY n)
  obtain ⟨top, ht⟩ : ∃ top, L.getD (t + n + 1) 0 * 4294967296 + L.getD (t + n) 0 = top := ⟨_, rfl⟩
  rw [ht] at hg
  have hV : lv P < 4294967296 ^ n * (top + 1) := by
    rw [s1, ← ht, Int.mul_add, Int.mul_add, Int.mul_one, Int.mul_assoc, Int.mul_comm (L.getD (t + n + 1) 0)]
    omega
  have h1 := guess_ge (y := y) (V := lv P) (top := top) (c := Y.getD n 0) (n := n) hy0 hY0 (by omega) (lv_nonneg hPU) hV
  have h2 : lv P / y < 4294967296 := Int.ediv_lt_of_lt_mul hy0 (by rw [Int.mul_comm]; exact hlt)
  have h3 : 0 ≤ top / Y.getD n 0 := Int.ediv_nonneg (by omega) (by omega)
  have h4 : top / Y.getD n 0 ≤ top := Int.ediv_le_self _ (by omega)
  rw [Int.tdiv_eq_ediv_of_nonneg (by omega), wrapu64 _ h3 (by omega)] at hg
  omega
end Go.Proofs.YtioofhilohmfbaaGreatDoor.P
end

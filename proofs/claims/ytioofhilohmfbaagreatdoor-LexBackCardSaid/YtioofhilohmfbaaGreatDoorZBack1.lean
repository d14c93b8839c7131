/- Parts of the proof: the walks and laws that the last text of this claim rests on. No condition beyond each one's own. -/
import Derived.Below
import Derived.Deep.Draws
import Derived.Deep.AppendLies
import Derived.Maps.AppendAt
import Derived.OwnWalk
import Derived.Laws.BytesArg
import Derived.Laws.MakeOwn
import Derived.Laws.OwnMore
import Derived.Deep.OwnRows
import Derived.Tactics
import Derived.Lib.ConvBytes
import Derived.Laws.Slices
import Derived.WalkKit
import Derived.KernelRfl
import Derived.RowKit3
import Derived.Deep.LoopGhost
import Derived.Deep.QuietTactic
import Derived.BigQuiet
import Derived.WideLaws
import Derived.Deep.DeepCutAuto
import Derived.Deep.CutBlock
import Derived.Deep.RegionHeld3
import Derived.Laws.Rows
import Derived.Lib.AppendStr
import Derived.ArgAppend
import Derived.Laws.IdiomCopy
import Derived.RowKit
import Derived.Shelf.Strings.SlTrimAscii
import Derived.Shelf.GgClosure.StringsIndexFuncTop
import Derived.Shelf.Strings.Builder1
import Derived.Shelf.Strings.Builder2
import Derived.Shelf.Strings.OnBuilder
import Derived.Shelf.Strings.Trim
import Derived.Shelf.Small.Utf8
import Derived.Shelf.Small.Bits
import Derived.Shelf.Small.Strs
import Derived.Shelf.Small.Wraps
import Derived.Shelf.Strings.BuilderF
import Derived.Shelf.Strings.BuilderK
import Derived.Shelf.Strings.BuilderRune
import Derived.Shelf.Utf8.AppendRunePlain
import Derived.Shelf.Strings.Builder2Cap
import Derived.Shelf.Strconv.Itoa0
import Derived.Shelf.Strings.Search1
import Derived.Shelf.Strings.Search2
import Derived.Shelf.Strings.Search3
import Derived.Shelf.LaysM
import Derived.Shelf.Strings.Shaped
import Derived.Shelf.GgClosure.StringsIndexFunc
import Derived.Ground.GgwProg
import Derived.Shelf.Strings.Prefix
import Derived.Shelf.Unicode.Latin
import Derived.Shelf.Strings.Runes
import Derived.Shelf.Strings.AsciiSet
import Derived.Shelf.Bits.Mul64
import Derived.Shelf.Strings.Repeat
import Derived.Shelf.Unicode.DecodeSlow
import Derived.Shelf.Unicode.DecodeAny
import Derived.Shelf.Unicode.CaseLookup
import Derived.Shelf.Unicode.CaseConvert
import Derived.Shelf.Unicode.CaseTo
import Derived.Shelf.Unicode.CaseLaid
import Derived.Shelf.Strings.MapAny
import Derived.Shelf.Strings.CaseAny
import Derived.Shelf.Strings.BuilderCap
import Derived.Ground.SlgnProg
import Derived.Shelf.SlicesE.Clone
import Derived.Lib.LaidU8
import Derived.Lib.LaidCase
import Derived.Maps.OwnSet
import Derived.ProofKit
import Derived.RangeFuncBox
import Derived.Laws.IdiomStrings
import Derived.Shelf.Abstract
import Derived.WalkSpells
import Derived.Outline
import Derived.Lib.AtoiErrMem
import Derived.Lib.Strings
import Derived.BigCall
import Derived.BigGuard
import Derived.Lib.Hide
import Derived.Lib.SlTrimSet
import Derived.Lib.MapLaws
import Derived.BigRegion
import Derived.LaidMore
import Derived.Lay
import Derived.PinnedBridge
import Derived.Lib.LaidIn
import Derived.SliceStrings
import Derived.ChangeSame
import Derived.Deep.DeepLaidRun
import Derived.OrdersHeld
import Derived.Laws.BitsLemmas
import Derived.Laws.Strings
import Derived.Laws.StructEq
import Derived.Lib.ItoaNum
import Derived.Laws.CopyOwn
import Derived.StillTailTactics
import Derived.Deep.RegionWith
import Derived.Lib.OthersKept
import Derived.Lib.TrimU
import Derived.RangeFuncWrites
import Derived.RangeFuncNested
import Derived.Lib.DecodeN
import Derived.RangeFuncBound
import Derived.RangeFuncCalls
import Derived.RangeFuncLeaves
import Derived.OwnWalkIn
import Derived.TacticsInMore
import Derived.LoopNIn
import Derived.LoopIn
import Derived.RegionIn
import Derived.TacticsIn
import Derived.Stop.RegionWithIn
import Derived.OpenShut
import Derived.ShutString
import Derived.ChangeOld
import Derived.SizedLaws
import Derived.SevenTiedAt
import Derived.Stop.Joined
import Derived.Deep.SlicePairs
import Derived.ChangeSlices
import Derived.Lib.TrimAscii
import Derived.Test.YtioofhilohmfbaaGreatDoorProg
import Derived.Test.YtioofhilohmfbaaGreatDoorRows
import Derived.Test.YtioofhilohmfbaaGreatDoorCards
import Derived.Test.YtioofhilohmfbaaGreatDoorTie
set_option linter.unusedVariables false
set_option linter.unusedSimpArgs false
set_option maxRecDepth 100000
set_option maxHeartbeats 8000000
namespace Go.Proofs.YtioofhilohmfbaaGreatDoorW.PrintWords
end Go.Proofs.YtioofhilohmfbaaGreatDoorW.PrintWords
namespace Go.Proofs.YtioofhilohmfbaaGreatDoorW.PrintLast
end Go.Proofs.YtioofhilohmfbaaGreatDoorW.PrintLast
namespace Go.Proofs.YtioofhilohmfbaaGreatDoorW.PrintMore
end Go.Proofs.YtioofhilohmfbaaGreatDoorW.PrintMore
namespace Go.Proofs.YtioofhilohmfbaaGreatDoor.P
end Go.Proofs.YtioofhilohmfbaaGreatDoor.P
theorem zDO {p : Prop} [Decidable p] (h : decide p = true) : p := of_decide_eq_true h
theorem zDT {p : Prop} [Decidable p] (h : p) : decide p = true := decide_eq_true h
theorem zDF {p : Prop} [Decidable p] (h : ¬ p) : decide p = false := decide_eq_false h
theorem zBE {α β : Type} {o : Option α} {f : α → Option β} {b : β} (h : o.bind f = some b) : ∃ a, o = some a ∧ f a = some b := Option.bind_eq_some_iff.mp h
open Go.Proofs Go.Proofs.YtioofhilohmfbaaGreatDoorW
section
open Go.RowKit
namespace Go.Proofs.YtioofhilohmfbaaGreatDoorW.PrintWords
structure zaa (p : Prop) : Prop where mk :: (out : p)
structure zaO (w w' : World) : Prop where mk :: (out : ∃ n, w' = w.drewN n)
theorem zaO.refl (w : World) : zaO w w := ⟨⟨0, rfl⟩⟩
theorem zaO.step {w w' : World} (h : zaO w w') (n : Nat) : zaO w (w'.drewN n) := by
 obtain ⟨m, rfl⟩ := h
 exact ⟨⟨m + n, World.drewN_drewN ..⟩⟩
theorem zaO.grown {w w' : World} (h : zaO w w') : Grown w w' := by
 obtain ⟨n, rfl⟩ := h
 induction n with
 | zero => exact Grown.refl _
 | succ n ih => rw [← World.drew_drewN]; exact Grown.drew ih
theorem zaO.below {w w' : World} (h : zaO w w') : Below w.heap.size w w' := by
 obtain ⟨n, rfl⟩ := h
 induction n with
 | zero => exact Below.refl _ _
 | succ n ih => rw [← World.drew_drewN]; exact ih.drew
def rd (xs : List Int) (i : Int) : Int := xs.getD i.toNat 0
def bt (s : ByteArray) (i : Int) : Int := if h : i.toNat < s.size then ((s[i.toNat]'h).toNat : Int) else 0
theorem zdE (s : ByteArray) (i : Int) : ∀ h : i.toNat < s.size, ((s[i.toNat]'h).toNat : Int) = bt s i := fun h => by simp [bt, h]
theorem zf7 (s : ByteArray) (i : Int) : 0 ≤ bt s i ∧ bt s i ≤ 255 := by
 unfold bt
 split
 ·rename_i h
  have := (s[i.toNat]'h).toNat_lt
  omega
 ·omega
def zqH (k : IntKind) (xs : List Int) : List Value := xs.map fun x => .int k x
theorem zam {w W : World} (h : Below w.heap.size w W) (o : Obj) : Below w.heap.size w (W.alloc o) := h.alloc h.size o
theorem zew {B : Nat} {w W : World} (h : Below B w W) : Below B w W.drew := ⟨h.os, h.tape, h.output, h.size, h.block⟩
theorem zao {B : Nat} {w W : World} (h : Below B w W) (n : Nat) : Below B w (W.drewN n) := ⟨h.os, h.tape, h.output, h.size, h.block⟩
theorem zkW {B : Nat} {w w1 w2 : World} (h : Below B w w1) (hB : B ≤ w1.heap.size) (k : Below w1.heap.size w1 w2) : Below B w w2 :=
 h.trans ⟨k.os, k.tape, k.output, k.size, fun i hi => k.block i (Nat.lt_of_lt_of_le hi hB)⟩
theorem zg2 {w w1 : World} (h : Below w.heap.size w w1) (row : Option Nat) : w.grownBy w1 row := ⟨h.os, h.tape, h.output, h.size, fun i hi _ => h.block i hi⟩
theorem zaE {w w1 : World} (h : Below w.heap.size w w1) {a : Addr} {v : Value} (hc : w.cell? a = some v) : w1.cell? a = some v := (h.cell (World.block_lt_of_cell? w a hc)).trans hc
theorem add_plain (g j : Nat) : (⟨g, 0, none⟩ : Addr).add j = ⟨g, j, none⟩ := by unfold Addr.add; split <;> simp_all
def zbS (w : World) (k : IntKind) (A : Option Addr) (n : Nat) (xs : List Int) : Prop :=
 xs.length = n ∧ n ≤ 9223372036854775807 ∧ (0 < n → ∃ ad, A = some ad ∧ ∀ j, j < n → w.cell? (ad.add j) = some (.int k (xs.getD j 0)))
theorem zbS.at_ {w : World} {k : IntKind} {A : Option Addr} {n : Nat} {xs : List Int} (h : zbS w k A n xs) (i : Int) (h0 : 0 ≤ i) (h1 : i < n) : ∃ ad, A = some ad ∧ w.cell? (ad.add i.toNat) = some (.int k (rd xs i)) := by
 obtain ⟨ad, e, hc⟩ := h.2.2 (by omega)
 exact ⟨ad, e, hc _ (by omega)⟩
theorem zbS.below {w w1 : World} {k : IntKind} {A : Option Addr} {n : Nat} {xs : List Int} (h : zbS w k A n xs) (hb : Below w.heap.size w w1) : zbS w1 k A n xs :=
 ⟨h.1, h.2.1, fun hn => by
  obtain ⟨ad, e, hc⟩ := h.2.2 hn
  exact ⟨ad, e, fun j hj => zaE hb (hc j hj)⟩⟩
theorem zoH (W : World) (base : Nat) (e : TypeId) (size : Nat) : W.ownsRow base e size (.slice none 0 0) 0 [] := ⟨by simp, .inl ⟨rfl, rfl⟩⟩
theorem zex {w : World} {base : Nat} {e : TypeId} {size n : Nat} {v : Value} {xs : List Value} (h : w.ownsRow base e size v n xs) (k : Nat) (hk : v.ownBlock = some k) : base ≤ k := by
 rcases h.2 with ⟨rfl, _⟩ | ⟨g, cap, cur, rfl, hb, _⟩
 ·simp [Value.ownBlock] at hk
 ·have : g = k := by simpa [Value.ownBlock] using hk
  omega
theorem zol {w : World} {base : Nat} {e : TypeId} {size n : Nat} {v : Value} {xs : List Value} (h : w.ownsRow base e size v n xs) (k : Nat) (hk : v.ownBlock = some k) : k < w.heap.size := by
 rcases h.2 with ⟨rfl, _⟩ | ⟨g, cap, cur, rfl, hb, hh, _⟩
 ·simp [Value.ownBlock] at hk
 ·have : g = k := by simpa [Value.ownBlock] using hk
  subst this
  exact (Array.getElem?_eq_some_iff.1 hh).1
theorem zfO {w w1 : World} {base : Nat} {e : TypeId} {size n : Nat} {v : Value} {xs : List Value} (h : w.ownsRow base e size v n xs) (hb : Below w.heap.size w w1) : w1.ownsRow base e size v n xs :=
 h.kept (zg2 hb none) (by cases v.ownBlock <;> simp)
theorem zlI {w w1 : World} {base : Nat} {e : TypeId} {size n : Nat} {v : Value} {xs : List Value} (h : w.ownsRow base e size v n xs) {row : Option Nat} (hg : w.grownBy w1 row) (hne : v.ownBlock = none ∨ v.ownBlock ≠ row) : w1.ownsRow base e size v n xs := h.kept hg hne
theorem zlJ {w : World} {base n : Nat} {e : TypeId} {size : Nat} {v : Value} {xs : List Value} (h : w.ownsRow base e size v n xs) : ∃ A c, v = .slice A n c := by
 rcases h.2 with ⟨rfl, rfl⟩ | ⟨g, cap, cur, rfl, _⟩
 ·exact ⟨none, 0, rfl⟩
 ·exact ⟨_, cap, rfl⟩
theorem zhl {P : Program} {w : World} {base n : Nat} {e' src dst e : TypeId} {v : Value} {xs : List Int} (hs : P.underlying src = some (.slice e)) (he : P.underlying e = some (.int .u8)) (hd : P.underlying dst = some .string)
  (h : w.ownsRow base e' 1 v n (zqH .u8 xs)) : (convert src dst v).run P w = .ok (.string (strOfNums xs)) w := by
 have hl : xs.length = n := by have := h.1; simp [zqH] at this; exact this
 rcases h.2 with ⟨rfl, rfl⟩ | ⟨g, cap, cur, rfl, _⟩
 ·obtain rfl : xs = [] := List.eq_nil_of_length_eq_zero hl
  exact run_convert_bytes_nil w src e hs he 0 0 dst hd
 ·refine run_convert_bytes_arg w src e hs he g 0 n cap xs hl (fun i hi => ?_) dst hd
  have hc := h.cells (g := g) rfl i (.int .u8 (xs.getD i 0)) (by simp [zqH, List.getElem?_eq_getElem (show i < xs.length by omega), List.getD_eq_getElem?_getD])
  have ha : (⟨g, 0, none⟩ : Addr).add i = ⟨g, 0 + i, none⟩ := by unfold Addr.add; split <;> simp_all
  rwa [ha] at hc
section
variable {P : Program} {ops : Array Oper} {rest : List Oper} {o : Oper} {a : Act} {Q : Exit → Act → World → Prop}
end
section
variable {P : Program}
end
section
variable {P : Program} {ops : Array Oper} {rest : List Oper} {o : Oper} {a : Act} {Q : Exit → Act → World → Prop}
end
theorem zbS.zit {w : World} {k : IntKind} {A : Option Addr} {n : Nat} {xs : List Int} (h : zbS w k A n xs) (i : Nat) (hi : i ≤ n) : zbS w k A i (xs.take i) := by
 refine ⟨by rw [List.length_take, h.1]; omega, by have := h.2.1; omega, fun hp => ?_⟩
 obtain ⟨ad, e, hc⟩ := h.2.2 (by omega)
 refine ⟨ad, e, fun j hj => ?_⟩
 rw [hc j (by omega)]
 simp [List.getD_eq_getElem?_getD, hj]
theorem zbS.zqI {w : World} {k : IntKind} {A : Option Addr} {n c : Nat} {xs : List Int} (h : zbS w k A n xs) (i : Nat) (hi : i ≤ n) (hc : n ≤ c) : zbS w k (if c = i then A else A.map (·.add i)) (n - i) (xs.drop i) := by
 refine ⟨by rw [List.length_drop, h.1], by have := h.2.1; omega, fun hp => ?_⟩
 obtain ⟨ad, rfl, hcell⟩ := h.2.2 (by omega)
 rw [if_neg (by omega)]
 refine ⟨ad.add i, rfl, fun j hj => ?_⟩
 have ha : (ad.add i).add j = ad.add (i + j) := by
  unfold Addr.add
  by_cases h1 : i = 0 <;> by_cases h2 : j = 0 <;> simp [h1, h2, Nat.add_assoc]
 rw [ha, hcell (i + j) (by omega)]
 simp [List.getD_eq_getElem?_getD, List.getElem?_drop]
def LeO {α : Type} (a b : Option α) : Prop := ∀ r, a = some r → b = some r
theorem LeO.refl {α : Type} (a : Option α) : LeO a a := fun _ h => h
theorem LeO.none {α : Type} (b : Option α) : LeO Option.none b := fun _ h => by cases h
theorem LeO.trans {α : Type} {a b c : Option α} (h : LeO a b) (k : LeO b c) : LeO a c := fun r hr => k r (h r hr)
theorem LeO.ite {α : Type} {c : Prop} [Decidable c] {a a' b b' : Option α} (h : LeO a a') (k : LeO b b') : LeO (if c then a else b) (if c then a' else b') := by
 split
 ·exact h
 ·exact k
theorem LeO.bind {α β : Type} {a a' : Option α} {f f' : α → Option β} (h : LeO a a') (k : ∀ x, LeO (f x) (f' x)) : LeO (a.bind f) (a'.bind f') := by
 intro r hr
 obtain ⟨x, hx, hf⟩ := Option.bind_eq_some_iff.1 hr
 exact Option.bind_eq_some_iff.2 ⟨x, h x hx, k x r hf⟩
theorem LeO.map {α β : Type} {a a' : Option α} (f : α → β) (h : LeO a a') : LeO (a.map f) (a'.map f) := by
 intro r hr
 obtain ⟨x, hx, hf⟩ := Option.map_eq_some_iff.1 hr
 exact Option.map_eq_some_iff.2 ⟨x, h x hx, hf⟩
theorem zgh {α : Type} {g : Nat → Option α} (h : ∀ k, LeO (g k) (g (k + 1))) (k : Nat) : ∀ j, LeO (g k) (g (k + j))
 | 0 => LeO.refl _
 | j + 1 => (zgh h k j).trans (h (k + j))
theorem zlK {α : Type} {g : Nat → Option α} (h : ∀ k, LeO (g k) (g (k + 1))) {k k' : Nat} (hk : k ≤ k') {r : α} (hr : g k = some r) : g k' = some r := by
 have := zgh h k (k' - k) r hr
 rwa [Nat.add_sub_cancel' hk] at this
def zb5 {α : Type} (R : α → List Value → Prop) (size : Nat) (ps : List α) (cs : List Value) : Prop :=
 cs.length = ps.length * size ∧ ∀ j p, ps[j]? = some p → R p ((cs.drop (j * size)).take size)
theorem zb5.none {α : Type} (R : α → List Value → Prop) (size : Nat) : zb5 R size [] [] := ⟨by simp, fun j p h => by simp at h⟩
theorem zb5.snoc {α : Type} {R : α → List Value → Prop} {size : Nat} {ps : List α} {cs c : List Value} {p : α} (h : zb5 R size ps cs) (hp : R p c) (hc : c.length = size) : zb5 R size (ps ++ [p]) (cs ++ c) := by
 refine ⟨by rw [List.length_append, h.1, hc, List.length_append, List.length_singleton, Nat.add_mul, Nat.one_mul], fun j q hq => ?_⟩
 rcases Nat.lt_or_ge j ps.length with hj | hj
 ·rw [List.getElem?_append_left hj] at hq
  have h1 : j * size + size ≤ cs.length := by rw [h.1, ← Nat.succ_mul]; exact Nat.mul_le_mul_right _ hj
  have h2 := h.2 j q hq
  rw [List.drop_append_of_le_length (by omega), List.take_append_of_le_length (by rw [List.length_drop]; omega)]
  exact h2
 ·have hj' : j = ps.length := by
   have := (List.getElem?_eq_some_iff.1 hq).1
   rw [List.length_append, List.length_singleton] at this
   omega
  subst hj'
  have hq' : p = q := by simpa using hq
  subst hq'
  rw [← h.1, List.drop_left, ← hc, List.take_length]
  exact hp
theorem zb5.zji {α : Type} {R R' : α → List Value → Prop} {size : Nat} {ps : List α} {cs : List Value} (h : zb5 R size ps cs) (hR : ∀ p c, R p c → R' p c) : zb5 R' size ps cs := ⟨h.1, fun j p hj => hR _ _ (h.2 j p hj)⟩
def zcw {α : Type} (R : α → List Value → Prop) (size : Nat) (w : World) (A : Option Addr) (n : Nat) (ps : List α) : Prop :=
 ps.length = n ∧ n ≤ 9223372036854775807 ∧ (0 < n → ∃ ad, A = some ad ∧ ∀ j p, ps[j]? = some p → ∃ c, c.length = size ∧ R p c ∧ ∀ i u, c[i]? = some u → w.cell? (ad.add (j * size + i)) = some u)
theorem zcw.zrf {α : Type} {R : α → List Value → Prop} {size : Nat} {w : World} {A : Option Addr} {n : Nat} {ps : List α} (h : zcw R size w A n ps) (d : α) (i : Int) (h0 : 0 ≤ i) (h1 : i < n) :
  ∃ ad c, A = some ad ∧ c.length = size ∧ R (ps.getD i.toNat d) c ∧ ∀ j u, c[j]? = some u → w.cell? (ad.add (i.toNat * size + j)) = some u := by
 obtain ⟨ad, e, hc⟩ := h.2.2 (by omega)
 have hl : i.toNat < ps.length := by have := h.1; omega
 obtain ⟨c, hs, hr, hcell⟩ := hc i.toNat _ (List.getElem?_eq_getElem hl)
 refine ⟨ad, c, e, hs, ?_, hcell⟩
 rw [List.getD_eq_getElem?_getD, List.getElem?_eq_getElem hl]
 exact hr
theorem zcw.zji {α : Type} {R R' : α → List Value → Prop} {size : Nat} {w w1 : World} {A : Option Addr} {n : Nat} {ps : List α} (h : zcw R size w A n ps) (hb : Below w.heap.size w w1) (hR : ∀ p c, R p c → R' p c) : zcw R' size w1 A n ps :=
 ⟨h.1, h.2.1, fun hn => by
  obtain ⟨ad, e, hc⟩ := h.2.2 hn
  refine ⟨ad, e, fun j p hj => ?_⟩
  obtain ⟨c, hs, hr, hcell⟩ := hc j p hj
  exact ⟨c, hs, hR _ _ hr, fun i u hu => zaE hb (hcell i u hu)⟩⟩
theorem zhS {α : Type} {R : α → List Value → Prop} {w : World} {base n size : Nat} {e : TypeId} {v : Value} {ps : List α} {cs : List Value} (h : w.ownsRow base e size v n cs) (hR : zb5 R size ps cs) (hn : ps.length = n) :
  ∃ A c, v = .slice A n c ∧ zcw R size w A n ps := by
 rcases Nat.eq_zero_or_pos n with h0 | h0
 ·rcases h.2 with ⟨rfl, rfl⟩ | ⟨g, cap, cur, rfl, _⟩
  ·exact ⟨none, 0, rfl, hn, by omega, fun hp => absurd hp (by omega)⟩
  ·exact ⟨_, cap, rfl, hn, by omega, fun hp => absurd hp (by omega)⟩
 ·obtain ⟨g, cap, rfl, _, _⟩ := h.form h0
  have hm : n ≤ 9223372036854775807 := by
   rcases h.2 with ⟨_, h1⟩ | ⟨g', cap', cur, he, _, _, h1, h2, _⟩
   ·omega
   ·simp only [maxLen] at h2
    omega
  refine ⟨_, cap, rfl, hn, hm, fun _ => ⟨_, rfl, fun j p hj => ⟨(cs.drop (j * size)).take size, ?_, hR.2 j p hj, fun i u hu => ?_⟩⟩⟩
  ·have hjl := (List.getElem?_eq_some_iff.1 hj).1
   have h1 : j * size + size ≤ cs.length := by rw [hR.1, ← Nat.succ_mul]; exact Nat.mul_le_mul_right _ hjl
   rw [List.length_take, List.length_drop]
   omega
  ·refine h.cells (g := g) rfl _ u ?_
   rw [List.getElem?_take] at hu
   split at hu
   ·rw [List.getElem?_drop] at hu
    exact hu
   ·cases hu
theorem zdL (ad : Addr) (m j : Nat) (hj : 0 < j) : ad.add (m + j) = ⟨(ad.add m).block, (ad.add m).off + j, none⟩ := by
 unfold Addr.add
 by_cases hm : m = 0
 ·subst hm
  simp [Nat.ne_of_gt hj]
 ·simp [hm, Nat.add_assoc]
section
variable {P : Program} {ops : Array Oper} {rest : List Oper} {o : Oper} {a : Act} {Q : Exit → Act → World → Prop}
theorem zdw {w0 W : World} (base : Nat) (hgd : o.guard = none) (s x : Operand) (t e : TypeId) (z : Value) (size bytes : Nat)
  (ho : o.op = .call { callee := .builtin .append, args := #[s, x], argTypes := #[t, t] })
  (ht : P.underlying t = some (.slice e)) (hinfo : (P.info? e).map (fun i => (i.zero, i.size, i.bytes)) = some (some z, size, bytes)) (hz : z.cells.size = size) (hs0 : 0 < size) (hb0 : 0 < bytes)
  (v : Value) (n : Nat) (xs ys : List Value) (hs : a.eval s = v) (hx : a.eval x = .slice (some ⟨W.heap.size, 0, none⟩) 1 1) (hys : ys.length = size) (h1 : ∀ u ∈ ys, u.oneCell' = true)
  (HO : W.ownsRow base e size v n xs) (HB : Below base w0 W) (hbase : base ≤ W.heap.size) (hl : (n + 1) * bytes ≤ 140737488355328)
  (h : ∀ v1 w1, w1.ownsRow base e size v1 (n + 1) (xs ++ ys) → Below base w0 w1 → W.grownBy w1 v.ownBlock → (v1.ownBlock = v.ownBlock ∨ ∃ b, v1.ownBlock = some b ∧ W.heap.size ≤ b) → wpList P ops Q rest (a.put o.dst v1) w1) :
  wpList P ops Q (o :: rest) a (W.alloc (.cells ys.toArray e)) := by
 obtain ⟨i0, hi, hzz⟩ := Option.map_eq_some_iff.1 hinfo
 simp only [Prod.mk.injEq] at hzz
 obtain ⟨hz0, hz1, hz2⟩ := hzz
 have hlen : n + 1 ≤ 140737488355328 := Nat.le_trans (Nat.le_mul_of_pos_right _ hb0) hl
 refine wpList_append_own_at (W.alloc (.cells ys.toArray e)) hgd s x t ho base e i0 z size bytes ht hi hz0 hz1 hz2 hz hs0 v n xs hs (HO.alloc _) ⟨W.heap.size, 0, none⟩ 1 1 ys hx (by rw [hys]; simp)
  (by simpa using World.news_of_block (cs := ys.toArray) (t := e) (fr := (0, 0)) (heap_alloc_new W (.cells ys.toArray e))) h1 (by simp only [maxLen]; omega) hl (by simp; omega) ?_
 intro v1 w1 hown hg _ hat
 refine h v1 w1 hown ((HB.alloc hbase _).grown hg (by simp; omega) (zex HO)) (World.grownBy.trans (World.grownBy_alloc W _ _) hg) ?_
 rcases hat with hat | hat
 ·exact .inl hat
 ·exact .inr ⟨_, hat, by simp⟩
end
theorem zlL {w : World} {base : Nat} {e t : TypeId} {size n g : Nat} {v : Value} {xs : List Value} {cs : Array Value} (h : w.ownsRow base e size v n xs) (hg : w.heap[g]? = some (.cells cs t (0, 0))) (hne : e ≠ t) : some g ≠ v.ownBlock := by
 rcases h.2 with ⟨rfl, _⟩ | ⟨g', cap, cur, rfl, _, hh, _⟩
 ·simp [Value.ownBlock]
 ·intro he
  have : g = g' := by simpa [Value.ownBlock] using he
  subst this
  rw [hg] at hh
  injection hh with hh
  injection hh with _ ht
  exact hne ht.symm
theorem zjl {w : World} {base : Nat} {e : TypeId} {size n : Nat} {v : Value} {xs : List Value} (h : w.ownsRow base e size v n xs) {p : Addr} (hne : some p.block ≠ v.ownBlock) (u : Value) : (w.setCell p u).ownsRow base e size v n xs := by
 obtain ⟨h1, h2⟩ := h
 refine ⟨h1, ?_⟩
 rcases h2 with h2 | ⟨g, cap, cur, rfl, hg, hh, r⟩
 ·exact .inl h2
 ·exact .inr ⟨g, cap, cur, rfl, hg, by rw [Below.heap_setCell _ _ _ _ (fun e => hne (by rw [e]; rfl))]; exact hh, r⟩
theorem zlM {w : World} {g : Nat} {t : TypeId} {cs : Array Value} (h : w.heap[g]? = some (.cells cs t (0, 0))) (i : Nat) (u : Value) : (w.setCell ⟨g, i, none⟩ u).heap[g]? = some (.cells (cs.setIfInBounds i u) t (0, 0)) := by
 simp [World.setCell, Array.getElem?_modify, h]
theorem zdT {w : World} {g : Nat} {t : TypeId} {cs : Array Value} (h : w.heap[g]? = some (.cells cs t (0, 0))) {p : Addr} (hp : g ≠ p.block) (u : Value) : (w.setCell p u).heap[g]? = some (.cells cs t (0, 0)) := (Below.heap_setCell w p u g hp).trans h
theorem zbg {w : World} {g : Nat} {o : Obj} (h : w.heap[g]? = some o) : g < w.heap.size := (Array.getElem?_eq_some_iff.1 h).1
theorem zah {w : World} {g : Nat} {t : TypeId} {cs : Array Value} (h : w.heap[g]? = some (.cells cs t (0, 0))) (i : Nat) : w.cell? ⟨g, i, none⟩ = cs[i]? := cell_of_row w g i cs t (0, 0) h
theorem zae {w : World} {g : Nat} {t : TypeId} {cs : Array Value} (h : w.heap[g]? = some (.cells cs t (0, 0))) (i : Nat) : w.frozen? ⟨g, i, none⟩ = false := by simp [World.frozen?, h]
theorem zgi {w w1 : World} {g : Nat} {o : Obj} {row : Option Nat} (h : w.heap[g]? = some o) (hg : w.grownBy w1 row) (hne : some g ≠ row) : w1.heap[g]? = some o := (hg.block g (zbg h) hne).trans h
def zb6 (w w' : World) (g : Nat) (row : Option Nat) : Prop := w.heap.size ≤ w'.heap.size ∧ ∀ i, i < w.heap.size → i ≠ g → some i ≠ row → w'.heap[i]? = w.heap[i]?
theorem zb6.refl (w : World) (g : Nat) (row : Option Nat) : zb6 w w g row := ⟨Nat.le_refl _, fun _ _ _ _ => rfl⟩
theorem zb6.znc {w w1 : World} {row : Option Nat} (h : w.grownBy w1 row) (g : Nat) : zb6 w w1 g row := ⟨h.size, fun i hi _ hr => h.block i hi hr⟩
theorem zb6.zkj {w w1 : World} (h : Below w.heap.size w w1) (g : Nat) (row : Option Nat) : zb6 w w1 g row := ⟨h.size, fun i hi _ _ => h.block i hi⟩
theorem zb6.zrg {w w1 : World} {g : Nat} {row : Option Nat} (h : zb6 w w1 g row) (j : Nat) (u : Value) : zb6 w (w1.setCell ⟨g, j, none⟩ u) g row :=
 ⟨by simpa [World.setCell] using h.1, fun i hi hg hr => (Below.heap_setCell w1 ⟨g, j, none⟩ u i hg).trans (h.2 i hi hg hr)⟩
theorem zb6.trans {w w1 w2 : World} {g : Nat} {row row1 : Option Nat} (h : zb6 w w1 g row) (k : zb6 w1 w2 g row1) (hr : row1 = row ∨ ∃ b, row1 = some b ∧ w.heap.size ≤ b) : zb6 w w2 g row :=
 ⟨Nat.le_trans h.1 k.1, fun i hi hg hn => by
  refine (k.2 i (Nat.lt_of_lt_of_le hi h.1) hg ?_).trans (h.2 i hi hg hn)
  rcases hr with rfl | ⟨b, rfl, hb⟩
  ·exact hn
  ·intro e
   injection e with e
   omega⟩
theorem zb6.blk {w w1 : World} {g g' : Nat} {row : Option Nat} {o : Obj} (h : zb6 w w1 g row) (hb : w.heap[g']? = some o) (hg : g' ≠ g) (hr : some g' ≠ row) : w1.heap[g']? = some o := (h.2 g' (zbg hb) hg hr).trans hb
theorem zb6.own {w w1 : World} {g : Nat} {row : Option Nat} {base : Nat} {e : TypeId} {size n : Nat} {v : Value} {xs : List Value} (h : zb6 w w1 g row) (ho : w.ownsRow base e size v n xs) (hg : v.ownBlock ≠ some g) (hr : v.ownBlock = none ∨ v.ownBlock ≠ row) : w1.ownsRow base e size v n xs := by
 obtain ⟨h1, h2⟩ := ho
 refine ⟨h1, ?_⟩
 rcases h2 with h2 | ⟨b, cap, cur, rfl, hb, hh, r⟩
 ·exact .inl h2
 ·refine .inr ⟨b, cap, cur, rfl, hb, h.blk hh ?_ ?_, r⟩
  ·intro e
   exact hg (by rw [← e]; rfl)
  ·rcases hr with hr | hr
   ·simp [Value.ownBlock] at hr
   ·exact hr
def Ev {α : Type} (g : Nat → Option α) (r : α) : Prop := ∃ K, ∀ k, K ≤ k → g k = some r
theorem Ev.of {α : Type} {g : Nat → Option α} {r : α} (hg : ∀ k, LeO (g k) (g (k + 1))) {k : Nat} (h : g k = some r) : Ev g r := ⟨k, fun _ hk => zlK hg hk h⟩
theorem Ev.now {α : Type} (r : α) : Ev (fun _ => some r) r := ⟨0, fun _ _ => rfl⟩
theorem Ev.rounds {α : Type} {g : Nat → Option α} {r : α} (h : Ev g r) : ∃ k, g k = some r := by
 obtain ⟨K, h⟩ := h
 exact ⟨K, h K (Nat.le_refl _)⟩
theorem Ev.bind {α β : Type} {g : Nat → Option α} {f : Nat → α → Option β} {a : α} {r : β} (h : Ev g a) (k : Ev (fun n => f n a) r) : Ev (fun n => (g n).bind (f n)) r := by
 obtain ⟨K, h⟩ := h
 obtain ⟨K', k⟩ := k
 refine ⟨max K K', fun n hn => ?_⟩
 have h1 := h n (by omega)
 have h2 := k n (by omega)
 simp only [h1, Option.bind_some]
 exact h2
theorem Ev.step {α : Type} {g f : Nat → Option α} {r : α} (h : ∀ k, g (k + 1) = f k) (k : Ev f r) : Ev g r := by
 obtain ⟨K, k⟩ := k
 refine ⟨K + 1, fun n hn => ?_⟩
 obtain ⟨m, rfl⟩ : ∃ m, n = m + 1 := ⟨n - 1, by omega⟩
 rw [h]
 exact k m (by omega)
theorem Ev.congr {α : Type} {g f : Nat → Option α} {r : α} (h : ∀ k, g k = f k) (k : Ev f r) : Ev g r := by
 obtain ⟨K, k⟩ := k
 exact ⟨K, fun n hn => (h n).trans (k n hn)⟩
section
variable {P : Program} {ops : Array Oper} {o : Oper} {a : Act} {Q : Exit → Act → World → Prop} {K : Act → World → Prop}
theorem zfr {w0 W : World} (base : Nat) (hw : Region.wanted o (yielded ops a.tmps) = true) (s x : Operand) (t e : TypeId) (z : Value) (size bytes : Nat)
  (ho : o.op = .call { callee := .builtin .append, args := #[s, x], argTypes := #[t, t] })
  (ht : P.underlying t = some (.slice e)) (hinfo : (P.info? e).map (fun i => (i.zero, i.size, i.bytes)) = some (some z, size, bytes)) (hz : z.cells.size = size) (hs0 : 0 < size) (hb0 : 0 < bytes)
  (v : Value) (n : Nat) (xs ys : List Value) (hs : a.eval s = v) (hx : a.eval x = .slice (some ⟨W.heap.size, 0, none⟩) 1 1) (hys : ys.length = size) (h1 : ∀ u ∈ ys, u.oneCell' = true)
  (HO : W.ownsRow base e size v n xs) (HB : Below base w0 W) (hbase : base ≤ W.heap.size) (hl : (n + 1) * bytes ≤ 140737488355328)
  (h : ∀ v1 w1, w1.ownsRow base e size v1 (n + 1) (xs ++ ys) → Below base w0 w1 → W.grownBy w1 v.ownBlock → (v1.ownBlock = v.ownBlock ∨ ∃ b, v1.ownBlock = some b ∧ W.heap.size ≤ b) → K (a.put o.dst v1) w1) :
  if Region.wanted o (yielded ops a.tmps) = true then Oper.wp P o a (W.alloc (.cells ys.toArray e)) K Q else K (a.put o.dst undef) (W.alloc (.cells ys.toArray e)) := by
 obtain ⟨i0, hi, hzz⟩ := Option.map_eq_some_iff.1 hinfo
 simp only [Prod.mk.injEq] at hzz
 obtain ⟨hz0, hz1, hz2⟩ := hzz
 have hlen : n + 1 ≤ 140737488355328 := Nat.le_trans (Nat.le_mul_of_pos_right _ hb0) hl
 rw [if_pos hw]
 obtain ⟨v1, w1, hr, hown, hg, _, hat⟩ := run_append_own_at (P := P) (W.alloc (.cells ys.toArray e)) base t o.type e i0 z size bytes ht hi hz0 hz1 hz2 hz hs0 v n xs (HO.alloc _) ⟨W.heap.size, 0, none⟩ 1 1 ys (by rw [hys]; simp)
  (by simpa using World.news_of_block (cs := ys.toArray) (t := e) (fr := (0, 0)) (heap_alloc_new W (.cells ys.toArray e))) h1 (by simp only [maxLen]; omega) hl (by simp; omega)
 unfold Oper.wp execOp
 simp only [ho, resolve, invoke, builtin, Sem.run_bind, Sem.run_pure, Result.andThen_ok, List.map_toArray, List.map_cons, List.map_nil, hs, hx, hr]
 refine h v1 w1 hown ((HB.alloc hbase _).grown hg (by simp; omega) (zex HO)) (World.grownBy.trans (World.grownBy_alloc W _ _) hg) ?_
 rcases hat with hat | hat
 ·exact .inl hat
 ·exact .inr ⟨_, hat, by simp⟩
end
theorem zkX {w : World} {base base' : Nat} {e : TypeId} {size n : Nat} {v : Value} {xs : List Value} (h : w.ownsRow base e size v n xs) (hb : base' ≤ base) : w.ownsRow base' e size v n xs := by
 obtain ⟨h1, h2⟩ := h
 refine ⟨h1, ?_⟩
 rcases h2 with h2 | ⟨g, cap, cur, rfl, hg, r⟩
 ·exact .inl h2
 ·exact .inr ⟨g, cap, cur, rfl, Nat.le_trans hb hg, r⟩
section
variable {α : Type} {enc : α → Value} {d : α}
def encs (enc : α → Value) (xs : List α) : List Value := xs.map enc
def zdd (d : α) (xs : List α) (i : Int) : α := xs.getD i.toNat d
theorem zdo (xs : List α) : (encs enc xs).length = xs.length := by simp [encs]
theorem zgj (xs ys : List α) : encs enc (xs ++ ys) = encs enc xs ++ encs enc ys := by simp [encs]
theorem zkk (xs : List α) (j : Nat) (h : j < xs.length) : (encs enc xs)[j]? = some (enc (xs.getD j d)) := by
 simp [encs, List.getElem?_eq_getElem h, List.getD_eq_getElem?_getD]
def zb0 (enc : α → Value) (d : α) (w : World) (A : Option Addr) (n : Nat) (xs : List α) : Prop :=
 xs.length = n ∧ n ≤ 9223372036854775807 ∧ (0 < n → ∃ ad, A = some ad ∧ ∀ j, j < n → w.cell? (ad.add j) = some (enc (xs.getD j d)))
theorem zb0.at_ {w : World} {A : Option Addr} {n : Nat} {xs : List α} (h : zb0 enc d w A n xs) (i : Int) (h0 : 0 ≤ i) (h1 : i < n) : ∃ ad, A = some ad ∧ w.cell? (ad.add i.toNat) = some (enc (zdd d xs i)) := by
 obtain ⟨ad, e, hc⟩ := h.2.2 (by omega)
 exact ⟨ad, e, hc _ (by omega)⟩
theorem zb0.below {w w1 : World} {A : Option Addr} {n : Nat} {xs : List α} (h : zb0 enc d w A n xs) (hb : Below w.heap.size w w1) : zb0 enc d w1 A n xs :=
 ⟨h.1, h.2.1, fun hn => by
  obtain ⟨ad, e, hc⟩ := h.2.2 hn
  exact ⟨ad, e, fun j hj => zaE hb (hc j hj)⟩⟩
theorem zb0.zit {w : World} {A : Option Addr} {n : Nat} {xs : List α} (h : zb0 enc d w A n xs) (i : Nat) (hi : i ≤ n) : zb0 enc d w A i (xs.take i) := by
 refine ⟨by rw [List.length_take, h.1]; omega, by have := h.2.1; omega, fun hp => ?_⟩
 obtain ⟨ad, e, hc⟩ := h.2.2 (by omega)
 refine ⟨ad, e, fun j hj => ?_⟩
 rw [hc j (by omega)]
 simp [List.getD_eq_getElem?_getD, hj]
theorem zb0.zqI {w : World} {A : Option Addr} {n c : Nat} {xs : List α} (h : zb0 enc d w A n xs) (i : Nat) (hi : i ≤ n) (hc : n ≤ c) : zb0 enc d w (if c = i then A else A.map (·.add i)) (n - i) (xs.drop i) := by
 refine ⟨by rw [List.length_drop, h.1], by have := h.2.1; omega, fun hp => ?_⟩
 obtain ⟨ad, rfl, hcell⟩ := h.2.2 (by omega)
 rw [if_neg (by omega)]
 refine ⟨ad.add i, rfl, fun j hj => ?_⟩
 have ha : (ad.add i).add j = ad.add (i + j) := by
  unfold Addr.add
  by_cases h1 : i = 0 <;> by_cases h2 : j = 0 <;> simp [h1, h2, Nat.add_assoc]
 rw [ha, hcell (i + j) (by omega)]
 simp [List.getD_eq_getElem?_getD, List.getElem?_drop]
theorem zlN {W : World} {base g n cap : Nat} {e : TypeId} {xs : List α} (h : W.ownsRow base e 1 (.slice (some ⟨g, 0, none⟩) n cap) n (encs enc xs)) (i : Int) (h0 : 0 ≤ i) (h1 : i < n) :
  W.cell? ⟨g, i.toNat, none⟩ = some (enc (zdd d xs i)) ∧ W.frozen? ⟨g, i.toNat, none⟩ = false := by
 have hl : xs.length = n := by have := h.1; simp [encs] at this; exact this
 constructor
 ·have hc := h.cells (g := g) rfl i.toNat _ (zkk (d := d) xs i.toNat (by omega))
  rwa [add_plain] at hc
 ·rcases h.2 with ⟨h', _⟩ | ⟨g', cap', cur, h', _, hh, _⟩
  ·cases h'
  ·have : g = g' := by injection h' with h'; injection h' with h'; injection h' with h'
   subst this
   simp [World.frozen?, hh]
theorem ziu {W : World} {base g n cap : Nat} {e : TypeId} {xs : List α} (h : W.ownsRow base e 1 (.slice (some ⟨g, 0, none⟩) n cap) n (encs enc xs)) (i : Int) (x : α) :
  (W.setCell ⟨g, i.toNat, none⟩ (enc x)).ownsRow base e 1 (.slice (some ⟨g, 0, none⟩) n cap) n (encs enc (xs.set i.toNat x)) ∧ W.grownBy (W.setCell ⟨g, i.toNat, none⟩ (enc x)) (some g) := by
 have hs := h.stored i.toNat (enc x)
 have he : (encs enc xs).set i.toNat (enc x) = encs enc (xs.set i.toNat x) := by simp [encs, List.map_set]
 rwa [he] at hs
end
section
variable {α : Type} {P : Program} {ops : Array Oper} {rest : List Oper} {o : Oper} {a : Act} {Q : Exit → Act → World → Prop}
end
theorem zai {w : World} {g : Nat} {o : Obj} (h : w.heap[g]? = some o) (o' : Obj) : (w.alloc o').heap[g]? = some o := (Below.heap_alloc w o' g (zbg h)).trans h
theorem zar {w : World} {g : Nat} {o : Obj} (h : w.heap[g]? = some o) : w.drew.heap[g]? = some o := h
theorem zap {w : World} {g : Nat} {o : Obj} (h : w.heap[g]? = some o) (n : Nat) : (w.drewN n).heap[g]? = some o := h
theorem zak {w w1 : World} {g : Nat} {o : Obj} (h : w.heap[g]? = some o) (hb : Below w.heap.size w w1) : w1.heap[g]? = some o := (hb.block g (zbg h)).trans h
theorem zcv (w : World) (o : Obj) : (w.alloc o).heap[w.heap.size]? = some o := heap_alloc_new w o
section
variable {P : Program}
theorem zba {fn : Func} {p u : Tmp} {ty : TypeId} (h : fn.results = #[.cell p ty, .tmp u]) (tmps : Array Value) (w : World) (g : Nat) (t : TypeId) (cs : Array Value) (fr : Nat × Nat) (d : TypeDesc)
  (hp : tmps.getD p undef = .pointer (some ⟨g, 0, none⟩)) (hg : w.heap[g]? = some (.cells cs t fr))
  (hu : P.underlying ty = some d) (hd : (match d with | .struct _ | .array _ _ => true | _ => false) = true) (hi : (P.info? ty).map (·.size) = some cs.size) :
  (results fn tmps).run P w = .ok (.tuple #[.agg cs, tmps.getD u undef]) w := by
 have hp' : tmps[p]?.getD undef = .pointer (some ⟨g, 0, none⟩) := by simpa using hp
 simp [results, h, hp', asAddr, run_loadVar_row w g t ty cs fr d hg hu hd hi]
theorem zdM {fn : Func} {p u : Tmp} {ty : TypeId} (h : fn.results = #[.tmp u, .cell p ty]) (tmps : Array Value) (w : World) (g : Nat) (t : TypeId) (cs : Array Value) (fr : Nat × Nat) (d : TypeDesc)
  (hp : tmps.getD p undef = .pointer (some ⟨g, 0, none⟩)) (hg : w.heap[g]? = some (.cells cs t fr))
  (hu : P.underlying ty = some d) (hd : (match d with | .struct _ | .array _ _ => true | _ => false) = true) (hi : (P.info? ty).map (·.size) = some cs.size) :
  (results fn tmps).run P w = .ok (.tuple #[tmps.getD u undef, .agg cs]) w := by
 have hp' : tmps[p]?.getD undef = .pointer (some ⟨g, 0, none⟩) := by simpa using hp
 simp [results, h, hp', asAddr, run_loadVar_row w g t ty cs fr d hg hu hd hi]
theorem zbl {fn : Func} {p u v : Tmp} {ty : TypeId} (h : fn.results = #[.cell p ty, .tmp u, .tmp v]) (tmps : Array Value) (w : World) (g : Nat) (t : TypeId) (cs : Array Value) (fr : Nat × Nat) (d : TypeDesc)
  (hp : tmps.getD p undef = .pointer (some ⟨g, 0, none⟩)) (hg : w.heap[g]? = some (.cells cs t fr))
  (hu : P.underlying ty = some d) (hd : (match d with | .struct _ | .array _ _ => true | _ => false) = true) (hi : (P.info? ty).map (·.size) = some cs.size) :
  (results fn tmps).run P w = .ok (.tuple #[.agg cs, tmps.getD u undef, tmps.getD v undef]) w := by
 have hp' : tmps[p]?.getD undef = .pointer (some ⟨g, 0, none⟩) := by simpa using hp
 simp [results, h, hp', asAddr, run_loadVar_row w g t ty cs fr d hg hu hd hi]
end
theorem zpV {w : World} {base n m c size : Nat} {e : TypeId} {A : Option Addr} {xs : List Value} (h : w.ownsRow base e size (.slice A m c) n xs) : m ≤ c := by
 rcases h.2 with ⟨he, _⟩ | ⟨g, cap, cur, he, _, _, hnc, _⟩
 ·injection he with _ h2 h3
  omega
 ·injection he with _ h2 h3
  omega
def zca {α : Type} (R : α → List Value → Prop) (e : TypeId) (size : Nat) (w : World) (base : Nat) (v : Value) (ps : List α) : Prop :=
 ∃ inner, w.ownsRow base e size v ps.length inner ∧ zb5 R size ps inner
section
variable {α : Type} {R R' : α → List Value → Prop} {e : TypeId} {size : Nat} {w w1 : World} {base : Nat} {v : Value} {ps : List α}
theorem zca.none_ (R : α → List Value → Prop) (e : TypeId) (size : Nat) (w : World) (base : Nat) : zca R e size w base (.slice none 0 0) [] := ⟨[], zoH _ _ _ _, zb5.none _ _⟩
theorem zca.zji (h : zca R e size w base v ps) (hR : ∀ p c, R p c → R' p c) : zca R' e size w base v ps := by
 obtain ⟨inner, ho, hr⟩ := h
 exact ⟨inner, ho, hr.zji hR⟩
theorem zca.below (h : zca R e size w base v ps) (hb : Below w.heap.size w w1) : zca R e size w1 base v ps := by
 obtain ⟨inner, ho, hr⟩ := h
 exact ⟨inner, zfO ho hb, hr⟩
theorem zca.other (h : zca R e size w base v ps) {row : Option Nat} (hg : w.grownBy w1 row) (hne : v.ownBlock = none ∨ v.ownBlock ≠ row) : zca R e size w1 base v ps := by
 obtain ⟨inner, ho, hr⟩ := h
 exact ⟨inner, zlI ho hg hne, hr⟩
theorem zca.zrg (h : zca R e size w base v ps) {g : Nat} {t : TypeId} {cells : Array Value} (hb : w.heap[g]? = some (.cells cells t (0, 0))) (ht : e ≠ t) (j : Nat) (u : Value) : zca R e size (w.setCell ⟨g, j, none⟩ u) base v ps := by
 obtain ⟨inner, ho, hr⟩ := h
 exact ⟨inner, zjl ho (zlL ho hb ht) u, hr⟩
theorem zca.keep (h : zca R e size w base v ps) {g : Nat} {t : TypeId} {cells : Array Value} (hb : w.heap[g]? = some (.cells cells t (0, 0))) (ht : e ≠ t) (hk : zb6 w w1 g none) : zca R e size w1 base v ps := by
 obtain ⟨inner, ho, hr⟩ := h
 exact ⟨inner, hk.own ho (Ne.symm (zlL ho hb ht)) (by cases v.ownBlock <;> simp), hr⟩
theorem zca.reads (h : zca R e size w base v ps) : ∃ A c, v = .slice A ps.length c ∧ ps.length ≤ c ∧ zcw R size w A ps.length ps := by
 obtain ⟨inner, ho, hr⟩ := h
 obtain ⟨A, c, rfl, hrow⟩ := zhS ho hr rfl
 exact ⟨A, c, rfl, zpV ho, hrow⟩
theorem zca.znd (h : zca R e size w base v ps) {g : Nat} {t : TypeId} {cells : Array Value} (hb : w.heap[g]? = some (.cells cells t (0, 0))) (ht : e ≠ t) : some g ≠ v.ownBlock := by
 obtain ⟨inner, ho, hr⟩ := h
 exact zlL ho hb ht
theorem zca.lit (W : World) (base : Nat) {inner : List Value} (hr : zb5 R size ps inner) (hb : base ≤ W.heap.size) (hm : ps.length ≤ 9223372036854775807) :
  zca R e size (W.alloc (.cells inner.toArray e)) base (.slice (some ⟨W.heap.size, 0, none⟩) ps.length ps.length) ps := by
 have h := World.ownsRow_lit (base := base) (e := e) (size := size) W inner.toArray ps.length hb (by simpa [maxLen] using hm) (by simpa using hr.1)
 exact ⟨inner, by simpa using h, hr⟩
end
section
variable {P : Program} {ops : Array Oper} {rest : List Oper} {o : Oper} {a : Act} {Q : Exit → Act → World → Prop} {α : Type} {R : α → List Value → Prop}
theorem zca.append {w0 W : World} (base : Nat) (hgd : o.guard = none) (s x : Operand) (t e : TypeId) (z : Value) (size bytes : Nat)
  (ho : o.op = .call { callee := .builtin .append, args := #[s, x], argTypes := #[t, t] })
  (ht : P.underlying t = some (.slice e)) (hinfo : (P.info? e).map (fun i => (i.zero, i.size, i.bytes)) = some (some z, size, bytes)) (hz : z.cells.size = size) (hs0 : 0 < size) (hb0 : 0 < bytes)
  (v : Value) (ps : List α) (p : α) (cs : List Value) (hs : a.eval s = v) (hx : a.eval x = .slice (some ⟨W.heap.size, 0, none⟩) 1 1) (hp : R p cs) (hcs : cs.length = size) (h1 : ∀ u ∈ cs, u.oneCell' = true)
  (HO : zca R e size W base v ps) (HB : Below base w0 W) (hbase : base ≤ W.heap.size) (hl : (ps.length + 1) * bytes ≤ 140737488355328)
  (h : ∀ v1 w1, zca R e size w1 base v1 (ps ++ [p]) → Below base w0 w1 → W.grownBy w1 v.ownBlock → (v1.ownBlock = v.ownBlock ∨ ∃ b, v1.ownBlock = some b ∧ W.heap.size ≤ b) → wpList P ops Q rest (a.put o.dst v1) w1) :
  wpList P ops Q (o :: rest) a (W.alloc (.cells cs.toArray e)) := by
 obtain ⟨inner, hown, hr⟩ := HO
 refine zdw base hgd s x t e z size bytes ho ht hinfo hz hs0 hb0 v ps.length inner cs hs hx hcs h1 hown HB hbase hl ?_
 intro v1 w1 hown1 hb1 hg1 hat1
 exact h v1 w1 ⟨inner ++ cs, by rw [List.length_append, List.length_singleton]; exact hown1, hr.snoc hp hcs⟩ hb1 hg1 hat1
end
section
variable {P : Program} {ops : Array Oper} {o : Oper} {a : Act} {Q : Exit → Act → World → Prop} {K : Act → World → Prop} {α : Type} {R : α → List Value → Prop}
end
theorem zcw.zpW {α : Type} {R : α → List Value → Prop} {size : Nat} {w : World} {ad : Addr} {n : Nat} {ps : List α} (h : zcw R size w (some ad) n ps) :
  ∃ inner, zb5 R size ps inner ∧ ∀ j u, inner[j]? = some u → w.cell? (ad.add j) = some u := by
 have key : ∀ m, m ≤ ps.length → ∃ inner, zb5 R size (ps.take m) inner ∧ ∀ j u, inner[j]? = some u → w.cell? (ad.add j) = some u := by
  intro m
  induction m with
  | zero => exact fun _ => ⟨[], zb5.none _ _, fun j u hu => by simp at hu⟩
  | succ m ih =>
   intro hm
   obtain ⟨inner, hr, hc⟩ := ih (by omega)
   obtain ⟨ad', he, hcell⟩ := h.2.2 (by have := h.1; omega)
   injection he with he
   subst he
   obtain ⟨c, hcl, hp, hcc⟩ := hcell m _ (List.getElem?_eq_getElem (show m < ps.length by omega))
   refine ⟨inner ++ c, ?_, fun j u hu => ?_⟩
   ·rw [List.take_succ_eq_append_getElem (show m < ps.length by omega)]
    exact hr.snoc hp hcl
   ·have hil : inner.length = m * size := by rw [hr.1, List.length_take, Nat.min_eq_left (by omega)]
    rcases Nat.lt_or_ge j inner.length with hj | hj
    ·rw [List.getElem?_append_left hj] at hu
     exact hc j u hu
    ·rw [List.getElem?_append_right hj] at hu
     have := hcc (j - inner.length) u hu
     rwa [hil, Nat.add_sub_cancel' (by omega)] at this
 obtain ⟨inner, hr, hc⟩ := key ps.length (Nat.le_refl _)
 rw [List.take_length] at hr
 exact ⟨inner, hr, hc⟩
section
variable {α : Type} {P : Program}
end
section
variable {P : Program} {ops : Array Oper} {rest : List Oper} {o : Oper} {a : Act} {Q : Exit → Act → World → Prop}
end
structure Kd (α : Type) where
 sz : Nat
 E : List Nat
 K : World → α → List Value → Prop
 M : World → Nat → (Nat → Prop) → α → List Value → Prop
 K_len : ∀ {w x cs}, K w x cs → cs.length = sz
 K_one : ∀ {w x cs}, K w x cs → ∀ u ∈ cs, u.oneCell' = true
 K_below : ∀ {w w1 : World} {x cs}, Below w.heap.size w w1 → K w x cs → K w1 x cs
 K_of_M : ∀ {w base ok x cs}, M w base ok x cs → K w x cs
 M_mono : ∀ {w base ok ok' x cs}, (∀ k, ok k → ok' k) → M w base ok x cs → M w base ok' x cs
 M_bound : ∀ {w : World} {base ok x cs}, M w base ok x cs → M w base (fun k => ok k ∧ base ≤ k ∧ k < w.heap.size ∧ ∃ q, q ∈ E ∧ ∃ cells, w.heap[k]? = some (.cells cells q (0, 0))) x cs
 M_move : ∀ {w w1 : World} {base ok x cs}, (∀ k, ok k → w1.heap[k]? = w.heap[k]?) → M w base ok x cs → M w1 base ok x cs
 M_lower : ∀ {w base base' ok x cs}, base' ≤ base → M w base ok x cs → M w base' ok x cs
theorem zne {w w1 : World} {base : Nat} {e : TypeId} {size n : Nat} {v : Value} {xs : List Value} (h : w.ownsRow base e size v n xs) (hm : ∀ k, v.ownBlock = some k → w1.heap[k]? = w.heap[k]?) : w1.ownsRow base e size v n xs := by
 obtain ⟨h1, h2⟩ := h
 refine ⟨h1, ?_⟩
 rcases h2 with h2 | ⟨g, cap, cur, rfl, hg, hh, r⟩
 ·exact .inl h2
 ·exact .inr ⟨g, cap, cur, rfl, hg, (hm g (by simp [Value.ownBlock])).trans hh, r⟩
theorem ziv {w : World} {base : Nat} {e : TypeId} {size n : Nat} {v : Value} {xs : List Value} (h : w.ownsRow base e size v n xs) (k : Nat) (hk : v.ownBlock = some k) : ∃ cells, w.heap[k]? = some (.cells cells e (0, 0)) := by
 rcases h.2 with ⟨rfl, _⟩ | ⟨g, cap, cur, rfl, hg, hh, r⟩
 ·simp [Value.ownBlock] at hk
 ·have : g = k := by simpa [Value.ownBlock] using hk
  subst this
  exact ⟨cur, hh⟩
namespace Kd
def C {α : Type} (d : Kd α) (w : World) (A : Option Addr) (n : Nat) (xs : List α) : Prop := zcw (d.K w) d.sz w A n xs
def R {α : Type} (d : Kd α) (e : Nat) (w : World) (base : Nat) (ok : Nat → Prop) (v : Value) (xs : List α) : Prop :=
 (∀ k, v.ownBlock = some k → ok k) ∧ zca (d.M w base (fun k => ok k ∧ some k ≠ v.ownBlock)) e d.sz w base v xs
section
variable {α : Type} {d : Kd α} {e : Nat} {w w1 : World} {base : Nat} {ok ok' : Nat → Prop} {v : Value} {xs : List α}
theorem zaY {A : Option Addr} {n : Nat} (h : d.C w A n xs) (hb : Below w.heap.size w w1) : d.C w1 A n xs := zcw.zji h hb (fun _ _ hp => d.K_below hb hp)
theorem zcl (d : Kd α) (e : Nat) (w : World) (base : Nat) (ok : Nat → Prop) : d.R e w base ok (.slice none 0 0) [] := ⟨fun k hk => by simp [Value.ownBlock] at hk, zca.none_ _ _ _ _ _⟩
theorem za7 (h : d.R e w base ok v xs) (hok : ∀ k, ok k → ok' k) : d.R e w base ok' v xs := ⟨fun k hk => hok k (h.1 k hk), h.2.zji (fun _ _ hp => d.M_mono (fun k hk => ⟨hok k hk.1, hk.2⟩) hp)⟩
theorem zdp (h : d.R e w base ok v xs) : d.R e w base (fun k => ok k ∧ base ≤ k ∧ k < w.heap.size ∧ ∃ q, q ∈ e :: d.E ∧ ∃ cells, w.heap[k]? = some (.cells cells q (0, 0))) v xs := by
 obtain ⟨h0, inner, ho, hr⟩ := h
 refine ⟨fun k hk => ?_, inner, ho, hr.zji (fun _ _ hp => d.M_mono (fun k hk => ?_) (d.M_bound hp))⟩
 ·obtain ⟨cells, hc⟩ := ziv ho k hk
  exact ⟨h0 k hk, zex ho k hk, zol ho k hk, e, List.mem_cons_self, cells, hc⟩
 ·obtain ⟨⟨h1, h2⟩, h3, h4, q, hq, hc⟩ := hk
  exact ⟨⟨h1, h3, h4, q, List.mem_cons_of_mem _ hq, hc⟩, h2⟩
theorem zlO (h : d.R e w base ok v xs) (hm : ∀ k, ok k → w1.heap[k]? = w.heap[k]?) : d.R e w1 base ok v xs := by
 obtain ⟨h0, inner, ho, hr⟩ := h
 exact ⟨h0, inner, zne ho (fun k hk => hm k (h0 k hk)), hr.zji (fun _ _ hp => d.M_move (fun k hk => hm k hk.1) hp)⟩
theorem zaz {base' : Nat} (h : d.R e w base ok v xs) (hb : base' ≤ base) : d.R e w base' ok v xs := by
 obtain ⟨h0, inner, ho, hr⟩ := h
 exact ⟨h0, inner, zkX ho hb, hr.zji (fun _ _ hp => d.M_lower hb hp)⟩
theorem ziw (h : d.R e w base ok v xs) (hm : ∀ k, ok k → k < w.heap.size → w1.heap[k]? = w.heap[k]?) : d.R e w1 base ok v xs :=
 za7 (zlO (zdp h) (fun k hk => hm k hk.1 hk.2.2.1)) (fun _ hk => hk.1)
theorem zom {x : α} {cs : List Value} (h : d.M w base ok x cs) (hm : ∀ k, ok k → k < w.heap.size → w1.heap[k]? = w.heap[k]?) : d.M w1 base ok x cs :=
 d.M_mono (fun _ hk => hk.1) (d.M_move (fun k hk => hm k hk.1 hk.2.2.1) (d.M_bound h))
theorem zaS (h : d.R e w base ok v xs) (hb : Below w.heap.size w w1) : d.R e w1 base ok v xs := ziw h (fun k _ hk => hb.block k hk)
theorem zlP {x : α} {cs : List Value} (h : d.M w base ok x cs) (hb : Below w.heap.size w w1) : d.M w1 base ok x cs := zom h (fun k _ hk => hb.block k hk)
theorem zoI (h : d.R e w base ok v xs) {row : Option Nat} (hg : w.grownBy w1 row) (hok : ∀ k, ok k → some k ≠ row) : d.R e w1 base ok v xs := ziw h (fun k ho hk => hg.block k hk (hok k ho))
theorem zck (h : d.R e w base ok v xs) {p : Addr} (hok : ∀ k, ok k → k ≠ p.block) (u : Value) : d.R e (w.setCell p u) base ok v xs := ziw h (fun k ho _ => Below.heap_setCell w p u k (hok k ho))
theorem zfs (h : d.R e w base ok v xs) {g t : Nat} {cells : Array Value} (hb : w.heap[g]? = some (.cells cells t (0, 0))) (ht : ∀ q, q ∈ e :: d.E → q ≠ t) : d.R e w base (fun k => ok k ∧ k ≠ g) v xs :=
 za7 (zdp h) (fun k hk => ⟨hk.1, by
  obtain ⟨_, _, _, q, hq, cells', hc⟩ := hk
  rintro rfl
  rw [hc] at hb
  injection hb with hb
  injection hb with _ hb
  exact ht q hq hb⟩)
theorem zjm (h : d.R e w base ok v xs) : ∃ A c, v = .slice A xs.length c ∧ xs.length ≤ c ∧ d.C w A xs.length xs := by
 obtain ⟨A, c, he, hl, hr⟩ := zca.reads h.2
 exact ⟨A, c, he, hl, hr.zji (Below.refl _ _) (fun _ _ hp => d.K_of_M hp)⟩
theorem zaC (h : d.R e w base ok v xs) : ∃ A c, v = .slice A xs.length c := by
 obtain ⟨A, c, he, _⟩ := zjm h
 exact ⟨A, c, he⟩
theorem zoJ (h : d.R e w base ok v xs) : ∃ inner, w.ownsRow base e d.sz v xs.length inner := by
 obtain ⟨_, inner, ho, _⟩ := h
 exact ⟨inner, ho⟩
theorem zf8 (h : d.R e w base ok v xs) {g t : Nat} {cells : Array Value} (hb : w.heap[g]? = some (.cells cells t (0, 0))) (ht : e ≠ t) : some g ≠ v.ownBlock := zca.znd h.2 hb ht
end
def scalar {α : Type} (enc : α → Value) (h1 : ∀ x, (enc x).oneCell' = true) : Kd α where
 sz := 1
 E := []
 K := fun _ x cs => cs = [enc x]
 M := fun _ _ _ x cs => cs = [enc x]
 K_len := fun h => by rw [h]; rfl
 K_one := fun h u hu => by
  rw [h] at hu
  rw [List.mem_singleton.1 hu]
  exact h1 _
 K_below := fun _ h => h
 K_of_M := fun h => h
 M_mono := fun _ h => h
 M_bound := fun h => h
 M_move := fun _ h => h
 M_lower := fun _ h => h
def int (k : IntKind) : Kd Int := scalar (Value.int k) (fun _ => rfl)
def bool : Kd Bool := scalar Value.bool (fun _ => rfl)
def string : Kd ByteArray := scalar Value.string (fun _ => rfl)
def slice {α : Type} (e : Nat) (d : Kd α) : Kd (List α) where
 sz := 1
 E := e :: d.E
 K := fun w xs cs => ∃ A c, cs = [.slice A xs.length c] ∧ xs.length ≤ c ∧ d.C w A xs.length xs
 M := fun w base ok xs cs => ∃ v, cs = [v] ∧ d.R e w base ok v xs
 K_len := by
  rintro w x cs ⟨A, c, rfl, _⟩
  rfl
 K_one := by
  rintro w x cs ⟨A, c, rfl, _⟩ u hu
  rw [List.mem_singleton.1 hu]
  rfl
 K_below := by
  rintro w w1 x cs hb ⟨A, c, rfl, hl, hr⟩
  exact ⟨A, c, rfl, hl, zaY hr hb⟩
 K_of_M := by
  rintro w base ok x cs ⟨v, rfl, h⟩
  obtain ⟨A, c, rfl, hl, hr⟩ := zjm h
  exact ⟨A, c, rfl, hl, hr⟩
 M_mono := by
  rintro w base ok ok' x cs hok ⟨v, rfl, h⟩
  exact ⟨v, rfl, za7 h hok⟩
 M_bound := by
  rintro w base ok x cs ⟨v, rfl, h⟩
  exact ⟨v, rfl, zdp h⟩
 M_move := by
  rintro w w1 base ok x cs hm ⟨v, rfl, h⟩
  exact ⟨v, rfl, zlO h hm⟩
 M_lower := by
  rintro w base base' ok x cs hb ⟨v, rfl, h⟩
  exact ⟨v, rfl, zaz h hb⟩
def pair {α β : Type} (a : Kd α) (b : Kd β) : Kd (α × β) where
 sz := a.sz + b.sz
 E := a.E ++ b.E
 K := fun w x cs => ∃ c0 c1, cs = c0 ++ c1 ∧ a.K w x.1 c0 ∧ b.K w x.2 c1
 M := fun w base ok x cs => ∃ c0 c1, cs = c0 ++ c1 ∧ a.M w base ok x.1 c0 ∧ b.M w base ok x.2 c1
 K_len := by
  rintro w x cs ⟨c0, c1, rfl, h0, h1⟩
  rw [List.length_append, a.K_len h0, b.K_len h1]
 K_one := by
  rintro w x cs ⟨c0, c1, rfl, h0, h1⟩ u hu
  rcases List.mem_append.1 hu with hu | hu
  ·exact a.K_one h0 u hu
  ·exact b.K_one h1 u hu
 K_below := by
  rintro w w1 x cs hb ⟨c0, c1, rfl, h0, h1⟩
  exact ⟨c0, c1, rfl, a.K_below hb h0, b.K_below hb h1⟩
 K_of_M := by
  rintro w base ok x cs ⟨c0, c1, rfl, h0, h1⟩
  exact ⟨c0, c1, rfl, a.K_of_M h0, b.K_of_M h1⟩
 M_mono := by
  rintro w base ok ok' x cs hok ⟨c0, c1, rfl, h0, h1⟩
  exact ⟨c0, c1, rfl, a.M_mono hok h0, b.M_mono hok h1⟩
 M_bound := by
  rintro w base ok x cs ⟨c0, c1, rfl, h0, h1⟩
  refine ⟨c0, c1, rfl, a.M_mono ?_ (a.M_bound h0), b.M_mono ?_ (b.M_bound h1)⟩
  ·rintro k ⟨h2, h3, h4, q, hq, hc⟩
   exact ⟨h2, h3, h4, q, List.mem_append_left _ hq, hc⟩
  ·rintro k ⟨h2, h3, h4, q, hq, hc⟩
   exact ⟨h2, h3, h4, q, List.mem_append_right _ hq, hc⟩
 M_move := by
  rintro w w1 base ok x cs hm ⟨c0, c1, rfl, h0, h1⟩
  exact ⟨c0, c1, rfl, a.M_move hm h0, b.M_move hm h1⟩
 M_lower := by
  rintro w base base' ok x cs hb ⟨c0, c1, rfl, h0, h1⟩
  exact ⟨c0, c1, rfl, a.M_lower hb h0, b.M_lower hb h1⟩
def iso {α β : Type} (d : Kd α) (f : β → α) : Kd β where
 sz := d.sz
 E := d.E
 K := fun w x cs => d.K w (f x) cs
 M := fun w base ok x cs => d.M w base ok (f x) cs
 K_len := d.K_len
 K_one := d.K_one
 K_below := d.K_below
 K_of_M := d.K_of_M
 M_mono := d.M_mono
 M_bound := d.M_bound
 M_move := d.M_move
 M_lower := d.M_lower
def bot {α : Type} (sz : Nat) (E : List Nat) : Kd α where
 sz := sz
 E := E
 K := fun _ _ _ => False
 M := fun _ _ _ _ _ => False
 K_len := fun h => h.elim
 K_one := fun h => h.elim
 K_below := fun _ h => h
 K_of_M := fun h => h
 M_mono := fun _ h => h
 M_bound := fun h => h
 M_move := fun _ h => h
 M_lower := fun _ h => h
def upto {α : Type} (F : Kd α → Kd α) (sz : Nat) (E : List Nat) : Nat → Kd α
 | 0 => bot sz E
 | n + 1 => F (upto F sz E n)
theorem znf {α : Type} {d : Kd α} {w : World} {A : Option Addr} {n : Nat} {xs : List α} (h : d.C w A n xs) (z : α) (i : Int) (h0 : 0 ≤ i) (h1 : i < n) :
  ∃ ad c, A = some ad ∧ c.length = d.sz ∧ d.K w (xs.getD i.toNat z) c ∧ ∀ j u, c[j]? = some u → w.cell? (ad.add (i.toNat * d.sz + j)) = some u := zcw.zrf h z i h0 h1
theorem zhm {α : Type} {d : Kd α} {e base : Nat} {ok okp : Nat → Prop} {W w1 : World} {v v1 : Value} {xs : List α} {p : α} {inner cs : List Value} (h0 : ∀ k, v.ownBlock = some k → ok k) (hr : zb5 (d.M W base (fun k => ok k ∧ some k ≠ v.ownBlock)) d.sz xs inner) (hp : d.M W base okp p cs) (hokp : ∀ k, okp k → ok k ∧ some k ≠ v.ownBlock) (hfresh : ∀ k, W.heap.size ≤ k → ok k)
  (hown : w1.ownsRow base e d.sz v1 (xs.length + 1) (inner ++ cs)) (hg : W.grownBy w1 v.ownBlock) (hat : v1.ownBlock = v.ownBlock ∨ ∃ b, v1.ownBlock = some b ∧ W.heap.size ≤ b) : d.R e w1 base ok v1 (xs ++ [p]) := by
 have hne : ∀ k, some k ≠ v.ownBlock → k < W.heap.size → some k ≠ v1.ownBlock := by
  intro k hk hlt
  rcases hat with hat | ⟨b, hb, hle⟩
  ·rw [hat]; exact hk
  ·rw [hb]
   intro he
   injection he with he
   omega
 have step : ∀ {q : α} {c : List Value} {o : Nat → Prop}, d.M W base o q c → (∀ k, o k → ok k ∧ some k ≠ v.ownBlock) → d.M w1 base (fun k => ok k ∧ some k ≠ v1.ownBlock) q c := by
  intro q c o hq ho
  have h1 := d.M_move (w1 := w1) (fun k hk => hg.block k hk.2.2.1 (ho k hk.1).2) (d.M_bound hq)
  exact d.M_mono (fun k hk => ⟨(ho k hk.1).1, hne k (ho k hk.1).2 hk.2.2.1⟩) h1
 refine ⟨fun k hk => ?_, inner ++ cs, by rw [List.length_append, List.length_singleton]; exact hown, ?_⟩
 ·rcases hat with hat | ⟨b, hb, hle⟩
  ·exact h0 k (hat ▸ hk)
  ·rw [hb] at hk
   injection hk with hk
   exact hfresh k (by omega)
 ·exact (hr.zji (fun _ _ hq => step hq (fun _ hk => hk))).snoc (step hp hokp) (d.K_len (d.K_of_M hp))
section
variable {P : Program} {ops : Array Oper} {rest : List Oper} {o : Oper} {a : Act} {Q : Exit → Act → World → Prop} {α : Type}
theorem zhT (d : Kd α) {w0 W : World} (base : Nat) (hgd : o.guard = none) (s x : Operand) (t e : TypeId) (z : Value) (bytes : Nat)
  (ho : o.op = .call { callee := .builtin .append, args := #[s, x], argTypes := #[t, t] })
  (ht : P.underlying t = some (.slice e)) (hinfo : (P.info? e).map (fun i => (i.zero, i.size, i.bytes)) = some (some z, d.sz, bytes)) (hz : z.cells.size = d.sz) (hs0 : 0 < d.sz) (hb0 : 0 < bytes)
  (v : Value) (xs : List α) (p : α) (cs : List Value) (ok okp : Nat → Prop) (hs : a.eval s = v) (hx : a.eval x = .slice (some ⟨W.heap.size, 0, none⟩) 1 1) (hp : d.M W base okp p cs) (hokp : ∀ k, okp k → ok k ∧ some k ≠ v.ownBlock) (hfresh : ∀ k, W.heap.size ≤ k → ok k)
  (HO : d.R e W base ok v xs) (HB : Below base w0 W) (hbase : base ≤ W.heap.size) (hl : (xs.length + 1) * bytes ≤ 140737488355328)
  (h : ∀ v1 w1, d.R e w1 base ok v1 (xs ++ [p]) → Below base w0 w1 → W.grownBy w1 v.ownBlock → (v1.ownBlock = v.ownBlock ∨ ∃ b, v1.ownBlock = some b ∧ W.heap.size ≤ b) → wpList P ops Q rest (a.put o.dst v1) w1) :
  wpList P ops Q (o :: rest) a (W.alloc (.cells cs.toArray e)) := by
 obtain ⟨h0, inner, hown, hr⟩ := HO
 refine zdw base hgd s x t e z d.sz bytes ho ht hinfo hz hs0 hb0 v xs.length inner cs hs hx (d.K_len (d.K_of_M hp)) (d.K_one (d.K_of_M hp)) hown HB hbase hl ?_
 intro v1 w1 hown1 hb1 hg1 hat1
 exact h v1 w1 (zhm h0 hr hp hokp hfresh hown1 hg1 hat1) hb1 hg1 hat1
end
section
variable {P : Program} {ops : Array Oper} {o : Oper} {a : Act} {Q : Exit → Act → World → Prop} {Kc : Act → World → Prop} {α : Type}
theorem zhU (d : Kd α) {w0 W : World} (base : Nat) (hw : Region.wanted o (yielded ops a.tmps) = true) (s x : Operand) (t e : TypeId) (z : Value) (bytes : Nat)
  (ho : o.op = .call { callee := .builtin .append, args := #[s, x], argTypes := #[t, t] })
  (ht : P.underlying t = some (.slice e)) (hinfo : (P.info? e).map (fun i => (i.zero, i.size, i.bytes)) = some (some z, d.sz, bytes)) (hz : z.cells.size = d.sz) (hs0 : 0 < d.sz) (hb0 : 0 < bytes)
  (v : Value) (xs : List α) (p : α) (cs : List Value) (ok okp : Nat → Prop) (hs : a.eval s = v) (hx : a.eval x = .slice (some ⟨W.heap.size, 0, none⟩) 1 1) (hp : d.M W base okp p cs) (hokp : ∀ k, okp k → ok k ∧ some k ≠ v.ownBlock) (hfresh : ∀ k, W.heap.size ≤ k → ok k)
  (HO : d.R e W base ok v xs) (HB : Below base w0 W) (hbase : base ≤ W.heap.size) (hl : (xs.length + 1) * bytes ≤ 140737488355328)
  (h : ∀ v1 w1, d.R e w1 base ok v1 (xs ++ [p]) → Below base w0 w1 → W.grownBy w1 v.ownBlock → (v1.ownBlock = v.ownBlock ∨ ∃ b, v1.ownBlock = some b ∧ W.heap.size ≤ b) → Kc (a.put o.dst v1) w1) :
  if Region.wanted o (yielded ops a.tmps) = true then Oper.wp P o a (W.alloc (.cells cs.toArray e)) Kc Q else Kc (a.put o.dst undef) (W.alloc (.cells cs.toArray e)) := by
 obtain ⟨h0, inner, hown, hr⟩ := HO
 refine zfr base hw s x t e z d.sz bytes ho ht hinfo hz hs0 hb0 v xs.length inner cs hs hx (d.K_len (d.K_of_M hp)) (d.K_one (d.K_of_M hp)) hown HB hbase hl ?_
 intro v1 w1 hown1 hb1 hg1 hat1
 exact h v1 w1 (zhm h0 hr hp hokp hfresh hown1 hg1 hat1) hb1 hg1 hat1
end
theorem zjn {α : Type} {enc : α → Value} (xs : List α) : zb5 (fun (x : α) (cs : List Value) => cs = [enc x]) 1 xs (encs enc xs) := by
 refine ⟨by simp [encs], fun j p hj => ?_⟩
 obtain ⟨hl, hp⟩ := List.getElem?_eq_some_iff.1 hj
 have hl' : j < (encs enc xs).length := by rw [zdo]; exact hl
 rw [Nat.mul_one, List.drop_eq_getElem_cons hl']
 simp [encs, hp]
theorem zkl {α : Type} {enc : α → Value} {h1 : ∀ x, (enc x).oneCell' = true} {e : Nat} {w : World} {base : Nat} {ok : Nat → Prop} {v : Value} {xs : List α} (ho : w.ownsRow base e 1 v xs.length (encs enc xs)) (hok : ∀ k, v.ownBlock = some k → ok k) : (scalar enc h1).R e w base ok v xs := ⟨hok, encs enc xs, ho, zjn xs⟩
theorem zeY {α : Type} {enc : α → Value} {h1 : ∀ x, (enc x).oneCell' = true} {e : Nat} {w : World} {base : Nat} {ok : Nat → Prop} {v : Value} {xs : List α} (h : (scalar enc h1).R e w base ok v xs) : w.ownsRow base e 1 v xs.length (encs enc xs) := by
 obtain ⟨_, inner, ho, hr⟩ := h
 have : inner = encs enc xs := by
  apply List.ext_getElem?
  intro j
  rcases Nat.lt_or_ge j xs.length with hj | hj
  ·have h2 := hr.2 j _ (List.getElem?_eq_getElem hj)
   have hl : j < inner.length := by have := hr.1; simp [scalar] at this; omega
   have h3 : (inner.drop (j * 1)).take 1 = [enc xs[j]] := h2
   rw [Nat.mul_one, List.drop_eq_getElem_cons hl] at h3
   have h4 : inner[j] = enc xs[j] := by
    have h5 := congrArg List.head? h3
    rw [List.take_succ_cons] at h5
    exact Option.some.inj h5
   rw [List.getElem?_eq_getElem hl, h4]
   simp [encs, List.getElem?_eq_getElem hj]
  ·have h3 : inner.length = xs.length := by have := hr.1; simp [scalar] at this; omega
   rw [List.getElem?_eq_none (by omega), List.getElem?_eq_none (by rw [zdo]; omega)]
 rw [← this]
 exact ho
theorem zft {α : Type} {enc : α → Value} {d : α} {h1 : ∀ x, (enc x).oneCell' = true} {w : World} {A : Option Addr} {n : Nat} {xs : List α} (h : (scalar enc h1).C w A n xs) : zb0 enc d w A n xs := by
 refine ⟨h.1, h.2.1, fun hn => ?_⟩
 obtain ⟨ad, e, hc⟩ := h.2.2 hn
 refine ⟨ad, e, fun j hj => ?_⟩
 have hl : j < xs.length := by have := h.1; omega
 obtain ⟨c, _, hK, hcell⟩ := hc j _ (List.getElem?_eq_getElem hl)
 have hK' : c = [enc xs[j]] := hK
 subst hK'
 have := hcell 0 _ rfl
 simpa [scalar, List.getD_eq_getElem?_getD, List.getElem?_eq_getElem hl] using this
end Kd
namespace Kd
structure zru {α β : Type} (F : Kd α → Kd β) : Prop where
 sz : ∀ d d' : Kd α, d.sz = d'.sz → (F d).sz = (F d').sz
 K : ∀ d d' : Kd α, d.sz = d'.sz → (∀ w x cs, d.K w x cs → d'.K w x cs) → ∀ w x cs, (F d).K w x cs → (F d').K w x cs
 M : ∀ d d' : Kd α, d.sz = d'.sz → (∀ w base ok x cs, d.M w base ok x cs → d'.M w base ok x cs) → ∀ w base ok x cs, (F d).M w base ok x cs → (F d').M w base ok x cs
section
variable {α : Type} {F : Kd α → Kd α} {sz : Nat} {E : List Nat} {hs : ∀ n, (upto F sz E n).sz = sz} {hE : ∀ n q, q ∈ (upto F sz E n).E → q ∈ E}
end
end Kd
namespace Kd
end Kd
namespace Kd
section
variable {α β : Type} {d : Kd α} {d' : Kd β} {e e' : Nat} {w w1 W : World} {base b b' : Nat} {ok ok' okv oku : Nat → Prop} {v u : Value} {xs : List α} {ys : List β}
theorem zaQ (h : d.R e w base ok v xs) (o : Obj) : d.R e (w.alloc o) base ok v xs := zaS h (zam (Below.refl _ _) o)
theorem zbb (h : d.R e w base ok v xs) : d.R e w.drew base ok v xs := zaS h (zew (Below.refl _ _))
theorem zaR (h : d.R e w base ok v xs) (m : Nat) : d.R e (w.drewN m) base ok v xs := zaS h (zao (Below.refl _ _) m)
theorem zdF {A : Option Addr} {n : Nat} (h : d.C w A n xs) (o : Obj) : d.C (w.alloc o) A n xs := zaY h (zam (Below.refl _ _) o)
theorem zeG {A : Option Addr} {n : Nat} (h : d.C w A n xs) : d.C w.drew A n xs := zaY h (zew (Below.refl _ _))
theorem zdq {A : Option Addr} {n : Nat} (h : d.C w A n xs) (m : Nat) : d.C (w.drewN m) A n xs := zaY h (zao (Below.refl _ _) m)
theorem zoK (d : Kd α) (w : World) : d.C w none ([] : List α).length [] := ⟨rfl, by simp, fun h => absurd h (Nat.lt_irrefl 0)⟩
theorem zqJ {A : Option Addr} {n : Nat} (h : d.C w A n xs) : n ≤ 9223372036854775807 := h.2.1
theorem zax {A : Option Addr} {n c : Nat} (h : d.R e w base ok (.slice A n c) xs) : n = xs.length ∧ n ≤ c ∧ d.C w A xs.length xs := by
 obtain ⟨A', c', he, hl, hr⟩ := zjm h
 injection he with h1 h2 h3
 subst h1
 exact ⟨h2, by omega, hr⟩
theorem zcH (h : d.R e w base ok v xs) : ∀ k, v.ownBlock = some k → k < w.heap.size := by
 obtain ⟨inner, ho⟩ := zoJ h
 exact zol ho
theorem zbk (h : d.R e w base ok v xs) : ∀ k, v.ownBlock = some k → base ≤ k := by
 obtain ⟨inner, ho⟩ := zoJ h
 exact zex ho
theorem zdN (h : d.R e w base ok v xs) {g : Nat} (hok : ∀ k, ok k → k ≠ g) : some g ≠ v.ownBlock := fun e => hok g (h.1 g e.symm) rfl
theorem zc4 (h : d.R e w base ok v xs) (hp : 0 < xs.length) : ∃ g cap, v = .slice (some ⟨g, 0, none⟩) xs.length cap ∧ base ≤ g ∧ g < w.heap.size ∧ ∃ cells, w.heap[g]? = some (.cells cells e (0, 0)) := by
 obtain ⟨inner, ho⟩ := zoJ h
 obtain ⟨g, cap, he, hb, hl⟩ := ho.form hp
 obtain ⟨cells, hc⟩ := ziv ho g (by rw [he]; simp [Value.ownBlock])
 exact ⟨g, cap, he, hb, hl, cells, hc⟩
end
section
variable {w W : World} {A : Option Addr} {n : Nat}
theorem zbT {k : IntKind} {xs : List Int} (h : (Kd.int k).C w A n xs) (i : Int) (h0 : 0 ≤ i) (h1 : i < n) : ∃ ad, A = some ad ∧ w.cell? (ad.add i.toNat) = some (.int k (rd xs i)) :=
 zb0.at_ (zft (enc := Value.int k) (d := (0 : Int)) (h1 := fun _ => rfl) h) i h0 h1
theorem zeZ {xs : List ByteArray} (h : Kd.string.C w A n xs) (i : Int) (h0 : 0 ≤ i) (h1 : i < n) : ∃ ad, A = some ad ∧ w.cell? (ad.add i.toNat) = some (.string (zdd ByteArray.empty xs i)) :=
 zb0.at_ (zft (enc := Value.string) (d := ByteArray.empty) (h1 := fun _ => rfl) h) i h0 h1
variable {α : Type} {enc : α → Value} {h1 : ∀ x, (enc x).oneCell' = true} {e base g cap : Nat} {ok : Nat → Prop} {xs : List α}
theorem zpX (d : α) (h : (scalar enc h1).R e W base ok (.slice (some ⟨g, 0, none⟩) xs.length cap) xs) (i : Int) (h0 : 0 ≤ i) (hi : i < xs.length) : W.cell? ⟨g, i.toNat, none⟩ = some (enc (zdd d xs i)) ∧ W.frozen? ⟨g, i.toNat, none⟩ = false := zlN (zeY h) i h0 hi
theorem zqK (h : (scalar enc h1).R e W base ok (.slice (some ⟨g, 0, none⟩) xs.length cap) xs) (i : Int) (x : α) : (scalar enc h1).R e (W.setCell ⟨g, i.toNat, none⟩ (enc x)) base ok (.slice (some ⟨g, 0, none⟩) xs.length cap) (xs.set i.toNat x) ∧ W.grownBy (W.setCell ⟨g, i.toNat, none⟩ (enc x)) (some g) := by
 obtain ⟨ho, hg⟩ := ziu (zeY h) i x
 exact ⟨zkl (by rw [List.length_set]; exact ho) h.1, hg⟩
end
section
variable {P : Program} {ops : Array Oper} {rest : List Oper} {o : Oper} {a : Act} {Q : Exit → Act → World → Prop}
theorem ze0 {W w1 : World} {v : Value} (hgd : o.guard = none) (hrun : (execOp a.eval o).run P W = .ok (.value v) w1) (h : wpList P ops Q rest (a.put o.dst v) w1) : wpList P ops Q (o :: rest) a W := by
 refine wpList_plain hgd fun K hK => ?_
 unfold Oper.wp
 rw [hrun]
 exact hK _ _ h
variable {α : Type}
theorem zf2 (d : Kd α) {w0 W : World} (base e : Nat) (hgd : o.guard = none) {N : Tmp} (_hd : o.dst = some N) {xs : List α} {inner : List Value} {ok okp : Nat → Prop}
  (hrun : (execOp a.eval o).run P W = .ok (.value (.slice (some ⟨W.heap.size, 0, none⟩) xs.length xs.length)) (W.alloc (.cells inner.toArray e)))
  (hrep : zb5 (d.M W base okp) d.sz xs inner) (hok : ∀ k, okp k → ok k) (hfresh : ok W.heap.size) (HB : Below base w0 W) (hbase : base ≤ W.heap.size) (hm : xs.length ≤ 9223372036854775807)
  (h : ∀ v1 w1, d.R e w1 base ok v1 xs → Below base w0 w1 → W.grownBy w1 none → (∃ b, v1.ownBlock = some b ∧ W.heap.size ≤ b) → wpList P ops Q rest (a.put o.dst v1) w1) : wpList P ops Q (o :: rest) a W := by
 refine ze0 hgd hrun (h _ _ ⟨fun k hk => ?_, inner, ?_, ?_⟩ (HB.alloc hbase _) (World.grownBy_alloc W _ none) ⟨W.heap.size, by simp [Value.ownBlock], Nat.le_refl _⟩)
 ·have : W.heap.size = k := by simpa [Value.ownBlock] using hk
  subst this
  exact hfresh
 ·have h2 := World.ownsRow_lit (base := base) (e := e) (size := d.sz) W inner.toArray xs.length hbase (by simpa [maxLen] using hm) (by simpa using hrep.1)
  simpa using h2
 ·refine hrep.zji (fun p c hp => d.M_mono (fun k hk => ⟨hok k hk.1, fun he => ?_⟩) (zlP (d.M_bound hp) (zam (Below.refl _ _) _)))
  have h3 : k = W.heap.size := by simpa [Value.ownBlock] using he
  have := hk.2.2.1
  omega
theorem zlQ {α : Type} {R : α → List Value → Prop} {z : Value} {size : Nat} {z0 : α} (hz : z.cells.size = size) (hs : 0 < size) (h0 : R z0 z.cells.toList) (m : Nat) : zb5 R size (List.replicate m z0) (madeCells z.cells (m * size)).toList := by
 refine ⟨by simp [size_madeCells], fun j p hj => ?_⟩
 obtain ⟨hjl, hp⟩ := List.getElem?_eq_some_iff.1 hj
 have hjm : j < m := by simpa using hjl
 have hp' : z0 = p := by simpa using hp
 subst hp'
 have hle : j * size + size ≤ m * size := by rw [← Nat.succ_mul]; exact Nat.mul_le_mul_right _ hjm
 have : ((madeCells z.cells (m * size)).toList.drop (j * size)).take size = z.cells.toList := by
  apply List.ext_getElem
  ·simp [size_madeCells, hz]
   omega
  ·intro i h1 h2
   have hi : i < size := by rw [Array.length_toList, hz] at h2; exact h2
   have hmod : (j * size + i) % size = i := by
    rw [Nat.mul_comm, Nat.mul_add_mod]
    exact Nat.mod_eq_of_lt hi
   simp [madeCells, hz, hmod]
   rw [getElem!_pos z.cells i (by omega)]
 rw [this]
 exact h0
theorem zeH (d : Kd α) {w0 W : World} (base e : Nat) (hgd : o.guard = none) {N : Tmp} (hd : o.dst = some N) (t : TypeId) (x y : Operand) (ho : o.op = .makeSlice t x y) (n : Int) (hx : a.eval x = .int .i64 n) (hy : a.eval y = .int .i64 n)
  (ht : P.underlying t = some (.slice e)) (z : Value) (bytes : Nat) (hinfo : (P.info? e).map (fun i => (i.zero, i.size, i.bytes)) = some (some z, d.sz, bytes)) (hz : z.cells.size = d.sz) (hs0 : 0 < d.sz) (hb0 : 0 < bytes)
  (z0 : α) {ok okp : Nat → Prop} (hzero : d.M W base okp z0 z.cells.toList) (hok : ∀ k, okp k → ok k) (hfresh : ok W.heap.size) (h0 : 0 ≤ n) (hl : n.toNat * bytes ≤ 281474976710656) (HB : Below base w0 W) (hbase : base ≤ W.heap.size)
  (h : ∀ v1 w1, d.R e w1 base ok v1 (List.replicate n.toNat z0) → Below base w0 w1 → W.grownBy w1 none → (∃ b, v1.ownBlock = some b ∧ W.heap.size ≤ b) → wpList P ops Q rest (a.put o.dst v1) w1) : wpList P ops Q (o :: rest) a W := by
 obtain ⟨m, rfl⟩ := Int.eq_ofNat_of_zero_le h0
 simp only [Int.toNat_natCast] at hl h
 obtain ⟨i0, hi, hzz⟩ := Option.map_eq_some_iff.1 hinfo
 simp only [Prod.mk.injEq] at hzz
 obtain ⟨hz0, hz1, hz2⟩ := hzz
 have hm : m ≤ 281474976710656 := Nat.le_trans (Nat.le_mul_of_pos_right _ hb0) hl
 have hr := run_make (P := P) W t e i0 z ht hi hz0 .i64 .i64 (m : Int) (m : Int) (by omega) (by omega)
  (by
   have h3 : ((i0.bytes * m : Nat) : Int) ≤ 281474976710656 := by rw [hz2, Nat.mul_comm]; omega
   rwa [Int.natCast_mul] at h3) (by omega)
 simp only [Int.toNat_natCast] at hr
 rw [hz1] at hr
 refine zf2 d base e hgd hd (xs := List.replicate m z0) (inner := (madeCells z.cells (m * d.sz)).toList) (okp := okp) (ok := ok) ?_ (zlQ hz hs0 hzero m) hok hfresh HB hbase (by simp; omega) h
 simp [execOp, ho, hx, hy, hr]
end
end Kd
theorem zng {w : World} {base n m c size : Nat} {e : TypeId} {A : Option Addr} {xs : List Value} (h : w.ownsRow base e size (.slice A n c) n xs) (hm : m ≤ n) : w.ownsRow base e size (.slice A m c) m (xs.take (m * size)) := by
 obtain ⟨h1, h2⟩ := h
 refine ⟨by rw [List.length_take, h1]; exact Nat.min_eq_left (Nat.mul_le_mul_right _ hm), ?_⟩
 rcases h2 with ⟨he, h0⟩ | ⟨g, cap, cur, he, hb, hh, hnc, hcm, hcs, ht⟩
 ·injection he with ha _ hc
  subst ha; subst hc
  exact .inl ⟨by rw [show m = 0 by omega], by omega⟩
 ·injection he with ha _ hc
  subst ha; subst hc
  refine .inr ⟨g, c, cur, rfl, hb, hh, by omega, hcm, hcs, ?_⟩
  rw [← ht, List.take_take, Nat.min_eq_left (Nat.mul_le_mul_right _ hm)]
section
variable {P : Program}
theorem zon (t e : TypeId) (kh : IntKind) {i : TypeInfo} (ht : P.underlying t = some (.slice e)) (hi : P.info? e = some i) (A : Option Addr) (n c : Nat) (j : Int) (h0 : 0 ≤ j) (hm : j ≤ n) (hc : n ≤ c) :
  ∀ W : World, (Instr.slice t (.slice A n c) none (some (.int kh j)) none).run P W = .ok (.slice A j.toNat c) W := by
 intro W
 have hel : P.elem t = e := by simp [Program.elem, ht]
 have hu : P.underlying t = some (.slice (P.elem t)) := by rw [hel]; exact ht
 have ha : (A.map fun x => x.add 0) = A := by cases A <;> simp [Addr.add]
 rw [run_slice_h W t A n c hu kh j h0 (by omega), hel]
 simp [sizeOf, typeInfo, hi, sliced, Result.andThen, ha]
end
def zpU (w : World) (base : Nat) (e : TypeId) (size : Nat) (v : Value) (n : Nat) (xs : List Value) : Prop :=
  xs.length = n * size ∧
  ((n = 0 ∧ ∃ A, v = .slice A 0 0 ∧ ∀ a, A = some a → base ≤ a.block ∧ ∃ cur, w.heap[a.block]? = some (.cells cur e (0, 0))) ∨
   ∃ g off cap cur, v = .slice (some ⟨g, off * size, none⟩) n cap ∧ base ≤ g ∧ w.heap[g]? = some (.cells cur e (0, 0)) ∧ n ≤ cap ∧ off + cap ≤ maxLen ∧ cur.size = (off + cap) * size ∧ (cur.toList.drop (off * size)).take (n * size) = xs)
section
variable {w w1 : World} {base n size : Nat} {e : TypeId} {v : Value} {xs : List Value}
theorem znh (h : w.ownsRow base e size v n xs) : zpU w base e size v n xs := by
 obtain ⟨h1, h2⟩ := h
 refine ⟨h1, ?_⟩
 rcases h2 with ⟨rfl, h0⟩ | ⟨g, cap, cur, rfl, hb, hh, hnc, hcm, hcs, ht⟩
 ·exact .inl ⟨h0, none, rfl, fun a ha => by cases ha⟩
 ·exact .inr ⟨g, 0, cap, cur, by rw [Nat.zero_mul], hb, hh, hnc, by rw [Nat.zero_add]; exact hcm, by rw [Nat.zero_add]; exact hcs, by rw [Nat.zero_mul, List.drop_zero]; exact ht⟩
theorem zoL (h : zpU w base e size v n xs) (k : Nat) (hk : v.ownBlock = some k) : base ≤ k ∧ ∃ cells, w.heap[k]? = some (.cells cells e (0, 0)) := by
 rcases h.2 with ⟨_, A, rfl, hA⟩ | ⟨g, off, cap, cur, rfl, hg, hh, r⟩
 ·cases A with
  | none => simp [Value.ownBlock] at hk
  | some a =>
   have : a.block = k := by simpa [Value.ownBlock] using hk
   subst this
   exact hA a rfl
 ·have : g = k := by simpa [Value.ownBlock] using hk
  subst this
  exact ⟨hg, cur, hh⟩
theorem zoM (h : zpU w base e size v n xs) : ∃ A c, v = .slice A n c ∧ n ≤ c := by
 rcases h.2 with ⟨h0, A, rfl, _⟩ | ⟨g, off, cap, cur, rfl, hg, hh, hnc, r⟩
 ·exact ⟨A, 0, by rw [h0], by omega⟩
 ·exact ⟨_, cap, rfl, hnc⟩
theorem zqL (h : zpU w base e size v n xs) : n ≤ 9223372036854775807 := by
 rcases h.2 with ⟨h0, _⟩ | ⟨g, off, cap, cur, rfl, hg, hh, hnc, hm, r⟩
 ·omega
 ·simp only [maxLen] at hm
  omega
theorem zoo (g o j : Nat) : (⟨g, o, none⟩ : Addr).add j = ⟨g, o + j, none⟩ := by unfold Addr.add; split <;> simp_all
theorem zlR {A : Option Addr} {c : Nat} (h : zpU w base e size (.slice A n c) n xs) (hn : 0 < n) : ∃ ad, A = some ad ∧ ∀ j u, xs[j]? = some u → w.cell? (ad.add j) = some u := by
 rcases h.2 with ⟨h0, _⟩ | ⟨g, off, cap, cur, he, hg, hh, hnc, hm, hcs, ht⟩
 ·omega
 ·injection he with ha _ hc
  subst ha
  refine ⟨_, rfl, fun j u hu => ?_⟩
  rw [zoo, cell_of_row w g _ cur e (0, 0) hh]
  rw [← ht, List.getElem?_take] at hu
  split at hu
  ·rw [List.getElem?_drop] at hu
   rw [← Array.getElem?_toList]
   exact hu
  ·cases hu
theorem zeh {g : Nat} : ∀ (vs : List Value) (o : Nat) {w : World} (k : Nat), k ≠ g → (w.setCells g o vs).heap[k]? = w.heap[k]?
 | [], _, _, _, _ => rfl
 | v :: r, o, w, k, hk => by
  rw [World.setCells, zeh r (o + 1) k hk]
  exact Below.heap_setCell w ⟨g, o, none⟩ v k hk
theorem zdU (g : Nat) : ∀ (vs : List Value) (o : Nat) (w : World), (w.setCells g o vs).os = w.os ∧ (w.setCells g o vs).tape = w.tape ∧ (w.setCells g o vs).output = w.output ∧ (w.setCells g o vs).heap.size = w.heap.size
 | [], _, _ => ⟨rfl, rfl, rfl, rfl⟩
 | v :: r, o, w => by
  obtain ⟨h1, h2, h3, h4⟩ := zdU g r (o + 1) (w.setCell ⟨g, o, none⟩ v)
  rw [World.setCells]
  exact ⟨h1, h2, h3, by rw [h4]; simp [World.setCell]⟩
theorem zei {g : Nat} {e : TypeId} : ∀ (vs : List Value) (o : Nat) (w : World) (cur : Array Value), w.heap[g]? = some (.cells cur e (0, 0)) → o + vs.length ≤ cur.size →
  ∃ cur', (w.setCells g o vs).heap[g]? = some (.cells cur' e (0, 0)) ∧ cur'.size = cur.size ∧ cur'.toList = cur.toList.take o ++ vs ++ cur.toList.drop (o + vs.length)
 | [], o, w, cur, h, _ => ⟨cur, h, rfl, by simp⟩
 | v :: r, o, w, cur, h, hl => by
  have h2 := zlM h o v
  simp only [List.length_cons] at hl
  obtain ⟨cur', h3, h4, h5⟩ := zei r (o + 1) (w.setCell ⟨g, o, none⟩ v) _ h2 (by simp; omega)
  refine ⟨cur', h3, by rw [h4]; simp, ?_⟩
  rw [h5, Array.toList_setIfInBounds]
  have ho : o < cur.toList.length := by rw [Array.length_toList]; omega
  rw [List.take_set, List.drop_set_of_lt (by omega)]
  simp only [List.length_cons]
  rw [show o + 1 + r.length = o + (r.length + 1) by omega]
  congr 1
  rw [List.take_succ_eq_append_getElem ho, List.set_append_right _ _ (by rw [List.length_take]; omega)]
  have ho' : o < cur.size := by omega
  simp [Nat.min_eq_left (Nat.le_of_lt ho')]
end
section
variable {P : Program}
end
namespace Kd
theorem zlS {α : Type} {R : α → List Value → Prop} {size m : Nat} {ps : List α} {cs : List Value} (h : zb5 R size ps cs) (hm : m ≤ ps.length) : zb5 R size (ps.take m) (cs.take (m * size)) := by
 refine ⟨by rw [List.length_take, List.length_take, h.1, Nat.min_eq_left hm, Nat.min_eq_left (Nat.mul_le_mul_right _ hm)], fun j p hj => ?_⟩
 rw [List.getElem?_take] at hj
 split at hj
 ·rename_i hjm
  have := h.2 j p hj
  have hle : j * size + size ≤ m * size := by rw [← Nat.succ_mul]; exact Nat.mul_le_mul_right _ hjm
  rw [List.drop_take, List.take_take, Nat.min_eq_left (by omega)]
  exact this
 ·cases hj
theorem zpY {α : Type} {d : Kd α} {e m n c : Nat} {w : World} {base : Nat} {ok : Nat → Prop} {A : Option Addr} {xs : List α} (h : d.R e w base ok (.slice A n c) xs) (hm : m ≤ xs.length) : d.R e w base ok (.slice A m c) (xs.take m) := by
 obtain ⟨h0, inner, ho, hr⟩ := h
 have hn : n = xs.length := by
  obtain ⟨A', c', he⟩ := zlJ ho
  injection he
 subst hn
 have hb : ∀ x y : Nat, (Value.slice A x c).ownBlock = (Value.slice A y c).ownBlock := by
  intro x y
  cases A <;> rfl
 refine ⟨fun k hk => h0 k (by rw [hb _ m]; exact hk), inner.take (m * d.sz), ?_, ?_⟩
 ·rw [List.length_take, Nat.min_eq_left hm]
  exact zng ho hm
 ·rw [hb m xs.length]
  exact zlS hr hm
def Q {α : Type} (d : Kd α) (e : Nat) (w : World) (base : Nat) (ok : Nat → Prop) (v : Value) (xs : List α) : Prop :=
 (∀ k, v.ownBlock = some k → ok k) ∧ ∃ inner, zpU w base e d.sz v xs.length inner ∧ zb5 (d.M w base (fun k => ok k ∧ some k ≠ v.ownBlock)) d.sz xs inner
section
variable {α : Type} {d : Kd α} {e : Nat} {w w1 W : World} {base : Nat} {ok ok' : Nat → Prop} {v : Value} {xs : List α}
theorem zpZ (h : d.R e w base ok v xs) : d.Q e w base ok v xs := by
 obtain ⟨h0, inner, ho, hr⟩ := h
 exact ⟨h0, inner, znh ho, hr⟩
theorem zdf (d : Kd α) (e : Nat) (w : World) (base : Nat) (ok : Nat → Prop) : d.Q e w base ok (.slice none 0 0) [] := zpZ (zcl d e w base ok)
theorem zhV {A : Option Addr} {n c : Nat} (h : d.Q e w base ok (.slice A n c) xs) : n = xs.length ∧ n ≤ c ∧ d.C w A xs.length xs := by
 obtain ⟨_, inner, ho, hr⟩ := h
 obtain ⟨A', c', he, hl⟩ := zoM ho
 injection he with h1 h2 h3
 subst h1; subst h2; subst h3
 refine ⟨rfl, hl, rfl, zqL ho, fun hp => ?_⟩
 obtain ⟨ad, ha, hc⟩ := zlR ho hp
 refine ⟨ad, ha, fun j p hj => ⟨(inner.drop (j * d.sz)).take d.sz, ?_, d.K_of_M (hr.2 j p hj), fun i u hu => ?_⟩⟩
 ·have hjl := (List.getElem?_eq_some_iff.1 hj).1
  have h1 : j * d.sz + d.sz ≤ inner.length := by rw [hr.1, ← Nat.succ_mul]; exact Nat.mul_le_mul_right _ hjl
  rw [List.length_take, List.length_drop]
  omega
 ·refine hc _ u ?_
  rw [List.getElem?_take] at hu
  split at hu
  ·rw [List.getElem?_drop] at hu
   exact hu
  ·cases hu
end
section
variable {P : Program} {ops : Array Oper} {rest : List Oper} {o : Oper} {a : Act} {Q' : Exit → Act → World → Prop} {Kc : Act → World → Prop} {α : Type}
end
end Kd
namespace Kd
section
variable {α : Type} {d : Kd α} {e e' : Nat} {w w1 W : World} {base : Nat} {ok : Nat → Prop} {u v : Value} {xs : List α}
theorem zf9 (hu : d.R e W base ok u xs) (hbase : ∀ k, v.ownBlock = some k → W.heap.size ≤ k) (hb : Below W.heap.size W w1) : d.R e w1 base (fun k => ok k ∧ some k ≠ v.ownBlock) u xs :=
 za7 (zlO (zdp hu) (fun k hk => hb.block k hk.2.2.1)) (fun k hk => ⟨hk.1, fun he => by have := hbase k he.symm; have := hk.2.2.1; omega⟩)
theorem zbq (h : d.R e w1 W.heap.size ok v xs) (hlt : ∀ k, u.ownBlock = some k → k < W.heap.size) : d.R e w1 W.heap.size (fun k => ok k ∧ some k ≠ u.ownBlock) v xs :=
 za7 (zdp h) (fun k hk => ⟨hk.1, fun he => by have := hlt k he.symm; have := hk.2.1; omega⟩)
theorem zop (hlt : ∀ k, u.ownBlock = some k → k < W.heap.size) : ∀ k, W.heap.size ≤ k → some k ≠ u.ownBlock := fun k hk he => by have := hlt k he.symm; omega
end
end Kd
theorem zgk {α : Type} (a seg : List α) (o : Nat) (h : o + seg.length ≤ a.length) (q : Nat) :
  (a.take o ++ seg ++ a.drop (o + seg.length))[q]? = if q < o then a[q]? else if q < o + seg.length then seg[q - o]? else a[q]? := by
 have hl : (a.take o).length = o := by rw [List.length_take]; omega
 rw [List.append_assoc]
 by_cases h1 : q < o
 ·rw [if_pos h1, List.getElem?_append_left (by omega), List.getElem?_take, if_pos h1]
 ·rw [if_neg h1, List.getElem?_append_right (by omega), hl]
  by_cases h2 : q < o + seg.length
  ·rw [if_pos h2, List.getElem?_append_left (by omega)]
  ·rw [if_neg h2, List.getElem?_append_right (by omega), List.getElem?_drop]
   congr 1
   omega
namespace Kd
section
variable {α : Type} {d : Kd α} {e base g n cap : Nat} {ok okp : Nat → Prop} {W : World} {xs : List α}
end
end Kd
namespace Kd
section
variable {α : Type} {F : Kd α → Kd α} {sz : Nat} {E : List Nat} {hs : ∀ n, (upto F sz E n).sz = sz} {hE : ∀ n q, q ∈ (upto F sz E n).E → q ∈ E}
end
end Kd
namespace Kd
theorem zjo {α : Type} {R : α → List Value → Prop} {size : Nat} {ps qs : List α} {cs ds : List Value} (h : zb5 R size ps cs) (h' : zb5 R size qs ds) : zb5 R size (ps ++ qs) (cs ++ ds) := by
 refine ⟨by rw [List.length_append, List.length_append, h.1, h'.1, Nat.add_mul], fun j p hj => ?_⟩
 rcases Nat.lt_or_ge j ps.length with hlt | hge
 ·rw [List.getElem?_append_left hlt] at hj
  have hle : j * size + size ≤ cs.length := by rw [h.1, ← Nat.succ_mul]; exact Nat.mul_le_mul_right _ hlt
  rw [List.drop_append_of_le_length (by omega), List.take_append_of_le_length (by rw [List.length_drop]; omega)]
  exact h.2 j p hj
 ·rw [List.getElem?_append_right hge] at hj
  have h2 := h'.2 (j - ps.length) p hj
  have hle : ps.length * size ≤ j * size := Nat.mul_le_mul_right _ hge
  rw [List.drop_append, List.drop_eq_nil_of_le (by rw [h.1]; exact hle), List.nil_append, h.1, ← Nat.sub_mul]
  exact h2
section
variable {P : Program} {ops : Array Oper} {rest : List Oper} {o : Oper} {a : Act} {Q : Exit → Act → World → Prop} {α : Type}
theorem zhW (d : Kd α) {Rr : α → List Value → Prop} {w0 W : World} (base : Nat) (hgd : o.guard = none) (s x : Operand) (t e : TypeId) (z : Value) (bytes : Nat)
  (ho : o.op = .call { callee := .builtin .append, args := #[s, x], argTypes := #[t, t] })
  (ht : P.underlying t = some (.slice e)) (hinfo : (P.info? e).map (fun i => (i.zero, i.size, i.bytes)) = some (some z, d.sz, bytes)) (hz : z.cells.size = d.sz) (hs0 : 0 < d.sz) (hb0 : 0 < bytes)
  (v : Value) (xs ys : List α) (A : Option Addr) (m c : Nat) (ok okp : Nat → Prop) (hs : a.eval s = v) (hx : a.eval x = .slice A m c)
  (HO : d.R e W base ok v xs) (HR : zcw Rr d.sz W A m ys) (hKM : ∀ x cs, Rr x cs → d.M W base okp x cs) (hokp : ∀ k, okp k → ok k ∧ some k ≠ v.ownBlock) (hfresh : ∀ k, W.heap.size ≤ k → ok k)
  (HB : Below base w0 W) (hbase : base ≤ W.heap.size) (hl : (xs.length + m) * bytes ≤ 140737488355328)
  (h : ∀ v1 w1, d.R e w1 base ok v1 (xs ++ ys) → Below base w0 w1 → W.grownBy w1 v.ownBlock → (v1.ownBlock = v.ownBlock ∨ ∃ b, v1.ownBlock = some b ∧ W.heap.size ≤ b) → wpList P ops Q rest (a.put o.dst v1) w1) :
  wpList P ops Q (o :: rest) a W := by
 obtain ⟨i0, hi, hzz⟩ := Option.map_eq_some_iff.1 hinfo
 simp only [Prod.mk.injEq] at hzz
 obtain ⟨hz0, hz1, hz2⟩ := hzz
 have hm : ys.length = m := HR.1
 have hlen : xs.length + m ≤ 140737488355328 := Nat.le_trans (Nat.le_mul_of_pos_right _ hb0) hl
 obtain ⟨hok, inner, hown, hr⟩ := HO
 have hrun : ∃ v1 w1, (Builtin.append_ #[t, t] o.type #[v, .slice A m c]).run P W = .ok v1 w1 ∧ d.R e w1 base ok v1 (xs ++ ys) ∧ W.grownBy w1 v.ownBlock ∧ (v1.ownBlock = v.ownBlock ∨ ∃ b, v1.ownBlock = some b ∧ W.heap.size ≤ b) := by
  rcases A with _ | ad
  ·have h0 : m = 0 := by
    rcases Nat.eq_zero_or_pos m with h0 | h0
    ·exact h0
    ·obtain ⟨ad, h, _⟩ := HR.2.2 h0
     cases h
   subst h0
   obtain rfl : ys = [] := List.eq_nil_of_length_eq_zero hm
   refine ⟨v, W, ?_, by rw [List.append_nil]; exact ⟨hok, inner, hown, hr⟩, World.grownBy.refl W _, .inl rfl⟩
   rcases hown.2 with ⟨rfl, hn⟩ | ⟨g, cap, cur, rfl, _, _, hnc, _⟩
   ·simp [Builtin.append_, run_underlying ht, sizeOf, typeInfo, hi, Builtin.lenOf, Builtin.firstCells]
   ·simp [Builtin.append_, run_underlying ht, sizeOf, typeInfo, hi, Builtin.lenOf, Builtin.firstCells, hnc, storeCells]
  ·obtain ⟨news, hnr, hnc⟩ := zcw.zpW HR
   have hnM : zb5 (d.M W base okp) d.sz ys news := hnr.zji (fun p c hp => hKM p c hp)
   have hone : ∀ u ∈ news, u.oneCell' = true := by
    intro u hu
    obtain ⟨q, hq, rfl⟩ := List.mem_iff_getElem.1 hu
    have hql : q / d.sz < ys.length := by
     rw [Nat.div_lt_iff_lt_mul hs0]
     rw [← hnM.1]
     exact hq
    have hc := hnM.2 (q / d.sz) _ (List.getElem?_eq_getElem hql)
    refine d.K_one (d.K_of_M hc) _ ?_
    rw [List.mem_iff_getElem?]
    refine ⟨q % d.sz, ?_⟩
    rw [List.getElem?_take, if_pos (Nat.mod_lt _ hs0), List.getElem?_drop, Nat.mul_comm, Nat.div_add_mod, List.getElem?_eq_getElem hq]
   obtain ⟨v1, w1, hrun, h2, hg, _, hat⟩ := run_append_own_at (P := P) W base t o.type e i0 z d.sz bytes ht hi hz0 hz1 hz2 hz hs0 v xs.length inner hown ad m c news (by rw [hnM.1, hm]) hnc hone (by simp only [maxLen]; omega) hl hbase
   have hat' : v1.ownBlock = v.ownBlock ∨ ∃ b, v1.ownBlock = some b ∧ W.heap.size ≤ b := by
    rcases hat with hat | hat
    ·exact .inl hat
    ·exact .inr ⟨_, hat, Nat.le_refl _⟩
   have hne : ∀ k, some k ≠ v.ownBlock → k < W.heap.size → some k ≠ v1.ownBlock := by
    intro k hk hlt
    rcases hat' with hat | ⟨b, hb, hle⟩
    ·rw [hat]; exact hk
    ·rw [hb]
     intro he
     injection he with he
     omega
   have step : ∀ {q : α} {c : List Value} {o : Nat → Prop}, d.M W base o q c → (∀ k, o k → ok k ∧ some k ≠ v.ownBlock) → d.M w1 base (fun k => ok k ∧ some k ≠ v1.ownBlock) q c := by
    intro q c o hq ho
    have h1 := d.M_move (w1 := w1) (fun k hk => hg.block k hk.2.2.1 (ho k hk.1).2) (d.M_bound hq)
    exact d.M_mono (fun k hk => ⟨(ho k hk.1).1, hne k (ho k hk.1).2 hk.2.2.1⟩) h1
   refine ⟨v1, w1, hrun, ⟨fun k hk => ?_, inner ++ news, by rw [List.length_append, hm]; exact h2, zjo (hr.zji (fun _ _ hq => step hq (fun _ hk => hk))) (hnM.zji (fun _ _ hq => step hq hokp))⟩, hg, hat'⟩
   rcases hat' with hat | ⟨b, hb, hle⟩
   ·exact hok k (hat ▸ hk)
   ·rw [hb] at hk
    injection hk with hk
    exact hfresh k (by omega)
 obtain ⟨v1, w1, hr1, h1, hg, hat⟩ := hrun
 refine wpList_plain hgd fun K hK => ?_
 unfold Oper.wp execOp
 simp only [ho, resolve, invoke, builtin, Sem.run_bind, Sem.run_pure, Result.andThen_ok, List.map_toArray, List.map_cons, List.map_nil, hs, hx, hr1]
 exact hK _ _ (h v1 w1 h1 (HB.grown hg hbase (zex hown)) hg hat)
end
end Kd
namespace Kd
section
variable {P : Program} {ops : Array Oper} {rest : List Oper} {o : Oper} {a : Act} {Q : Exit → Act → World → Prop} {α : Type}
end
end Kd
theorem add_add (a : Addr) (i j : Nat) : (a.add i).add j = a.add (i + j) := by
 unfold Addr.add
 by_cases h1 : i = 0 <;> by_cases h2 : j = 0 <;> simp [h1, h2, Nat.add_assoc]
namespace Kd
section
variable {α : Type} {k : Kd α} {w : World} {A : Option Addr} {xs : List α} {m c : Nat}
theorem zoq (h : k.C w A xs.length xs) (hm : m ≤ xs.length) : k.C w A (xs.take m).length (xs.take m) := by
 have hl : (xs.take m).length = m := by rw [List.length_take]; omega
 refine ⟨rfl, by rw [hl]; have := h.2.1; omega, fun hp => ?_⟩
 obtain ⟨ad, e, hc⟩ := h.2.2 (by omega)
 refine ⟨ad, e, fun j p hj => hc j p ?_⟩
 rw [List.getElem?_take] at hj
 split at hj
 ·exact hj
 ·cases hj
theorem zp0 (h : k.C w A xs.length xs) (hm : m ≤ xs.length) (hc : xs.length ≤ c) : k.C w (if c = m then A else A.map (·.add (m * k.sz))) (xs.drop m).length (xs.drop m) := by
 have hl : (xs.drop m).length = xs.length - m := List.length_drop
 refine ⟨rfl, by rw [hl]; have := h.2.1; omega, fun hp => ?_⟩
 rw [hl] at hp
 obtain ⟨ad, rfl, hcell⟩ := h.2.2 (by omega)
 rw [if_neg (by omega)]
 refine ⟨ad.add (m * k.sz), rfl, fun j p hj => ?_⟩
 rw [List.getElem?_drop] at hj
 obtain ⟨cs, h1, h2, h3⟩ := hcell (m + j) p hj
 refine ⟨cs, h1, h2, fun i u hu => ?_⟩
 rw [add_add, show m * k.sz + (j * k.sz + i) = (m + j) * k.sz + i by rw [Nat.add_mul]; omega]
 exact h3 i u hu
theorem zqM {lo hi : Nat} (h : k.C w A xs.length xs) (h1 : lo ≤ hi) (h2 : hi ≤ xs.length) (hc : xs.length ≤ c) : k.C w (if c = lo then A else A.map (·.add (lo * k.sz))) ((xs.take hi).drop lo).length ((xs.take hi).drop lo) := by
 have hl : (xs.take hi).length = hi := by rw [List.length_take]; omega
 exact zp0 (zoq h h2) (by omega) (by omega)
end
end Kd
section
variable {P : Program}
theorem zoN (t e : TypeId) (kl kh : IntKind) {i : TypeInfo} (ht : P.underlying t = some (.slice e)) (hi : P.info? e = some i) (size : Nat) (hsz : i.size = size) (A : Option Addr) (n c : Nat) (lo hi' : Int) (h0 : 0 ≤ lo) (h1 : lo ≤ hi') (h2 : hi' ≤ n) (hc : n ≤ c) :
  ∀ W : World, (Instr.slice t (.slice A n c) (some (.int kl lo)) (some (.int kh hi')) none).run P W = .ok (.slice (if c = lo.toNat then A else A.map (·.add (lo.toNat * size))) (hi'.toNat - lo.toNat) (c - lo.toNat)) W := by
 intro W
 have hel : P.elem t = e := by simp [Program.elem, ht]
 have hu : P.underlying t = some (.slice (P.elem t)) := by rw [hel]; exact ht
 rw [run_slice_lh W t A n c hu kl kh lo hi' h0 h1 (by omega), hel]
 simp [sizeOf, typeInfo, hi, hsz, sliced, Result.andThen]
end
theorem zad {w W : World} (h : Below w.heap.size w W) : w.heap.size ≤ W.heap.size := h.size
theorem zab {w W w2 : World} (h : Below w.heap.size w W) (k : Below W.heap.size W w2) : Below w.heap.size w w2 := zkW h h.size k
theorem zbS.nil (W : World) (k : IntKind) : zbS W k none ([] : List Int).length [] := ⟨rfl, by simp, fun h => absurd h (Nat.lt_irrefl 0)⟩
theorem zbS.drewN {W : World} {k : IntKind} {A : Option Addr} {n : Nat} {xs : List Int} (h : zbS W k A n xs) (m : Nat) : zbS (W.drewN m) k A n xs := h
theorem zbS.zp1 {W : World} {k : IntKind} {A : Option Addr} {n : Nat} {xs : List Int} (h : zbS W k A n xs) (o : Obj) : zbS (W.alloc o) k A n xs := h.below (zam (Below.refl _ _) o)
theorem zbo {w W : World} {g j : Nat} {v : Value} (h : Below w.heap.size w W) (hg : w.heap.size ≤ g) : Below w.heap.size w (W.setCell ⟨g, j, none⟩ v) := h.setCell hg _
theorem zix {w W : World} {g : Nat} (h : zb6 w W g none) {a : Addr} {v : Value} (hc : w.cell? a = some v) (hne : a.block ≠ g) : W.cell? a = some v := by
 have := h.2 a.block (World.block_lt_of_cell? w a hc) hne (by simp)
 simpa [World.cell?, this] using hc
theorem zcf (a : Addr) (i : Nat) : (a.add i).block = a.block := by unfold Addr.add; split <;> rfl
theorem zb0.nil {α : Type} (enc : α → Value) (d : α) (W : World) : zb0 enc d W none ([] : List α).length [] := ⟨rfl, by simp, fun h => absurd h (Nat.lt_irrefl 0)⟩
theorem zb0.drewN {α : Type} {enc : α → Value} {d : α} {W : World} {A : Option Addr} {n : Nat} {xs : List α} (h : zb0 enc d W A n xs) (m : Nat) : zb0 enc d (W.drewN m) A n xs := h
theorem zb0.zp1 {α : Type} {enc : α → Value} {d : α} {W : World} {A : Option Addr} {n : Nat} {xs : List α} (h : zb0 enc d W A n xs) (o : Obj) : zb0 enc d (W.alloc o) A n xs := h.below (zam (Below.refl _ _) o)
theorem zoO {W : World} {base n c g : Nat} {e : TypeId} {size : Nat} {A : Option Addr} {xs : List Value} (_ : W.ownsRow base e size (.slice A n c) n xs) (hne : some g ≠ (Value.slice A n c).ownBlock) : ∀ ad, A = some ad → 0 < n → ad.block ≠ g := by
 rintro ad rfl _ rfl
 exact hne (by simp [Value.ownBlock])
theorem zbS.keep {w W : World} {k : IntKind} {A : Option Addr} {n g : Nat} {xs : List Int} (h : zbS w k A n xs) (hk : zb6 w W g none) (hf : ∀ ad, A = some ad → 0 < n → ad.block ≠ g) : zbS W k A n xs :=
 ⟨h.1, h.2.1, fun hn => by
  obtain ⟨ad, e, hc⟩ := h.2.2 hn
  exact ⟨ad, e, fun j hj => zix hk (hc j hj) (by rw [zcf]; exact hf ad e hn)⟩⟩
theorem zb0.keep {α : Type} {enc : α → Value} {d : α} {w W : World} {A : Option Addr} {n g : Nat} {xs : List α} (h : zb0 enc d w A n xs) (hk : zb6 w W g none) (hf : ∀ ad, A = some ad → 0 < n → ad.block ≠ g) : zb0 enc d W A n xs :=
 ⟨h.1, h.2.1, fun hn => by
  obtain ⟨ad, e, hc⟩ := h.2.2 hn
  exact ⟨ad, e, fun j hj => zix hk (hc j hj) (by rw [zcf]; exact hf ad e hn)⟩⟩
theorem cell_far {W : World} {p a : Addr} (h : a.block ≠ p.block) (u : Value) : (W.setCell p u).cell? a = W.cell? a := by
 have := Below.heap_setCell W p u a.block h
 simp [World.cell?, this]
theorem zaB {w : World} {g : Nat} {t : TypeId} {cs cs' : Array Value} (h : w.heap[g]? = some (.cells cs t (0, 0))) (i : Nat) (u : Value) (e : cs.setIfInBounds i u = cs') : (w.setCell ⟨g, i, none⟩ u).heap[g]? = some (.cells cs' t (0, 0)) := e ▸ zlM h i u
theorem zb1 {W : World} {base n c : Nat} {e : TypeId} {size g : Nat} {ad : Addr} {xs : List Value} (_ : W.ownsRow base e size (.slice (some ad) n c) n xs) (hne : some g ≠ (Value.slice (some ad) n c).ownBlock) : ad.block ≠ g := by
 rintro rfl
 exact hne (by simp [Value.ownBlock])
theorem zav {base : Nat} {w W : World} (h : Below base w W) : Below base w W.drew := h.drew
namespace Kd
section
variable {α β : Type} {d : Kd α} {d' : Kd β} {e e' base base' n : Nat} {ok ok' : Nat → Prop} {w W w1 W1 : World} {v u : Value} {xs : List α} {ys : List β} {A : Option Addr} {c : Nat}
theorem zb1 {ad : Addr} {g : Nat} (hne : some g ≠ (Value.slice (some ad) n c).ownBlock) : ad.block ≠ g := by
 rintro rfl
 exact hne (by simp [Value.ownBlock])
theorem zoO {g : Nat} (_ : d.R e w base ok (.slice A n c) xs) (hne : some g ≠ (Value.slice A n c).ownBlock) : ∀ ad, A = some ad → 0 < n → ad.block ≠ g := by
 rintro ad rfl _ rfl
 exact hne (by simp [Value.ownBlock])
end
section
variable {α : Type} {enc : α → Value} {h1 : ∀ x, (enc x).oneCell' = true} {w W : World} {A : Option Addr} {n g : Nat} {xs : List α}
end
end Kd
namespace Kd
section
variable {α : Type} {d : Kd α} {e base g : Nat} {ok : Nat → Prop} {w w1 : World} {v : Value} {xs : List α} {o : Obj}
theorem zga (h : d.R e w base ok v xs) (a : Nat) (ha : w.heap.size ≤ a) : d.R e w base (fun k => ok k ∧ k ≠ a) v xs := za7 (zdp h) (fun k hk => ⟨hk.1, by have := hk.2.2.1; omega⟩)
theorem ze1 (hb : w.heap[g]? = some o) : ∀ k, w.heap.size ≤ k → k ≠ g := fun k hk => by have := zbg hb; omega
end
end Kd
section
variable {P : Program} {ops : Array Oper} {rest : List Oper} {o : Oper} {a : Act} {Q : Exit → Act → World → Prop}
theorem zaN {W : World} (hgd : o.guard = none) {N : Tmp} (_hd : o.dst = some N) {cs : Array Value} {t : TypeId}
  (hrun : (execOp a.eval o).run P W = .ok (.value (.pointer (some ⟨W.heap.size, 0, none⟩))) (W.alloc (.cells cs t (0, 0))))
  (h : ∀ g, g = W.heap.size → ∀ w1, w1.heap[g]? = some (.cells cs t (0, 0)) → Below W.heap.size W w1 → wpList P ops Q rest (a.put o.dst (.pointer (some ⟨g, 0, none⟩))) w1) : wpList P ops Q (o :: rest) a W :=
 Kd.ze0 hgd hrun (h _ rfl _ (zcv W _) (zam (Below.refl _ _) _))
end
namespace Kd
section
variable {α : Type} {enc : α → Value} {h1 : ∀ x, (enc x).oneCell' = true} {e base g n cap : Nat} {ok : Nat → Prop} {W : World} {xs : List α}
theorem zbK (d : α) (h : (scalar enc h1).R e W base ok (.slice (some ⟨g, 0, none⟩) n cap) xs) (i : Int) (h0 : 0 ≤ i) (hi : i < n) : W.cell? ⟨g, i.toNat, none⟩ = some (enc (zdd d xs i)) ∧ W.frozen? ⟨g, i.toNat, none⟩ = false := by
 obtain ⟨rfl, _⟩ := zax h
 exact zpX d h i h0 hi
end
end Kd
section
variable {P : Program} {ops : Array Oper} {rest : List Oper} {o : Oper} {a : Act} {Q : Exit → Act → World → Prop}
theorem zbQ {W w1 : World} (hgd : o.guard = none) {t : TypeId} {p : Tmp} {v : Operand} (_ho : o.op = .store t (.tmp p) v) (hN : o.dst = none)
  (hrun : (execOp a.eval o).run P W = .ok .skip w1) (h : ∀ w', w' = w1 → wpList P ops Q rest a w') : wpList P ops Q (o :: rest) a W := by
 refine wpList_plain hgd fun K hK => ?_
 unfold Oper.wp
 rw [hrun]
 show K (a.put o.dst undef) w1
 rw [hN]
 exact hK _ _ (h _ rfl)
end
namespace Kd
section
variable {α : Type} {enc : α → Value} {h1 : ∀ x, (enc x).oneCell' = true} {e base g n cap : Nat} {ok : Nat → Prop} {W : World} {xs : List α}
theorem zde (h : (scalar enc h1).R e W base ok (.slice (some ⟨g, 0, none⟩) n cap) xs) (i : Int) (x : α) : (scalar enc h1).R e (W.setCell ⟨g, i.toNat, none⟩ (enc x)) base ok (.slice (some ⟨g, 0, none⟩) n cap) (xs.set i.toNat x) ∧ W.grownBy (W.setCell ⟨g, i.toNat, none⟩ (enc x)) (some g) := by
 obtain ⟨rfl, _⟩ := zax h
 exact zqK h i x
end
end Kd
section
variable {P : Program} {ops : Array Oper} {rest : List Oper} {o : Oper} {a : Act} {Q : Exit → Act → World → Prop} {W : World}
theorem zaA {N : Tmp} (_hN : o.dst = some N) (h : wpList P ops Q (o :: rest) a W) : wpList P ops Q (o :: rest) a W := h
theorem zbX {t : TypeId} {p : Tmp} {v : Operand} (_ho : o.op = .store t (.tmp p) v) (h : wpList P ops Q (o :: rest) a W) : wpList P ops Q (o :: rest) a W := h
end
section
variable {P : Program} {ops : Array Oper} {o : Oper} {a : Act} {Q : Exit → Act → World → Prop} {Kc : Act → World → Prop}
theorem zkY {W w1 : World} {v : Value} (hw : Region.wanted o (yielded ops a.tmps) = true) (hrun : (execOp a.eval o).run P W = .ok (.value v) w1) (h : Kc (a.put o.dst v) w1) : if Region.wanted o (yielded ops a.tmps) = true then Oper.wp P o a W Kc Q else Kc (a.put o.dst undef) W := by
 rw [if_pos hw]
 unfold Oper.wp
 rw [hrun]
 exact h
namespace Kd
variable {α : Type}
theorem zkZ (d : Kd α) {w0 W : World} (base e : Nat) (hw : Region.wanted o (yielded ops a.tmps) = true) {N : Tmp} (_hd : o.dst = some N) {xs : List α} {inner : List Value} {ok okp : Nat → Prop}
  (hrun : (execOp a.eval o).run P W = .ok (.value (.slice (some ⟨W.heap.size, 0, none⟩) xs.length xs.length)) (W.alloc (.cells inner.toArray e)))
  (hrep : zb5 (d.M W base okp) d.sz xs inner) (hok : ∀ k, okp k → ok k) (hfresh : ok W.heap.size) (HB : Below base w0 W) (hbase : base ≤ W.heap.size) (hm : xs.length ≤ 9223372036854775807)
  (h : ∀ v1 w1, d.R e w1 base ok v1 xs → Below base w0 w1 → W.grownBy w1 none → (∃ b, v1.ownBlock = some b ∧ W.heap.size ≤ b) → Kc (a.put o.dst v1) w1) : if Region.wanted o (yielded ops a.tmps) = true then Oper.wp P o a W Kc Q else Kc (a.put o.dst undef) W := by
 refine zkY hw hrun (h _ _ ⟨fun k hk => ?_, inner, ?_, ?_⟩ (HB.alloc hbase _) (World.grownBy_alloc W _ none) ⟨W.heap.size, by simp [Value.ownBlock], Nat.le_refl _⟩)
 ·have : W.heap.size = k := by simpa [Value.ownBlock] using hk
  subst this
  exact hfresh
 ·have h2 := World.ownsRow_lit (base := base) (e := e) (size := d.sz) W inner.toArray xs.length hbase (by simpa [maxLen] using hm) (by simpa using hrep.1)
  simpa using h2
 ·refine hrep.zji (fun p c hp => d.M_mono (fun k hk => ⟨hok k hk.1, fun he => ?_⟩) (zlP (d.M_bound hp) (zam (Below.refl _ _) _)))
  have h3 : k = W.heap.size := by simpa [Value.ownBlock] using he
  have := hk.2.2.1
  omega
end Kd
end
inductive zp2 (P : Program) (tmps : Array Value) (w : World) : List ResultVar → List Value → Prop where
 |nil : zp2 P tmps w [] []
 |tmp {u : Tmp} {rs : List ResultVar} {vs : List Value} (h : zp2 P tmps w rs vs) : zp2 P tmps w (.tmp u :: rs) (tmps.getD u undef :: vs)
 |cell {p : Tmp} {ty : TypeId} {rs : List ResultVar} {vs : List Value} (g : Nat) (t : TypeId) (cs : Array Value) (fr : Nat × Nat) (d : TypeDesc)
   (hp : tmps.getD p undef = .pointer (some ⟨g, 0, none⟩)) (hg : w.heap[g]? = some (.cells cs t fr))
   (hu : P.underlying ty = some d) (hd : (match d with | .struct _ | .array _ _ => true | _ => false) = true) (hi : (P.info? ty).map (·.size) = some cs.size)
   (h : zp2 P tmps w rs vs) : zp2 P tmps w (.cell p ty :: rs) (.agg cs :: vs)
section
variable {P : Program} {tmps : Array Value} {w : World}
end
namespace Kd
section
variable {P : Program} {α : Type}
end
section
variable {P : Program} {ops : Array Oper} {rest : List Oper} {o : Oper} {a : Act} {Q : Exit → Act → World → Prop} {Kc : Act → World → Prop} {α : Type}
end
end Kd
end Go.Proofs.YtioofhilohmfbaaGreatDoorW.PrintWords
end
section
open Go.Shelf
namespace Go.Proofs
def Tryz.zgl : Go.Shelf.Ren := ⟨fun | 169 => 33 | n => n, fun | 70 => 68 | 9 => 9 | 0 => 0 | 72 => 70 | 37 => 47 | 127 => 104 | 3 => 3 | 5 => 5 | n => n, fun | n => n⟩
theorem Tryz.zoP : Go.Proofs.Lays.n169 Tryz.prog Tryz.zgl := {
 mixed := by kernel_rfl
 f169 := Tryz.func33.trans (congrArg some (by kernel_rfl))
 t0 := Tryz.underlying0
 a0 := Tryz.isAgg0
 z0 := Tryz.sizeOf0
 v0 := Tryz.zeroValue0
 t3 := Tryz.underlying3
 a3 := Tryz.isAgg3
 z3 := Tryz.sizeOf3
 v3 := Tryz.zeroValue3
 t9 := Tryz.underlying9
 a9 := Tryz.isAgg9
 z9 := Tryz.sizeOf9
 v9 := Tryz.zeroValue9
 t37 := Tryz.underlying47
 a37 := Tryz.isAgg47
 z37 := Tryz.sizeOf47
 v37 := Tryz.zeroValue47
 t70 := Tryz.underlying68
 a70 := Tryz.isAgg68
 z70 := Tryz.sizeOf68
 v70 := Tryz.zeroValue68
 t72 := Tryz.underlying70
 a72 := Tryz.isAgg70
 z72 := Tryz.sizeOf70
 v72 := Tryz.zeroValue70
 t127 := Tryz.underlying104
 a127 := Tryz.isAgg104
 z127 := Tryz.sizeOf104
 v127 := Tryz.zeroValue104 }
theorem Tryz.zfu : Builder.Extra Tryz.prog Tryz.zgl := {
 sizeBuilder := by kernel_rfl
 liesBuilder := by kernel_rfl
 t5 := Tryz.underlying5
 a5 := Tryz.isAgg5
 z5 := Tryz.sizeOf5
 v5 := Tryz.zeroValue5
 infoByte := by kernel_rfl
 cellsByte := by kernel_rfl
 sizeByte := by kernel_rfl
 neB5 := by decide }
def Tryz.zgm : Go.Shelf.Ren := ⟨fun | 159 => 60 | 165 => 41 | 166 => 31 | 167 => 32 | 169 => 33 | 230 => 82 | 204 => 83 | 240 => 64 | 241 => 72 | 197 => 68 | 118 => 119 | 168 => 120 | 270 => 121 | 262 => 122 | 276 => 87 | 277 => 98 | 260 => 97 | 242 => 86 | 313 => 159 | 278 => 129 | 274 => 184 | 275 => 185 | n => n, fun | 9 => 9 | 4 => 4 | 3 => 3 | 5 => 5 | 72 => 70 | 0 => 0 | 76 => 75 | 75 => 74 | 107 => 122 | 70 => 68 | 20 => 20 | 37 => 47 | 127 => 104 | 21 => 21 | 105 => 93 | 164 => 125 | 162 => 178 | 203 => 176 | 119 => 165 | 46 => 80 | 139 => 168 | 138 => 167 | 51 => 109 | 160 => 192 | 208 => 205 | 206 => 203 | 80 => 78 | n => n, fun | 13 => 8 | 3 => 4 | 4 => 5 | n => n⟩
theorem Tryz.zoQ : Go.Proofs.Lays.n159 Tryz.prog Tryz.zgm := {
 mixed := by kernel_rfl
 f118 := Tryz.func119.trans (congrArg some (by kernel_rfl))
 f159 := Tryz.func60.trans (congrArg some (by kernel_rfl))
 f165 := Tryz.func41.trans (congrArg some (by kernel_rfl))
 f166 := Tryz.func31.trans (congrArg some (by kernel_rfl))
 f167 := Tryz.func32.trans (congrArg some (by kernel_rfl))
 f168 := Tryz.func120.trans (congrArg some (by kernel_rfl))
 f169 := Tryz.func33.trans (congrArg some (by kernel_rfl))
 f197 := Tryz.func68.trans (congrArg some (by kernel_rfl))
 f204 := Tryz.func83.trans (congrArg some (by kernel_rfl))
 f230 := Tryz.func82.trans (congrArg some (by kernel_rfl))
 f240 := Tryz.func64.trans (congrArg some (by kernel_rfl))
 f241 := Tryz.func72.trans (congrArg some (by kernel_rfl))
 f242 := Tryz.func86.trans (congrArg some (by kernel_rfl))
 f260 := Tryz.func97.trans (congrArg some (by kernel_rfl))
 f262 := Tryz.func122.trans (congrArg some (by kernel_rfl))
 f270 := Tryz.func121.trans (congrArg some (by kernel_rfl))
 f274 := Tryz.func184.trans (congrArg some (by kernel_rfl))
 f275 := Tryz.func185.trans (congrArg some (by kernel_rfl))
 f276 := Tryz.func87.trans (congrArg some (by kernel_rfl))
 f277 := Tryz.func98.trans (congrArg some (by kernel_rfl))
 f278 := Tryz.func129.trans (congrArg some (by kernel_rfl))
 f313 := Tryz.func159.trans (congrArg some (by kernel_rfl))
 t0 := Tryz.underlying0
 a0 := Tryz.isAgg0
 z0 := Tryz.sizeOf0
 v0 := Tryz.zeroValue0
 t3 := Tryz.underlying3
 a3 := Tryz.isAgg3
 z3 := Tryz.sizeOf3
 v3 := Tryz.zeroValue3
 t4 := Tryz.underlying4
 a4 := Tryz.isAgg4
 z4 := Tryz.sizeOf4
 v4 := Tryz.zeroValue4
 t5 := Tryz.underlying5
 a5 := Tryz.isAgg5
 z5 := Tryz.sizeOf5
 v5 := Tryz.zeroValue5
 t9 := Tryz.underlying9
 a9 := Tryz.isAgg9
 z9 := Tryz.sizeOf9
 v9 := Tryz.zeroValue9
 t20 := Tryz.underlying20
 a20 := Tryz.isAgg20
 z20 := Tryz.sizeOf20
 v20 := Tryz.zeroValue20
 t21 := Tryz.underlying21
 a21 := Tryz.isAgg21
 z21 := Tryz.sizeOf21
 v21 := Tryz.zeroValue21
 t37 := Tryz.underlying47
 a37 := Tryz.isAgg47
 z37 := Tryz.sizeOf47
 v37 := Tryz.zeroValue47
 t46 := Tryz.underlying80
 a46 := Tryz.isAgg80
 z46 := Tryz.sizeOf80
 v46 := Tryz.zeroValue80
 t51 := Tryz.underlying109
 a51 := Tryz.isAgg109
 z51 := Tryz.sizeOf109
 v51 := Tryz.zeroValue109
 t70 := Tryz.underlying68
 a70 := Tryz.isAgg68
 z70 := Tryz.sizeOf68
 v70 := Tryz.zeroValue68
 t72 := Tryz.underlying70
 a72 := Tryz.isAgg70
 z72 := Tryz.sizeOf70
 v72 := Tryz.zeroValue70
 t75 := Tryz.underlying74
 a75 := Tryz.isAgg74
 z75 := Tryz.sizeOf74
 v75 := Tryz.zeroValue74
 t76 := Tryz.underlying75
 a76 := Tryz.isAgg75
 z76 := Tryz.sizeOf75
 v76 := Tryz.zeroValue75
 t105 := Tryz.underlying93
 a105 := Tryz.isAgg93
 z105 := Tryz.sizeOf93
 v105 := Tryz.zeroValue93
 t107 := Tryz.underlying122
 a107 := Tryz.isAgg122
 z107 := Tryz.sizeOf122
 v107 := Tryz.zeroValue122
 t119 := Tryz.underlying165
 a119 := Tryz.isAgg165
 z119 := Tryz.sizeOf165
 t127 := Tryz.underlying104
 a127 := Tryz.isAgg104
 z127 := Tryz.sizeOf104
 v127 := Tryz.zeroValue104
 t138 := Tryz.underlying167
 a138 := Tryz.isAgg167
 z138 := Tryz.sizeOf167
 v138 := Tryz.zeroValue167
 t139 := Tryz.underlying168
 a139 := Tryz.isAgg168
 z139 := Tryz.sizeOf168
 v139 := Tryz.zeroValue168
 t160 := Tryz.underlying192
 a160 := Tryz.isAgg192
 z160 := Tryz.sizeOf192
 v160 := Tryz.zeroValue192
 t162 := Tryz.underlying178
 a162 := Tryz.isAgg178
 z162 := Tryz.sizeOf178
 v162 := Tryz.zeroValue178
 t164 := Tryz.underlying125
 a164 := Tryz.isAgg125
 z164 := Tryz.sizeOf125
 v164 := Tryz.zeroValue125
 t203 := Tryz.underlying176
 a203 := Tryz.isAgg176
 z203 := Tryz.sizeOf176
 v203 := Tryz.zeroValue176
 t206 := Tryz.underlying203
 a206 := Tryz.isAgg203
 z206 := Tryz.sizeOf203
 v206 := Tryz.zeroValue203
 t208 := Tryz.underlying205
 a208 := Tryz.isAgg205
 z208 := Tryz.sizeOf205
 v208 := Tryz.zeroValue205
 g3 := by kernel_rfl
 g4 := by kernel_rfl
 g13 := by kernel_rfl }
theorem Tryz.zfv : Builder.Extra Tryz.prog Tryz.zgm := {
 sizeBuilder := by kernel_rfl
 liesBuilder := by kernel_rfl
 t5 := Tryz.underlying5
 a5 := Tryz.isAgg5
 z5 := Tryz.sizeOf5
 v5 := Tryz.zeroValue5
 infoByte := by kernel_rfl
 cellsByte := by kernel_rfl
 sizeByte := by kernel_rfl
 neB5 := by decide }
def Tryz.zgn : Go.Shelf.Ren := ⟨fun | 161 => 94 | 231 => 36 | 227 => 27 | 233 => 37 | 235 => 38 | 228 => 57 | 197 => 68 | 151 => 59 | 260 => 97 | 152 => 81 | 137 => 116 | 119 => 62 | 224 => 117 | 225 => 118 | 217 => 158 | 266 => 183 | n => n, fun | 9 => 9 | 4 => 4 | 3 => 3 | 5 => 5 | 117 => 64 | 116 => 63 | 0 => 0 | 124 => 67 | 105 => 93 | 21 => 21 | 119 => 165 | 46 => 80 | 139 => 168 | 138 => 167 | n => n, fun | 3 => 4 | 4 => 5 | n => n⟩
theorem Tryz.zoR : Go.Proofs.Lays.n161 Tryz.prog Tryz.zgn := {
 mixed := by kernel_rfl
 f119 := Tryz.func62.trans (congrArg some (by kernel_rfl))
 f137 := Tryz.func116.trans (congrArg some (by kernel_rfl))
 f151 := Tryz.func59.trans (congrArg some (by kernel_rfl))
 f152 := Tryz.func81.trans (congrArg some (by kernel_rfl))
 f161 := Tryz.func94.trans (congrArg some (by kernel_rfl))
 f197 := Tryz.func68.trans (congrArg some (by kernel_rfl))
 f217 := Tryz.func158.trans (congrArg some (by kernel_rfl))
 f224 := Tryz.func117.trans (congrArg some (by kernel_rfl))
 f225 := Tryz.func118.trans (congrArg some (by kernel_rfl))
 f227 := Tryz.func27.trans (congrArg some (by kernel_rfl))
 f228 := Tryz.func57.trans (congrArg some (by kernel_rfl))
 f231 := Tryz.func36.trans (congrArg some (by kernel_rfl))
 f233 := Tryz.func37.trans (congrArg some (by kernel_rfl))
 f235 := Tryz.func38.trans (congrArg some (by kernel_rfl))
 f260 := Tryz.func97.trans (congrArg some (by kernel_rfl))
 f266 := Tryz.func183.trans (congrArg some (by kernel_rfl))
 t0 := Tryz.underlying0
 a0 := Tryz.isAgg0
 z0 := Tryz.sizeOf0
 v0 := Tryz.zeroValue0
 t3 := Tryz.underlying3
 a3 := Tryz.isAgg3
 z3 := Tryz.sizeOf3
 v3 := Tryz.zeroValue3
 t4 := Tryz.underlying4
 a4 := Tryz.isAgg4
 z4 := Tryz.sizeOf4
 v4 := Tryz.zeroValue4
 t5 := Tryz.underlying5
 a5 := Tryz.isAgg5
 z5 := Tryz.sizeOf5
 v5 := Tryz.zeroValue5
 t9 := Tryz.underlying9
 a9 := Tryz.isAgg9
 z9 := Tryz.sizeOf9
 v9 := Tryz.zeroValue9
 t21 := Tryz.underlying21
 a21 := Tryz.isAgg21
 z21 := Tryz.sizeOf21
 v21 := Tryz.zeroValue21
 t46 := Tryz.underlying80
 a46 := Tryz.isAgg80
 z46 := Tryz.sizeOf80
 v46 := Tryz.zeroValue80
 t105 := Tryz.underlying93
 a105 := Tryz.isAgg93
 z105 := Tryz.sizeOf93
 v105 := Tryz.zeroValue93
 t116 := Tryz.underlying63
 a116 := Tryz.isAgg63
 z116 := Tryz.sizeOf63
 t117 := Tryz.underlying64
 a117 := Tryz.isAgg64
 z117 := Tryz.sizeOf64
 v117 := Tryz.zeroValue64
 t119 := Tryz.underlying165
 a119 := Tryz.isAgg165
 z119 := Tryz.sizeOf165
 t124 := Tryz.underlying67
 a124 := Tryz.isAgg67
 z124 := Tryz.sizeOf67
 v124 := Tryz.zeroValue67
 t138 := Tryz.underlying167
 a138 := Tryz.isAgg167
 z138 := Tryz.sizeOf167
 v138 := Tryz.zeroValue167
 t139 := Tryz.underlying168
 a139 := Tryz.isAgg168
 z139 := Tryz.sizeOf168
 v139 := Tryz.zeroValue168
 g3 := by kernel_rfl
 g4 := by kernel_rfl }
def Tryz.zgo : Go.Shelf.Ren := ⟨fun | 162 => 13 | 232 => 26 | 227 => 27 | 234 => 28 | 236 => 29 | 228 => 57 | 271 => 58 | 151 => 59 | 120 => 80 | 197 => 68 | 152 => 81 | 260 => 97 | 137 => 116 | 119 => 62 | 224 => 117 | 225 => 118 | 217 => 158 | 266 => 183 | n => n, fun | 9 => 9 | 4 => 4 | 3 => 3 | 5 => 5 | 117 => 64 | 116 => 63 | 0 => 0 | 124 => 67 | 21 => 21 | 105 => 93 | 46 => 80 | 119 => 165 | 139 => 168 | 138 => 167 | n => n, fun | 3 => 4 | 4 => 5 | n => n⟩
theorem Tryz.zoS : Go.Proofs.Lays.n162 Tryz.prog Tryz.zgo := {
 mixed := by kernel_rfl
 f119 := Tryz.func62.trans (congrArg some (by kernel_rfl))
 f120 := Tryz.func80.trans (congrArg some (by kernel_rfl))
 f137 := Tryz.func116.trans (congrArg some (by kernel_rfl))
 f151 := Tryz.func59.trans (congrArg some (by kernel_rfl))
 f152 := Tryz.func81.trans (congrArg some (by kernel_rfl))
 f162 := Tryz.func13.trans (congrArg some (by kernel_rfl))
 f197 := Tryz.func68.trans (congrArg some (by kernel_rfl))
 f217 := Tryz.func158.trans (congrArg some (by kernel_rfl))
 f224 := Tryz.func117.trans (congrArg some (by kernel_rfl))
 f225 := Tryz.func118.trans (congrArg some (by kernel_rfl))
 f227 := Tryz.func27.trans (congrArg some (by kernel_rfl))
 f228 := Tryz.func57.trans (congrArg some (by kernel_rfl))
 f232 := Tryz.func26.trans (congrArg some (by kernel_rfl))
 f234 := Tryz.func28.trans (congrArg some (by kernel_rfl))
 f236 := Tryz.func29.trans (congrArg some (by kernel_rfl))
 f260 := Tryz.func97.trans (congrArg some (by kernel_rfl))
 f266 := Tryz.func183.trans (congrArg some (by kernel_rfl))
 f271 := Tryz.func58.trans (congrArg some (by kernel_rfl))
 t0 := Tryz.underlying0
 a0 := Tryz.isAgg0
 z0 := Tryz.sizeOf0
 v0 := Tryz.zeroValue0
 t3 := Tryz.underlying3
 a3 := Tryz.isAgg3
 z3 := Tryz.sizeOf3
 v3 := Tryz.zeroValue3
 t4 := Tryz.underlying4
 a4 := Tryz.isAgg4
 z4 := Tryz.sizeOf4
 v4 := Tryz.zeroValue4
 t5 := Tryz.underlying5
 a5 := Tryz.isAgg5
 z5 := Tryz.sizeOf5
 v5 := Tryz.zeroValue5
 t9 := Tryz.underlying9
 a9 := Tryz.isAgg9
 z9 := Tryz.sizeOf9
 v9 := Tryz.zeroValue9
 t21 := Tryz.underlying21
 a21 := Tryz.isAgg21
 z21 := Tryz.sizeOf21
 v21 := Tryz.zeroValue21
 t46 := Tryz.underlying80
 a46 := Tryz.isAgg80
 z46 := Tryz.sizeOf80
 v46 := Tryz.zeroValue80
 t105 := Tryz.underlying93
 a105 := Tryz.isAgg93
 z105 := Tryz.sizeOf93
 v105 := Tryz.zeroValue93
 t116 := Tryz.underlying63
 a116 := Tryz.isAgg63
 z116 := Tryz.sizeOf63
 t117 := Tryz.underlying64
 a117 := Tryz.isAgg64
 z117 := Tryz.sizeOf64
 v117 := Tryz.zeroValue64
 t119 := Tryz.underlying165
 a119 := Tryz.isAgg165
 z119 := Tryz.sizeOf165
 t124 := Tryz.underlying67
 a124 := Tryz.isAgg67
 z124 := Tryz.sizeOf67
 v124 := Tryz.zeroValue67
 t138 := Tryz.underlying167
 a138 := Tryz.isAgg167
 z138 := Tryz.sizeOf167
 v138 := Tryz.zeroValue167
 t139 := Tryz.underlying168
 a139 := Tryz.isAgg168
 z139 := Tryz.sizeOf168
 v139 := Tryz.zeroValue168
 g3 := by kernel_rfl
 g4 := by kernel_rfl }
def Tryz.zdV : Go.Shelf.Ren := ⟨fun | 160 => 16 | 232 => 26 | 231 => 36 | 227 => 27 | 234 => 28 | 233 => 37 | 236 => 29 | 235 => 38 | 228 => 57 | 271 => 58 | 151 => 59 | 197 => 68 | 120 => 80 | 152 => 81 | 260 => 97 | 137 => 116 | 119 => 62 | 224 => 117 | 225 => 118 | 217 => 158 | 266 => 183 | n => n, fun | 9 => 9 | 4 => 4 | 3 => 3 | 5 => 5 | 117 => 64 | 116 => 63 | 0 => 0 | 124 => 67 | 21 => 21 | 105 => 93 | 46 => 80 | 119 => 165 | 139 => 168 | 138 => 167 | n => n, fun | 3 => 4 | 4 => 5 | n => n⟩
theorem Tryz.zjp : Go.Proofs.Lays.n160 Tryz.prog Tryz.zdV := {
 mixed := by kernel_rfl
 f119 := Tryz.func62.trans (congrArg some (by kernel_rfl))
 f120 := Tryz.func80.trans (congrArg some (by kernel_rfl))
 f137 := Tryz.func116.trans (congrArg some (by kernel_rfl))
 f151 := Tryz.func59.trans (congrArg some (by kernel_rfl))
 f152 := Tryz.func81.trans (congrArg some (by kernel_rfl))
 f160 := Tryz.func16.trans (congrArg some (by kernel_rfl))
 f197 := Tryz.func68.trans (congrArg some (by kernel_rfl))
 f217 := Tryz.func158.trans (congrArg some (by kernel_rfl))
 f224 := Tryz.func117.trans (congrArg some (by kernel_rfl))
 f225 := Tryz.func118.trans (congrArg some (by kernel_rfl))
 f227 := Tryz.func27.trans (congrArg some (by kernel_rfl))
 f228 := Tryz.func57.trans (congrArg some (by kernel_rfl))
 f231 := Tryz.func36.trans (congrArg some (by kernel_rfl))
 f232 := Tryz.func26.trans (congrArg some (by kernel_rfl))
 f233 := Tryz.func37.trans (congrArg some (by kernel_rfl))
 f234 := Tryz.func28.trans (congrArg some (by kernel_rfl))
 f235 := Tryz.func38.trans (congrArg some (by kernel_rfl))
 f236 := Tryz.func29.trans (congrArg some (by kernel_rfl))
 f260 := Tryz.func97.trans (congrArg some (by kernel_rfl))
 f266 := Tryz.func183.trans (congrArg some (by kernel_rfl))
 f271 := Tryz.func58.trans (congrArg some (by kernel_rfl))
 t0 := Tryz.underlying0
 a0 := Tryz.isAgg0
 z0 := Tryz.sizeOf0
 v0 := Tryz.zeroValue0
 t3 := Tryz.underlying3
 a3 := Tryz.isAgg3
 z3 := Tryz.sizeOf3
 v3 := Tryz.zeroValue3
 t4 := Tryz.underlying4
 a4 := Tryz.isAgg4
 z4 := Tryz.sizeOf4
 v4 := Tryz.zeroValue4
 t5 := Tryz.underlying5
 a5 := Tryz.isAgg5
 z5 := Tryz.sizeOf5
 v5 := Tryz.zeroValue5
 t9 := Tryz.underlying9
 a9 := Tryz.isAgg9
 z9 := Tryz.sizeOf9
 v9 := Tryz.zeroValue9
 t21 := Tryz.underlying21
 a21 := Tryz.isAgg21
 z21 := Tryz.sizeOf21
 v21 := Tryz.zeroValue21
 t46 := Tryz.underlying80
 a46 := Tryz.isAgg80
 z46 := Tryz.sizeOf80
 v46 := Tryz.zeroValue80
 t105 := Tryz.underlying93
 a105 := Tryz.isAgg93
 z105 := Tryz.sizeOf93
 v105 := Tryz.zeroValue93
 t116 := Tryz.underlying63
 a116 := Tryz.isAgg63
 z116 := Tryz.sizeOf63
 t117 := Tryz.underlying64
 a117 := Tryz.isAgg64
 z117 := Tryz.sizeOf64
 v117 := Tryz.zeroValue64
 t119 := Tryz.underlying165
 a119 := Tryz.isAgg165
 z119 := Tryz.sizeOf165
 t124 := Tryz.underlying67
 a124 := Tryz.isAgg67
 z124 := Tryz.sizeOf67
 v124 := Tryz.zeroValue67
 t138 := Tryz.underlying167
 a138 := Tryz.isAgg167
 z138 := Tryz.sizeOf167
 v138 := Tryz.zeroValue167
 t139 := Tryz.underlying168
 a139 := Tryz.isAgg168
 z139 := Tryz.sizeOf168
 v139 := Tryz.zeroValue168
 g3 := by kernel_rfl
 g4 := by kernel_rfl }
def Tryz.zjq : Go.Shelf.Ren := ⟨fun | 133 => 189 | 128 => 202 | n => n, fun | 51 => 109 | 3 => 3 | 4 => 4 | 46 => 80 | 5 => 5 | 9 => 9 | n => n, fun | n => n⟩
theorem Tryz.zoT : Go.Proofs.Lays.n133 Tryz.prog Tryz.zjq := {
 mixed := by kernel_rfl
 f128 := Tryz.func202.trans (congrArg some (by kernel_rfl))
 f133 := Tryz.func189.trans (congrArg some (by kernel_rfl))
 t3 := Tryz.underlying3
 a3 := Tryz.isAgg3
 z3 := Tryz.sizeOf3
 v3 := Tryz.zeroValue3
 t4 := Tryz.underlying4
 a4 := Tryz.isAgg4
 z4 := Tryz.sizeOf4
 v4 := Tryz.zeroValue4
 t5 := Tryz.underlying5
 a5 := Tryz.isAgg5
 z5 := Tryz.sizeOf5
 v5 := Tryz.zeroValue5
 t9 := Tryz.underlying9
 a9 := Tryz.isAgg9
 z9 := Tryz.sizeOf9
 v9 := Tryz.zeroValue9
 t46 := Tryz.underlying80
 a46 := Tryz.isAgg80
 z46 := Tryz.sizeOf80
 v46 := Tryz.zeroValue80
 t51 := Tryz.underlying109
 a51 := Tryz.isAgg109
 z51 := Tryz.sizeOf109
 v51 := Tryz.zeroValue109 }
theorem Tryz.bits_LeadingZeros32 (x : Int) (w : World) (h0 : 0 ≤ x) (h1 : x ≤ 4294967295) :
  Calls Tryz.prog 189 #[.int .u32 x] w fun e w' => e = .returned (.int .i64 (32 - (Lib.bitLen x.toNat : Int))) ∧ w' = w := Any.bits_LeadingZeros32 Tryz.zoT x w h0 h1
def Tryz.zjr : Go.Shelf.Ren := ⟨fun | 103 => 65 | 210 => 88 | 206 => 71 | n => n, fun | 9 => 9 | 4 => 4 | 24 => 90 | 3 => 3 | n => n, fun | n => n⟩
theorem Tryz.zoU : Go.Proofs.Lays.n103 Tryz.prog Tryz.zjr := {
 mixed := by kernel_rfl
 f103 := Tryz.func65.trans (congrArg some (by kernel_rfl))
 f206 := Tryz.func71.trans (congrArg some (by kernel_rfl))
 f210 := Tryz.func88.trans (congrArg some (by kernel_rfl))
 t3 := Tryz.underlying3
 a3 := Tryz.isAgg3
 z3 := Tryz.sizeOf3
 v3 := Tryz.zeroValue3
 t4 := Tryz.underlying4
 a4 := Tryz.isAgg4
 z4 := Tryz.sizeOf4
 v4 := Tryz.zeroValue4
 t9 := Tryz.underlying9
 a9 := Tryz.isAgg9
 z9 := Tryz.sizeOf9
 v9 := Tryz.zeroValue9
 t24 := Tryz.underlying90
 a24 := Tryz.isAgg90
 z24 := Tryz.sizeOf90
 v24 := Tryz.zeroValue90 }
open Go.RowKit in
theorem Tryz.strings_CutPrefix (s p : ByteArray) (w : World) :
  Calls Tryz.prog 65 #[.string s, .string p] w fun e w' => e = .returned (.tuple #[.string ⟨(Lib.trimPrefix s.data.toList p.data.toList).toArray⟩, .bool (Lib.hasPrefix s.data.toList p.data.toList)]) ∧ w' = w := Any.strings_CutPrefix Tryz.zoU s p w
open Go.RowKit in
theorem Tryz.Builder_String_any_k (B b : Nat) (l : List UInt8) (w : World) (h : Lib.IsBuilderF 70 5 B b (Lib.byteCells l) w) (hBw : B ≤ w.heap.size) :
  Calls Tryz.prog 33 #[.pointer (some ⟨b, 0, none⟩)] w fun e w' => e = .returned (.string ⟨l.toArray⟩) ∧ (Lib.IsBuilderF 70 5 B b (Lib.byteCells l) w' ∧ Below B w w' ∧ Lib.OthersKept 5 (some b) w w') := Any.Builder_String_any_k Tryz.zoP Tryz.zfu B b l w h hBw
def Tryz.zjs : Go.Shelf.Ren := ⟨fun | 242 => 86 | 278 => 129 | n => n, fun | 37 => 47 | 21 => 21 | 51 => 109 | 4 => 4 | 5 => 5 | 46 => 80 | n => n, fun | n => n⟩
theorem Tryz.zoV : Go.Proofs.Lays.n242 Tryz.prog Tryz.zjs := {
 mixed := by kernel_rfl
 f242 := Tryz.func86.trans (congrArg some (by kernel_rfl))
 f278 := Tryz.func129.trans (congrArg some (by kernel_rfl))
 t4 := Tryz.underlying4
 a4 := Tryz.isAgg4
 z4 := Tryz.sizeOf4
 v4 := Tryz.zeroValue4
 t5 := Tryz.underlying5
 a5 := Tryz.isAgg5
 z5 := Tryz.sizeOf5
 v5 := Tryz.zeroValue5
 t21 := Tryz.underlying21
 a21 := Tryz.isAgg21
 z21 := Tryz.sizeOf21
 v21 := Tryz.zeroValue21
 t37 := Tryz.underlying47
 a37 := Tryz.isAgg47
 z37 := Tryz.sizeOf47
 v37 := Tryz.zeroValue47
 t46 := Tryz.underlying80
 a46 := Tryz.isAgg80
 z46 := Tryz.sizeOf80
 v46 := Tryz.zeroValue80
 t51 := Tryz.underlying109
 a51 := Tryz.isAgg109
 z51 := Tryz.sizeOf109
 v51 := Tryz.zeroValue109 }
open Go.RowKit in
theorem Tryz.utf8_AppendRune_plain (B : Nat) (v : Value) (n : Nat) (xs : List Value) (r : Int) (hr0 : -2147483648 ≤ r) (hr1 : r ≤ 2147483647) (w : World) (hown : w.ownsRow B 5 1 v n xs) (hlen : n + 4 ≤ 140737488355328) (hBw : B ≤ w.heap.size) :
  Calls Tryz.prog 86 #[v, .int .i32 r] w fun e w' => ∃ v', e = .returned v' ∧ w'.ownsRow B 5 1 v' (n + (Lib.runeCells r).length) (xs ++ Lib.runeCells r) ∧ ∃ o, (w.alloc o).grownBy w' v.ownBlock := Any.utf8_AppendRune_plain Tryz.zoV (by kernel_rfl) B v n xs r hr0 hr1 w hown hlen hBw
def Tryz.zjt : Go.Shelf.Ren := ⟨fun | 144 => 134 | 143 => 165 | 219 => 192 | 217 => 158 | 225 => 118 | 224 => 117 | 267 => 204 | 266 => 183 | 314 => 210 | n => n, fun | 9 => 9 | 4 => 4 | 3 => 3 | 5 => 5 | 46 => 80 | 146 => 110 | 51 => 109 | n => n, fun | 1 => 6 | n => n⟩
theorem Tryz.zoW : Go.Proofs.Lays.n144 Tryz.prog Tryz.zjt := {
 mixed := by kernel_rfl
 f143 := Tryz.func165.trans (congrArg some (by kernel_rfl))
 f144 := Tryz.func134.trans (congrArg some (by kernel_rfl))
 f217 := Tryz.func158.trans (congrArg some (by kernel_rfl))
 f219 := Tryz.func192.trans (congrArg some (by kernel_rfl))
 f224 := Tryz.func117.trans (congrArg some (by kernel_rfl))
 f225 := Tryz.func118.trans (congrArg some (by kernel_rfl))
 f266 := Tryz.func183.trans (congrArg some (by kernel_rfl))
 f267 := Tryz.func204.trans (congrArg some (by kernel_rfl))
 f314 := Tryz.func210.trans (congrArg some (by kernel_rfl))
 t3 := Tryz.underlying3
 a3 := Tryz.isAgg3
 z3 := Tryz.sizeOf3
 v3 := Tryz.zeroValue3
 t4 := Tryz.underlying4
 a4 := Tryz.isAgg4
 z4 := Tryz.sizeOf4
 v4 := Tryz.zeroValue4
 t5 := Tryz.underlying5
 a5 := Tryz.isAgg5
 z5 := Tryz.sizeOf5
 v5 := Tryz.zeroValue5
 t9 := Tryz.underlying9
 a9 := Tryz.isAgg9
 z9 := Tryz.sizeOf9
 v9 := Tryz.zeroValue9
 t46 := Tryz.underlying80
 a46 := Tryz.isAgg80
 z46 := Tryz.sizeOf80
 v46 := Tryz.zeroValue80
 t51 := Tryz.underlying109
 a51 := Tryz.isAgg109
 z51 := Tryz.sizeOf109
 v51 := Tryz.zeroValue109
 t146 := Tryz.underlying110
 a146 := Tryz.isAgg110
 z146 := Tryz.sizeOf110
 v146 := Tryz.zeroValue110
 g1 := by kernel_rfl }
open Go.RowKit Go.Lib in
theorem Tryz.strings_Contains_one (s : ByteArray) (c : UInt8) (w : World) :
  Calls Tryz.prog 134 #[.string s, .string ⟨#[c]⟩] w fun e w' => e = .returned (.bool (decide (0 ≤ Lib.indexByte s.data.toList c))) ∧ w' = w := Any.strings_Contains_one Tryz.zoW s c w
def Tryz.zk0 : Go.Shelf.Ren := ⟨fun | 99 => 40 | 206 => 71 | n => n, fun | 9 => 9 | 4 => 4 | 3 => 3 | n => n, fun | n => n⟩
theorem Tryz.zp3 : Go.Proofs.Lays.n99 Tryz.prog Tryz.zk0 := {
 mixed := by kernel_rfl
 f99 := Tryz.func40.trans (congrArg some (by kernel_rfl))
 f206 := Tryz.func71.trans (congrArg some (by kernel_rfl))
 t3 := Tryz.underlying3
 a3 := Tryz.isAgg3
 z3 := Tryz.sizeOf3
 v3 := Tryz.zeroValue3
 t4 := Tryz.underlying4
 a4 := Tryz.isAgg4
 z4 := Tryz.sizeOf4
 v4 := Tryz.zeroValue4
 t9 := Tryz.underlying9
 a9 := Tryz.isAgg9
 z9 := Tryz.sizeOf9
 v9 := Tryz.zeroValue9 }
open Go.RowKit Go.Lib in
theorem Tryz.strings_HasPrefix (s p : ByteArray) (w : World) :
  Calls Tryz.prog 40 #[.string s, .string p] w fun e w' => e = .returned (.bool (Lib.hasPrefix s.data.toList p.data.toList)) ∧ w' = w := Any.strings_HasPrefix Tryz.zp3 s p w
def Tryz.zeP : Go.Shelf.Ren := ⟨fun | 204 => 83 | 262 => 122 | 313 => 159 | 274 => 184 | 275 => 185 | n => n, fun | 21 => 21 | 4 => 4 | 3 => 3 | 162 => 178 | 203 => 176 | 160 => 192 | 46 => 80 | 0 => 0 | 208 => 205 | 51 => 109 | 206 => 203 | n => n, fun | 13 => 8 | n => n⟩
theorem Tryz.zoX : Go.Proofs.Lays.n204 Tryz.prog Tryz.zeP := {
 mixed := by kernel_rfl
 f204 := Tryz.func83.trans (congrArg some (by kernel_rfl))
 f262 := Tryz.func122.trans (congrArg some (by kernel_rfl))
 f274 := Tryz.func184.trans (congrArg some (by kernel_rfl))
 f275 := Tryz.func185.trans (congrArg some (by kernel_rfl))
 f313 := Tryz.func159.trans (congrArg some (by kernel_rfl))
 t0 := Tryz.underlying0
 a0 := Tryz.isAgg0
 z0 := Tryz.sizeOf0
 v0 := Tryz.zeroValue0
 t3 := Tryz.underlying3
 a3 := Tryz.isAgg3
 z3 := Tryz.sizeOf3
 v3 := Tryz.zeroValue3
 t4 := Tryz.underlying4
 a4 := Tryz.isAgg4
 z4 := Tryz.sizeOf4
 v4 := Tryz.zeroValue4
 t21 := Tryz.underlying21
 a21 := Tryz.isAgg21
 z21 := Tryz.sizeOf21
 v21 := Tryz.zeroValue21
 t46 := Tryz.underlying80
 a46 := Tryz.isAgg80
 z46 := Tryz.sizeOf80
 v46 := Tryz.zeroValue80
 t51 := Tryz.underlying109
 a51 := Tryz.isAgg109
 z51 := Tryz.sizeOf109
 v51 := Tryz.zeroValue109
 t160 := Tryz.underlying192
 a160 := Tryz.isAgg192
 z160 := Tryz.sizeOf192
 v160 := Tryz.zeroValue192
 t162 := Tryz.underlying178
 a162 := Tryz.isAgg178
 z162 := Tryz.sizeOf178
 v162 := Tryz.zeroValue178
 t203 := Tryz.underlying176
 a203 := Tryz.isAgg176
 z203 := Tryz.sizeOf176
 v203 := Tryz.zeroValue176
 t206 := Tryz.underlying203
 a206 := Tryz.isAgg203
 z206 := Tryz.sizeOf203
 v206 := Tryz.zeroValue203
 t208 := Tryz.underlying205
 a208 := Tryz.isAgg205
 z208 := Tryz.sizeOf205
 v208 := Tryz.zeroValue205
 g13 := by kernel_rfl }
def Tryz.zju : Go.Shelf.Ren := ⟨fun | 151 => 59 | 152 => 81 | 137 => 116 | 119 => 62 | 224 => 117 | 225 => 118 | 217 => 158 | 266 => 183 | n => n, fun | 9 => 9 | 21 => 21 | 4 => 4 | 3 => 3 | 5 => 5 | 0 => 0 | 46 => 80 | n => n, fun | n => n⟩
theorem Tryz.zoY : Go.Proofs.Lays.n151 Tryz.prog Tryz.zju := {
 mixed := by kernel_rfl
 f119 := Tryz.func62.trans (congrArg some (by kernel_rfl))
 f137 := Tryz.func116.trans (congrArg some (by kernel_rfl))
 f151 := Tryz.func59.trans (congrArg some (by kernel_rfl))
 f152 := Tryz.func81.trans (congrArg some (by kernel_rfl))
 f217 := Tryz.func158.trans (congrArg some (by kernel_rfl))
 f224 := Tryz.func117.trans (congrArg some (by kernel_rfl))
 f225 := Tryz.func118.trans (congrArg some (by kernel_rfl))
 f266 := Tryz.func183.trans (congrArg some (by kernel_rfl))
 t0 := Tryz.underlying0
 a0 := Tryz.isAgg0
 z0 := Tryz.sizeOf0
 v0 := Tryz.zeroValue0
 t3 := Tryz.underlying3
 a3 := Tryz.isAgg3
 z3 := Tryz.sizeOf3
 v3 := Tryz.zeroValue3
 t4 := Tryz.underlying4
 a4 := Tryz.isAgg4
 z4 := Tryz.sizeOf4
 v4 := Tryz.zeroValue4
 t5 := Tryz.underlying5
 a5 := Tryz.isAgg5
 z5 := Tryz.sizeOf5
 v5 := Tryz.zeroValue5
 t9 := Tryz.underlying9
 a9 := Tryz.isAgg9
 z9 := Tryz.sizeOf9
 v9 := Tryz.zeroValue9
 t21 := Tryz.underlying21
 a21 := Tryz.isAgg21
 z21 := Tryz.sizeOf21
 v21 := Tryz.zeroValue21
 t46 := Tryz.underlying80
 a46 := Tryz.isAgg80
 z46 := Tryz.sizeOf80
 v46 := Tryz.zeroValue80 }
open Go.RowKit Go.Lib in
theorem Tryz.strings_ContainsRune_ascii (s : ByteArray) (r : Int) (w : World) (h0 : 0 ≤ r) (h1 : r < 128) :
  Calls Tryz.prog 59 #[.string s, .int .i32 r] w fun e w' => e = .returned (.bool (decide (0 ≤ Lib.indexByte s.data.toList r.toNat.toUInt8))) ∧ w' = w := Any.strings_ContainsRune_ascii Tryz.zoY s r w h0 h1
def Tryz.zgp : Go.Shelf.Ren := ⟨fun | 105 => 17 | 212 => 39 | 99 => 40 | 165 => 41 | 166 => 31 | 170 => 42 | 169 => 33 | 263 => 69 | 264 => 70 | 206 => 71 | 240 => 64 | 241 => 72 | 276 => 87 | 277 => 98 | n => n, fun | 9 => 9 | 3 => 3 | 4 => 4 | 20 => 20 | 0 => 0 | 46 => 80 | 109 => 81 | 5 => 5 | 72 => 70 | 76 => 75 | 51 => 109 | 146 => 110 | 53 => 99 | 148 => 112 | 70 => 68 | 37 => 47 | 75 => 74 | 127 => 104 | 164 => 125 | 80 => 78 | n => n, fun | n => n⟩
theorem Tryz.zoZ : Go.Proofs.Lays.n105 Tryz.prog Tryz.zgp := {
 mixed := by kernel_rfl
 f99 := Tryz.func40.trans (congrArg some (by kernel_rfl))
 f105 := Tryz.func17.trans (congrArg some (by kernel_rfl))
 f165 := Tryz.func41.trans (congrArg some (by kernel_rfl))
 f166 := Tryz.func31.trans (congrArg some (by kernel_rfl))
 f169 := Tryz.func33.trans (congrArg some (by kernel_rfl))
 f170 := Tryz.func42.trans (congrArg some (by kernel_rfl))
 f206 := Tryz.func71.trans (congrArg some (by kernel_rfl))
 f212 := Tryz.func39.trans (congrArg some (by kernel_rfl))
 f240 := Tryz.func64.trans (congrArg some (by kernel_rfl))
 f241 := Tryz.func72.trans (congrArg some (by kernel_rfl))
 f263 := Tryz.func69.trans (congrArg some (by kernel_rfl))
 f264 := Tryz.func70.trans (congrArg some (by kernel_rfl))
 f276 := Tryz.func87.trans (congrArg some (by kernel_rfl))
 f277 := Tryz.func98.trans (congrArg some (by kernel_rfl))
 t0 := Tryz.underlying0
 a0 := Tryz.isAgg0
 z0 := Tryz.sizeOf0
 v0 := Tryz.zeroValue0
 t3 := Tryz.underlying3
 a3 := Tryz.isAgg3
 z3 := Tryz.sizeOf3
 v3 := Tryz.zeroValue3
 t4 := Tryz.underlying4
 a4 := Tryz.isAgg4
 z4 := Tryz.sizeOf4
 v4 := Tryz.zeroValue4
 t5 := Tryz.underlying5
 a5 := Tryz.isAgg5
 z5 := Tryz.sizeOf5
 v5 := Tryz.zeroValue5
 t9 := Tryz.underlying9
 a9 := Tryz.isAgg9
 z9 := Tryz.sizeOf9
 v9 := Tryz.zeroValue9
 t20 := Tryz.underlying20
 a20 := Tryz.isAgg20
 z20 := Tryz.sizeOf20
 v20 := Tryz.zeroValue20
 t37 := Tryz.underlying47
 a37 := Tryz.isAgg47
 z37 := Tryz.sizeOf47
 v37 := Tryz.zeroValue47
 t46 := Tryz.underlying80
 a46 := Tryz.isAgg80
 z46 := Tryz.sizeOf80
 v46 := Tryz.zeroValue80
 t51 := Tryz.underlying109
 a51 := Tryz.isAgg109
 z51 := Tryz.sizeOf109
 v51 := Tryz.zeroValue109
 t53 := Tryz.underlying99
 a53 := Tryz.isAgg99
 z53 := Tryz.sizeOf99
 v53 := Tryz.zeroValue99
 t70 := Tryz.underlying68
 a70 := Tryz.isAgg68
 z70 := Tryz.sizeOf68
 v70 := Tryz.zeroValue68
 t72 := Tryz.underlying70
 a72 := Tryz.isAgg70
 z72 := Tryz.sizeOf70
 v72 := Tryz.zeroValue70
 t75 := Tryz.underlying74
 a75 := Tryz.isAgg74
 z75 := Tryz.sizeOf74
 v75 := Tryz.zeroValue74
 t76 := Tryz.underlying75
 a76 := Tryz.isAgg75
 z76 := Tryz.sizeOf75
 v76 := Tryz.zeroValue75
 t109 := Tryz.underlying81
 a109 := Tryz.isAgg81
 z109 := Tryz.sizeOf81
 v109 := Tryz.zeroValue81
 t127 := Tryz.underlying104
 a127 := Tryz.isAgg104
 z127 := Tryz.sizeOf104
 v127 := Tryz.zeroValue104
 t146 := Tryz.underlying110
 a146 := Tryz.isAgg110
 z146 := Tryz.sizeOf110
 v146 := Tryz.zeroValue110
 t148 := Tryz.underlying112
 a148 := Tryz.isAgg112
 z148 := Tryz.sizeOf112
 v148 := Tryz.zeroValue112
 t164 := Tryz.underlying125
 a164 := Tryz.isAgg125
 z164 := Tryz.sizeOf125
 v164 := Tryz.zeroValue125 }
theorem Tryz.zfw : Builder.Extra Tryz.prog Tryz.zgp := {
 sizeBuilder := by kernel_rfl
 liesBuilder := by kernel_rfl
 t5 := Tryz.underlying5
 a5 := Tryz.isAgg5
 z5 := Tryz.sizeOf5
 v5 := Tryz.zeroValue5
 infoByte := by kernel_rfl
 cellsByte := by kernel_rfl
 sizeByte := by kernel_rfl
 neB5 := by decide }
open Go.RowKit Go.Lib in
theorem Tryz.strings_Repeat (s : ByteArray) (c : Nat) (w : World) (hc : c ≤ 9223372036854775807) (hlen : s.size * c ≤ 140737488355328) :
  Calls Tryz.prog 17 #[.string s, .int .i64 c] w fun e w' => e = .returned (.string ⟨(Lib.repeatL s.data.toList c).toArray⟩) ∧ Below w.heap.size w w' := Any.strings_Repeat Tryz.zoZ Tryz.zfw s c w hc hlen
def Tryz.zjv : Go.Shelf.Ren := ⟨fun | 197 => 68 | 260 => 97 | n => n, fun | 9 => 9 | 21 => 21 | 3 => 3 | 4 => 4 | 5 => 5 | 105 => 93 | 119 => 165 | 0 => 0 | 46 => 80 | 139 => 168 | 138 => 167 | n => n, fun | 3 => 4 | 4 => 5 | n => n⟩
theorem Tryz.zo0 : Go.Proofs.Lays.n197 Tryz.prog Tryz.zjv := {
 mixed := by kernel_rfl
 f197 := Tryz.func68.trans (congrArg some (by kernel_rfl))
 f260 := Tryz.func97.trans (congrArg some (by kernel_rfl))
 t0 := Tryz.underlying0
 a0 := Tryz.isAgg0
 z0 := Tryz.sizeOf0
 v0 := Tryz.zeroValue0
 t3 := Tryz.underlying3
 a3 := Tryz.isAgg3
 z3 := Tryz.sizeOf3
 v3 := Tryz.zeroValue3
 t4 := Tryz.underlying4
 a4 := Tryz.isAgg4
 z4 := Tryz.sizeOf4
 v4 := Tryz.zeroValue4
 t5 := Tryz.underlying5
 a5 := Tryz.isAgg5
 z5 := Tryz.sizeOf5
 v5 := Tryz.zeroValue5
 t9 := Tryz.underlying9
 a9 := Tryz.isAgg9
 z9 := Tryz.sizeOf9
 v9 := Tryz.zeroValue9
 t21 := Tryz.underlying21
 a21 := Tryz.isAgg21
 z21 := Tryz.sizeOf21
 v21 := Tryz.zeroValue21
 t46 := Tryz.underlying80
 a46 := Tryz.isAgg80
 z46 := Tryz.sizeOf80
 v46 := Tryz.zeroValue80
 t105 := Tryz.underlying93
 a105 := Tryz.isAgg93
 z105 := Tryz.sizeOf93
 v105 := Tryz.zeroValue93
 t119 := Tryz.underlying165
 a119 := Tryz.isAgg165
 z119 := Tryz.sizeOf165
 t138 := Tryz.underlying167
 a138 := Tryz.isAgg167
 z138 := Tryz.sizeOf167
 v138 := Tryz.zeroValue167
 t139 := Tryz.underlying168
 a139 := Tryz.isAgg168
 z139 := Tryz.sizeOf168
 v139 := Tryz.zeroValue168
 g3 := by kernel_rfl
 g4 := by kernel_rfl }
open Go.RowKit Go.Lib in
theorem Tryz.utf8_DecodeRuneInString (s : ByteArray) (w : World) (hT : Lib.Utf8Tabs 4 5 w) :
  Calls Tryz.prog 68 #[.string s] w fun e w' => e = .returned (.tuple #[.int .i32 (Lib.decodeGo s).1, .int .i64 (Lib.decodeGo s).2]) ∧ Below w.heap.size w w' := Any.utf8_DecodeRuneInString Tryz.zo0 s w hT
def Tryz.zdW : Go.Shelf.Ren := ⟨fun | 230 => 82 | 197 => 68 | 118 => 119 | 165 => 41 | 166 => 31 | 168 => 120 | 270 => 121 | 167 => 32 | 169 => 33 | 260 => 97 | 240 => 64 | 241 => 72 | 242 => 86 | 276 => 87 | 277 => 98 | 278 => 129 | n => n, fun | 107 => 122 | 9 => 9 | 72 => 70 | 0 => 0 | 4 => 4 | 3 => 3 | 21 => 21 | 105 => 93 | 76 => 75 | 5 => 5 | 75 => 74 | 70 => 68 | 20 => 20 | 37 => 47 | 127 => 104 | 119 => 165 | 46 => 80 | 139 => 168 | 138 => 167 | 164 => 125 | 51 => 109 | 80 => 78 | n => n, fun | 3 => 4 | 4 => 5 | n => n⟩
theorem Tryz.zlT : Go.Proofs.Lays.n230 Tryz.prog Tryz.zdW := {
 mixed := by kernel_rfl
 f118 := Tryz.func119.trans (congrArg some (by kernel_rfl))
 f165 := Tryz.func41.trans (congrArg some (by kernel_rfl))
 f166 := Tryz.func31.trans (congrArg some (by kernel_rfl))
 f167 := Tryz.func32.trans (congrArg some (by kernel_rfl))
 f168 := Tryz.func120.trans (congrArg some (by kernel_rfl))
 f169 := Tryz.func33.trans (congrArg some (by kernel_rfl))
 f197 := Tryz.func68.trans (congrArg some (by kernel_rfl))
 f230 := Tryz.func82.trans (congrArg some (by kernel_rfl))
 f240 := Tryz.func64.trans (congrArg some (by kernel_rfl))
 f241 := Tryz.func72.trans (congrArg some (by kernel_rfl))
 f242 := Tryz.func86.trans (congrArg some (by kernel_rfl))
 f260 := Tryz.func97.trans (congrArg some (by kernel_rfl))
 f270 := Tryz.func121.trans (congrArg some (by kernel_rfl))
 f276 := Tryz.func87.trans (congrArg some (by kernel_rfl))
 f277 := Tryz.func98.trans (congrArg some (by kernel_rfl))
 f278 := Tryz.func129.trans (congrArg some (by kernel_rfl))
 t0 := Tryz.underlying0
 a0 := Tryz.isAgg0
 z0 := Tryz.sizeOf0
 v0 := Tryz.zeroValue0
 t3 := Tryz.underlying3
 a3 := Tryz.isAgg3
 z3 := Tryz.sizeOf3
 v3 := Tryz.zeroValue3
 t4 := Tryz.underlying4
 a4 := Tryz.isAgg4
 z4 := Tryz.sizeOf4
 v4 := Tryz.zeroValue4
 t5 := Tryz.underlying5
 a5 := Tryz.isAgg5
 z5 := Tryz.sizeOf5
 v5 := Tryz.zeroValue5
 t9 := Tryz.underlying9
 a9 := Tryz.isAgg9
 z9 := Tryz.sizeOf9
 v9 := Tryz.zeroValue9
 t20 := Tryz.underlying20
 a20 := Tryz.isAgg20
 z20 := Tryz.sizeOf20
 v20 := Tryz.zeroValue20
 t21 := Tryz.underlying21
 a21 := Tryz.isAgg21
 z21 := Tryz.sizeOf21
 v21 := Tryz.zeroValue21
 t37 := Tryz.underlying47
 a37 := Tryz.isAgg47
 z37 := Tryz.sizeOf47
 v37 := Tryz.zeroValue47
 t46 := Tryz.underlying80
 a46 := Tryz.isAgg80
 z46 := Tryz.sizeOf80
 v46 := Tryz.zeroValue80
 t51 := Tryz.underlying109
 a51 := Tryz.isAgg109
 z51 := Tryz.sizeOf109
 v51 := Tryz.zeroValue109
 t70 := Tryz.underlying68
 a70 := Tryz.isAgg68
 z70 := Tryz.sizeOf68
 v70 := Tryz.zeroValue68
 t72 := Tryz.underlying70
 a72 := Tryz.isAgg70
 z72 := Tryz.sizeOf70
 v72 := Tryz.zeroValue70
 t75 := Tryz.underlying74
 a75 := Tryz.isAgg74
 z75 := Tryz.sizeOf74
 v75 := Tryz.zeroValue74
 t76 := Tryz.underlying75
 a76 := Tryz.isAgg75
 z76 := Tryz.sizeOf75
 v76 := Tryz.zeroValue75
 t105 := Tryz.underlying93
 a105 := Tryz.isAgg93
 z105 := Tryz.sizeOf93
 v105 := Tryz.zeroValue93
 t107 := Tryz.underlying122
 a107 := Tryz.isAgg122
 z107 := Tryz.sizeOf122
 v107 := Tryz.zeroValue122
 t119 := Tryz.underlying165
 a119 := Tryz.isAgg165
 z119 := Tryz.sizeOf165
 t127 := Tryz.underlying104
 a127 := Tryz.isAgg104
 z127 := Tryz.sizeOf104
 v127 := Tryz.zeroValue104
 t138 := Tryz.underlying167
 a138 := Tryz.isAgg167
 z138 := Tryz.sizeOf167
 v138 := Tryz.zeroValue167
 t139 := Tryz.underlying168
 a139 := Tryz.isAgg168
 z139 := Tryz.sizeOf168
 v139 := Tryz.zeroValue168
 t164 := Tryz.underlying125
 a164 := Tryz.isAgg125
 z164 := Tryz.sizeOf125
 v164 := Tryz.zeroValue125
 g3 := by kernel_rfl
 g4 := by kernel_rfl }
theorem Tryz.zdO : Builder.Extra Tryz.prog Tryz.zdW := {
 sizeBuilder := by kernel_rfl
 liesBuilder := by kernel_rfl
 t5 := Tryz.underlying5
 a5 := Tryz.isAgg5
 z5 := Tryz.sizeOf5
 v5 := Tryz.zeroValue5
 infoByte := by kernel_rfl
 cellsByte := by kernel_rfl
 sizeByte := by kernel_rfl
 neB5 := by decide }
open Go.RowKit Go.Lib in
theorem Tryz.strings_ToLower_any (s : ByteArray) (w : World) (hs : s.size < 35184372088832) (hV : CaseVar 8 caseA w) (hT : Lib.Utf8Tabs 4 5 w) :
  Calls Tryz.prog 60 #[.string s] w fun e w' => e = .returned (.string ⟨(Lib.toLowerD s.data.toList).toArray⟩) ∧ Below w.heap.size w w' := Any.strings_ToLower_any Tryz.zoQ Tryz.zfv s w hs hV hT
def Tryz.ze2 : Go.Shelf.Ren := ⟨fun | 41 => 90 | n => n, fun | 22 => 39 | 23 => 109 | 4 => 4 | n => n, fun | n => n⟩
theorem Tryz.zg3 : Go.Proofs.SlLaysE0.n41 Tryz.prog Tryz.ze2 := {
 mixed := by kernel_rfl
 f41 := ⟨Tryz.f90.name, by decide, Tryz.func90.trans (congrArg some (by kernel_rfl))⟩
 t4 := Tryz.underlying4
 a4 := Tryz.isAgg4
 z4 := Tryz.sizeOf4
 v4 := Tryz.zeroValue4
 t22 := Tryz.underlying39
 a22 := Tryz.isAgg39
 z22 := Tryz.sizeOf39
 v22 := Tryz.zeroValue39 }
open Go.RowKit Go.Lib in
theorem Tryz.slices_Clone_nil (n c : Nat) (w : World) :
  Calls Tryz.prog 90 #[.slice none n c] w fun e w' => e = .returned (.slice none 0 0) ∧ w' = w := AnyE.slices_Clone_nil Tryz.zg3 n c w
end Go.Proofs
end
section
open Go Go.RowKit Go.Lib Go.Maps Go.WideElems Go.WideMaps PrintWords
namespace Go.Proofs.YtioofhilohmfbaaGreatDoor
def zgq : DataW Unit := .map [(.int .u8 34, .lit (.int .u8 34)), (.int .u8 39, .lit (.int .u8 39)), (.int .u8 92, .lit (.int .u8 92)), (.int .u8 97, .lit (.int .u8 7)), (.int .u8 98, .lit (.int .u8 8)), (.int .u8 102, .lit (.int .u8 12)), (.int .u8 110, .lit (.int .u8 10)), (.int .u8 114, .lit (.int .u8 13)), (.int .u8 116, .lit (.int .u8 9)), (.int .u8 118, .lit (.int .u8 11))]
def zgr : DataW Unit := .map [(.int .u8 85, .lit (.int .i64 8)), (.int .u8 117, .lit (.int .i64 4)), (.int .u8 120, .lit (.int .i64 2))]
def zey (P : Program) (K E g : Nat) (D : DataW Unit) (w : World) : Prop :=
 ∃ bm n, w.cell? ⟨g, 0, none⟩ = some (.map (some bm)) ∧ w.ownsMap P K (plainElem P E) bm n D
theorem zey.below {P : Program} {K E g : Nat} {D : DataW Unit} {w w' : World} (h : zey P K E g D w) (hb : Below w.heap.size w w') : zey P K E g D w' := by
 obtain ⟨bm, n, hc, hm⟩ := h
 have hl := hm.lt
 obtain ⟨es, clock, hb', F, hn, hD⟩ := hm
 have hg : g < w.heap.size := by
  rcases Nat.lt_or_ge g w.heap.size with h' | h'
  ·exact h'
  ·simp [World.cell?, Array.getElem?_eq_none h'] at hc
 exact ⟨bm, n, (hb.cell (p := ⟨g, 0, none⟩) hg).trans hc, es, clock, (hb.block bm hl).trans hb', F, hn, hD⟩
def zcx : List ByteArray := [⟨#[124, 61]⟩, ⟨#[124, 126]⟩, ⟨#[33, 61]⟩, ⟨#[33, 126]⟩, ⟨#[61, 126]⟩, ⟨#[61, 61]⟩, ⟨#[62, 61]⟩, ⟨#[60, 61]⟩, ⟨#[123]⟩, ⟨#[125]⟩, ⟨#[40]⟩, ⟨#[41]⟩, ⟨#[91]⟩, ⟨#[93]⟩, ⟨#[44]⟩, ⟨#[124]⟩, ⟨#[61]⟩, ⟨#[62]⟩, ⟨#[60]⟩, ⟨#[43]⟩, ⟨#[45]⟩, ⟨#[42]⟩, ⟨#[47]⟩]
def zcs : List (ByteArray × Int) := [(⟨#[119]⟩, 604800000000000), (⟨#[100]⟩, 86400000000000), (⟨#[104]⟩, 3600000000000), (⟨#[109]⟩, 60000000000), (⟨#[115]⟩, 1000000000), (⟨#[109, 115]⟩, 1000000), (⟨#[117, 115]⟩, 1000), (⟨#[110, 115]⟩, 1)]
def zcV : List (ByteArray × Int) := [(⟨#[66]⟩, 1), (⟨#[75, 66]⟩, 1000), (⟨#[77, 66]⟩, 1000000), (⟨#[71, 66]⟩, 1000000000), (⟨#[84, 66]⟩, 1000000000000), (⟨#[75, 105, 66]⟩, 1024), (⟨#[77, 105, 66]⟩, 1048576), (⟨#[71, 105, 66]⟩, 1073741824), (⟨#[84, 105, 66]⟩, 1099511627776)]
def zez (g : Nat) (l : List (ByteArray × Int)) (w : World) : Prop := ∀ i x, l[i]? = some x → w.cell? ⟨g, i * 2, none⟩ = some (.string x.1) ∧ w.cell? ⟨g, i * 2 + 1, none⟩ = some (.int .i64 x.2)
def zhn (g : Nat) (l : List ByteArray) (w : World) : Prop := ∃ ad c, w.cell? ⟨g, 0, none⟩ = some (.slice (some ad) l.length c) ∧ l.length ≤ c ∧ Kd.C Kd.string w (some ad) l.length l
structure G (w : World) : Prop where
 utf8 : Lib.Utf8Tabs 4 5 w
 cases : Lib.CaseVar 8 Lib.caseA w
 esc : zey Tryz.prog 5 5 1 zgq w
 cod : zey Tryz.prog 5 3 2 zgr w
 signs : zhn 0 zcx w
 times : zez 7 zcs w
 sizes : zez 3 zcV w
theorem zjw {w : World} {g o : Nat} {v : Value} (hc : w.cell? ⟨g, o, none⟩ = some v) : g < w.heap.size := by
 rcases Nat.lt_or_ge g w.heap.size with h' | h'
 ·exact h'
 ·simp [World.cell?, Array.getElem?_eq_none h'] at hc
theorem zbM {w w' : World} (hb : Below w.heap.size w w') {g o : Nat} {v : Value} (hc : w.cell? ⟨g, o, none⟩ = some v) : w'.cell? ⟨g, o, none⟩ = some v :=
 (hb.cell (p := ⟨g, o, none⟩) (zjw hc)).trans hc
theorem zhX {R oR : Nat} {T : Array Lib.CaseRow} {w w' : World} (h : Lib.CaseTab R oR T w) (hb : Below w.heap.size w w') : Lib.CaseTab R oR T w' := fun i hi => by
 obtain ⟨h0, h1, h2, h3, h4⟩ := h i hi
 exact ⟨zbM hb h0, zbM hb h1, zbM hb h2, zbM hb h3, zbM hb h4⟩
theorem G.below {w w' : World} (h : G w) (hb : Below w.heap.size w w') : G w' where
 utf8 := ⟨fun c hc => zbM hb (h.utf8.1 c hc), fun i hi => ⟨zbM hb (h.utf8.2 i hi).1, zbM hb (h.utf8.2 i hi).2⟩⟩
 cases := by
  obtain ⟨R, oR, cap, hc, ht⟩ := h.cases
  exact ⟨R, oR, cap, zbM hb hc, zhX ht hb⟩
 esc := h.esc.below hb
 cod := h.cod.below hb
 signs := by
  obtain ⟨ad, c, h1, h2, h3⟩ := h.signs
  exact ⟨ad, c, zbM hb h1, h2, Kd.zaY h3 hb⟩
 times := fun i x hx => ⟨zbM hb (h.times i x hx).1, zbM hb (h.times i x hx).2⟩
 sizes := fun i x hx => ⟨zbM hb (h.sizes i x hx).1, zbM hb (h.sizes i x hx).2⟩
theorem G.at {w w' : World} (h : G w) (hb : Below w.heap.size w w') : zaa (G w') := ⟨h.below hb⟩
end Go.Proofs.YtioofhilohmfbaaGreatDoor
end
section
open Go Go.RowKit Go.Shelf Go.Lib
namespace Go.Proofs.YtioofhilohmfbaaGreatDoor
abbrev Bld (B b : Nat) (l : List UInt8) (w : World) : Prop := Lib.IsBuilderF 70 5 B b (Lib.byteCells l) w
theorem zjx (w : World) : Bld w.heap.size w.heap.size [] (w.alloc (.cells #[.pointer none, .slice none 0 0] 70)) := Lib.IsBuilderF.of (Lib.fresh_isBuilder _ _ w)
theorem byteCells_append (a b : List UInt8) : Lib.byteCells (a ++ b) = Lib.byteCells a ++ Lib.byteCells b := by simp [Lib.byteCells]
theorem ze3 (a : List UInt8) : (Lib.byteCells a).length = a.length := by simp [Lib.byteCells]
theorem zdg (B b : Nat) (l : List UInt8) (c : UInt8) (w : World) (h : Bld B b l w) (hlen : l.length + 1 ≤ 140737488355328) (hBw : B ≤ w.heap.size) :
  Calls Tryz.prog 32 #[.pointer (some ⟨b, 0, none⟩), .int .u8 c.toNat] w fun e w' => e = .returned .nilIface ∧ Bld B b (l ++ [c]) w' ∧ Below B w w' ∧ Lib.OthersKept 5 (some b) w w' := by
 refine (Any.Builder_WriteByte_k (ρ := Tryz.zdW) { Tryz.zlT with } Tryz.zdO B b (Lib.byteCells l) (c.toNat : Int) w h (by rw [ze3]; exact hlen) hBw).mono ?_
 rintro e w' ⟨rfl, h1, h2, h3⟩
 refine ⟨rfl, .inr ?_, h2, h3⟩
 rw [byteCells_append]
 exact h1
theorem zdr (B b : Nat) (l : List UInt8) (s : ByteArray) (w : World) (h : Bld B b l w) (hlen : l.length + s.size ≤ 140737488355328) (hBw : B ≤ w.heap.size) :
  Calls Tryz.prog 31 #[.pointer (some ⟨b, 0, none⟩), .string s] w fun e w' => e = .returned (.tuple #[.int .i64 s.size, .nilIface]) ∧ Bld B b (l ++ s.data.toList) w' ∧ Below B w w' ∧ Lib.OthersKept 5 (some b) w w' := by
 refine (Any.Builder_WriteString_k (ρ := Tryz.zdW) { Tryz.zlT with } Tryz.zdO B b (Lib.byteCells l) s w h (by rw [ze3]; exact hlen) hBw).mono ?_
 rintro e w' ⟨rfl, h1, h2, h3⟩
 refine ⟨rfl, .inr ?_, h2, h3⟩
 rw [byteCells_append]
 exact h1
theorem zfx (B b : Nat) (l : List UInt8) (w : World) (h : Bld B b l w) (hBw : B ≤ w.heap.size) :
  Calls Tryz.prog 33 #[.pointer (some ⟨b, 0, none⟩)] w fun e w' => e = .returned (.string ⟨l.toArray⟩) ∧ Bld B b l w' ∧ Below B w w' ∧ Lib.OthersKept 5 (some b) w w' :=
 Tryz.Builder_String_any_k B b l w h hBw
section
variable {T e B b : Nat} {bs : List Value}
theorem zhY {w w' : World} (h : Lib.IsBuilderF T e B b bs w) (hs : ∀ k c f, w.heap[k]? = some (.cells c T f) → k = b → w'.heap[k]? = some (.cells c T f))
  (hr : ∀ v n xs, v.ownBlock ≠ some b → w.ownsRowF B e 1 v n xs → w'.ownsRowF B e 1 v n xs) : Lib.IsBuilderF T e B b bs w' := by
 rcases h with ⟨hB, v, hb, hown, hne⟩ | ⟨hB, v, hb, hown, hne⟩
 ·exact .inl ⟨hB, v, hs _ _ _ hb rfl, hr _ _ _ hne hown, hne⟩
 ·exact .inr ⟨hB, v, hs _ _ _ hb rfl, hr _ _ _ hne hown, hne⟩
theorem zk1 {w w' : World} {v : Value} {n : Nat} {xs : List Value} (h : w.ownsRowF B e 1 v n xs) (hb : Below w.heap.size w w') : w'.ownsRowF B e 1 v n xs := by
 refine ⟨h.1, ?_⟩
 rcases h.2 with h' | ⟨g, cap, cur, fz, h1, h2, h3, h4⟩
 ·exact .inl h'
 ·exact .inr ⟨g, cap, cur, fz, h1, h2, (hb.block g (Array.getElem?_eq_some_iff.1 h3).1).trans h3, h4⟩
theorem zho {w w' : World} (h : Lib.IsBuilderF T e B b bs w) (hb : Below w.heap.size w w') : Lib.IsBuilderF T e B b bs w' :=
 zhY h (fun k _ _ hk _ => (hb.block k (Array.getElem?_eq_some_iff.1 hk).1).trans hk) (fun _ _ _ _ hr => zk1 hr hb)
theorem zk2 {w w' : World} {row : Option Nat} (h : Lib.IsBuilderF T e B b bs w) (hg : w.grownBy w' row) (hrow : ∀ r, row = some r → ∃ o : Obj, w.heap[r]? = some o ∧ o.isCells = false) : Lib.IsBuilderF T e B b bs w' := by
 refine zhY h (fun k c f hk _ => (hg.block k (Array.getElem?_eq_some_iff.1 hk).1 fun e' => ?_).trans hk) (fun v n xs _ hr => hr.kept hg ?_)
 ·obtain ⟨o, ho, hc⟩ := hrow k e'.symm
  rw [hk] at ho; cases ho; cases hc
 ·rcases hr.2 with ⟨rfl, _⟩ | ⟨g, cap, cur, fz, rfl, _, hgb, _⟩
  ·exact .inl rfl
  ·refine .inr fun e' => ?_
   obtain ⟨o, ho, hc⟩ := hrow g (by simpa [Value.ownBlock] using e'.symm)
   rw [hgb] at ho; cases ho; cases hc
theorem zni {w : World} {C t : Nat} {u : Value} (h : Lib.IsBuilderF T e B b bs w) (hx : Boxed w C t u) (hT : t ≠ T) (he : t ≠ e) (v' : Value) : Lib.IsBuilderF T e B b bs (w.setCell ⟨C, 0, none⟩ v') := by
 refine zhY h (fun k c f hk _ => (Below.heap_setCell _ _ _ k fun e' => ?_).trans hk) (fun v n xs _ hr => hr.kept (grownBy_setCell' w C v') ?_)
 ·have e2 : k = C := e'
  subst e2
  have := (show w.heap[k]? = _ from hx).symm.trans hk
  simp at this
  exact hT this.2.1
 ·rcases hr.2 with ⟨rfl, _⟩ | ⟨g, cap, cur, fz, rfl, _, hgb, _⟩
  ·exact .inl rfl
  ·refine .inr fun e' => ?_
   have e2 : g = C := by simpa [Value.ownBlock] using e'
   subst e2
   have := (show w.heap[g]? = _ from hx).symm.trans hgb
   simp at this
   exact he this.2.1
end
theorem Boxed.others {w w' : World} {C t e b : Nat} {u : Value} (h : Boxed w C t u) (k : Lib.OthersKept e (some b) w w') (hne : C ≠ b) (he : t ≠ e) : Boxed w' C t u := by
 refine k C _ h (by simpa using hne) (fun c fz hx => ?_)
 simp at hx
 exact he hx.2.1
end Go.Proofs.YtioofhilohmfbaaGreatDoor
end
section
open Go Go.RowKit PrintWords
namespace Go.Proofs.YtioofhilohmfbaaGreatDoor
theorem zfP (r : Int) (hr0 : -2147483648 ≤ r) (hr1 : r ≤ 2147483647) (w : World) :
  Calls Tryz.prog 63 #[.int .i32 r] w fun e w' => e = .returned (.string ⟨(Lib.encodeRune r).toArray⟩) ∧ Below w.heap.size w w' := by
 go_enter Tryz.func63, Tryz.ntmps63
 go_wp2_with (go_at_call 86; refine (Tryz.utf8_AppendRune_plain w.heap.size (.slice none 0 0) 0 [] r hr0 hr1 w (World.ownsRow_nil _ _ _ _) (by decide) (Nat.le_refl _)).mono ?_; rintro e w' ⟨v', rfl, hown, o, hgrow⟩)
 have hlen := Lib.runeCells_le r
 have hbel : Below w.heap.size w w' := ((Below.refl _ w).alloc (Nat.le_refl _) o).grown hgrow (by simp) (fun k hk => by simp [Value.ownBlock] at hk)
 have hcells : w'.ownsRow w.heap.size 5 1 v' (Lib.encodeRune r).length (Lib.runeCells r) := by
  have := hown; rw [Nat.zero_add, Lib.runeCells_length, List.nil_append] at this; exact this
 obtain ⟨g, cap, cur, rfl, hg⟩ : ∃ g cap cur, v' = .slice (some ⟨g, 0, none⟩) (Lib.encodeRune r).length cap ∧ w'.heap[g]? = some (.cells cur 5 (0, 0)) := by
  rcases hcells.2 with ⟨_, h0⟩ | ⟨g, cap, cur, h1, _, h2, _⟩
  ·rw [Lib.runeCells_length] at hlen; omega
  ·exact ⟨g, cap, cur, h1, h2⟩
 have hcv := run_convert_bytes_back (P := Tryz.prog) w' 47 9 5 ⟨g, 0, none⟩ cap (Lib.encodeRune r) Tryz.underlying47 Tryz.underlying5 Tryz.underlying9 (fun j hj => by
  have h1 := hcells.cells (g := g) rfl j (.int .u8 ((Lib.encodeRune r)[j].toNat : Int)) (by
   rw [← Lib.byteCells_encodeRune]
   simp [Lib.byteCells, List.getElem?_eq_getElem hj])
  exact h1)
 clear hown hgrow hcells hg hlen
 go_wp2
 rw [hcv]
 go_wp2
 go_ret
 exact ⟨rfl, hbel⟩
end Go.Proofs.YtioofhilohmfbaaGreatDoor
namespace Go.Proofs.YtioofhilohmfbaaGreatDoor.P
open Go Go.RowKit Go.Proofs.YtioofhilohmfbaaGreatDoorW.PrintWords
def zej.f (a0 : Int) : Option ByteArray := if -2147483648 ≤ a0 ∧ a0 ≤ 2147483647 then some ⟨(Lib.encodeRune a0).toArray⟩ else none
theorem zej.calls (a0 : Int) (r : ByteArray) (w : World) (h : zej.f a0 = some r) :
  Calls Tryz.prog 63 #[.int .i32 a0] w fun e w' => e = .returned (.string r) ∧ Below w.heap.size w w' := by
 simp only [zej.f] at h
 split at h
 ·rename_i hr
  simp only [Option.some.injEq] at h
  subst h
  exact zfP a0 hr.1 hr.2 w
 ·contradiction
end Go.Proofs.YtioofhilohmfbaaGreatDoor.P
end
section
open Go Go.RowKit PrintWords
namespace Go.Proofs.YtioofhilohmfbaaGreatDoor
def zcy (c : Nat) : Nat := if 48 ≤ c ∧ c ≤ 57 then c - 48 else if 97 ≤ c ∧ c ≤ 102 then c - 87 else if 65 ≤ c ∧ c ≤ 70 then c - 55 else 16
def zcz (l : List UInt8) : Nat := l.foldl (fun n c => n * 16 + zcy c.toNat) 0
theorem zjy (l : List UInt8) (c : UInt8) : zcz (l ++ [c]) = zcz l * 16 + zcy c.toNat := by simp [zcz]
theorem zk3 (l : List UInt8) : ∀ (n k : Nat), n < 16 ^ k → (∀ c ∈ l, zcy c.toNat < 16) → l.foldl (fun n c => n * 16 + zcy c.toNat) n < 16 ^ (k + l.length) := by
 induction l with
 | nil => intro n k h _; simpa using h
 | cons c l ih =>
  intro n k h hc
  rw [List.foldl_cons, List.length_cons, show k + (l.length + 1) = (k + 1) + l.length by omega]
  refine ih _ _ ?_ (fun x hx => hc x (by simp [hx]))
  have h2 := hc c (by simp)
  rw [Nat.pow_succ]
  omega
theorem ziy (l : List UInt8) (h : ∀ c ∈ l, zcy c.toNat < 16) : zcz l < 16 ^ l.length := by
 have := zk3 l 0 0 (by decide) h
 simpa [zcz] using this
theorem zp4 : ∀ c : Fin 256, Go.bits .or .u8 (c.val : Int) 32 = if 97 ≤ c.val ∧ c.val ≤ 102 then (c.val : Int) else if 65 ≤ c.val ∧ c.val ≤ 70 then (c.val : Int) + 32 else Go.bits .or .u8 (c.val : Int) 32 := by decide +kernel
theorem zlU (c : Nat) (h : c < 256) (h2 : 97 ≤ c ∧ c ≤ 102 ∨ 65 ≤ c ∧ c ≤ 70) : Go.bits .or .u8 (c : Int) 32 = ((zcy c + 87 : Nat) : Int) := by
 rw [zp4 ⟨c, h⟩]
 unfold zcy
 rcases h2 with h2 | h2
 ·simp only [h2, and_self, if_true]; rw [if_neg (by omega)]; omega
 ·rw [if_neg (by simp only; omega), if_pos (by exact h2), if_neg (by omega), if_neg (by omega), if_pos h2]; simp only; omega
theorem zjz (c : Int) (w : World) : Calls Tryz.prog 123 #[.int .u8 c] w fun e w' => e = .returned (.int .u8 (Go.bits .or .u8 c 32)) ∧ w = w' := by
 go_enter Tryz.func123, Tryz.ntmps123
 go_wp2
 go_ret
 exact ⟨rfl, rfl⟩
theorem zg4 (s : ByteArray) (w : World) (h0 : 0 < s.size) (h8 : s.size ≤ 8) (hx : zaa (∀ c ∈ s.data.toList, zcy c.toNat < 16)) :
  Calls Tryz.prog 84 #[.string s, .int .i64 16, .int .i64 64] w fun e w' => e = .returned (.tuple #[.int .u64 (zcz s.data.toList), .nilIface]) ∧ Below w.heap.size w w' := by
 have t2 : s.toList.isEmpty = false := by
  rw [← decide_eq_emptyBytes]
  exact decide_eq_false (fun h => by rw [h] at h0; exact absurd h0 (by decide))
 have hcv := Lib.run_convert_string_bytes (P := Tryz.prog) w 9 47 5 s (u := .string) Tryz.underlying9 Tryz.underlying47 Tryz.underlying5
 have hB : ∀ j, j < s.size → (Lib.bytesWorld w 5 s).cell? ⟨w.heap.size, j, none⟩ = some (.int .u8 (s.data.toList.getD j 0).toNat) := fun j hj => Lib.bytesWorld_cell w 5 s j hj
 have hbel : Below w.heap.size w (Lib.bytesWorld w 5 s) := Lib.bytesWorld_below w 5 s
 obtain ⟨W1, hW1⟩ : ∃ W1, W1 = Lib.bytesWorld w 5 s := ⟨_, rfl⟩
 rw [← hW1] at hcv hB hbel
 clear hW1
 obtain ⟨bs, hL⟩ : ∃ bs, bs = s.data.toList := ⟨_, rfl⟩
 have hLn : bs.length = s.size := by rw [hL, Lib.size_eq]
 rw [← hL] at hB hx ⊢
 clear hL
 have hmv : IntKind.u64.wrap (IntKind.u64.wrap 18446744073709551616 - 1) = 18446744073709551615 := by
  rw [IntKind.wrap_u64, IntKind.wrap_u64]
  decide
 go_enter Tryz.func84, Tryz.ntmps84
 go_wp2
 go_loop [12, 13, 101] (fun vu vn vi => ∃ (k : Nat) (a : Int), vu = .bool false ∧ vn = .int .u64 a ∧ vi = .int .i64 k ∧ k ≤ s.size ∧ Hid (a = (zcz (bs.take k) : Int)))
  (fun _ _ vi => s.size - (intOf vi).toNat)
 case atStart => exact ⟨0, 0, rfl, rfl, rfl, by omega, rfl⟩
 case round =>
  obtain ⟨k, a, rfl, rfl, rfl, hk, hh⟩ := hrel
  have ha := hh.out
  clear hh
  have hlt := ziy (bs.take k) (fun c hc => hx.out c (List.mem_of_mem_take hc))
  rw [List.length_take, Nat.min_eq_left (by omega)] at hlt
  by_cases hkn : k < s.size
  ·have hlt2 : zcz (bs.take k) < 16 ^ 7 := Nat.lt_of_lt_of_le hlt (Nat.pow_le_pow_right (by decide) (by omega))
   have hc := hB k hkn
   have hget : bs.getD k 0 = bs[k]'(by omega) := by simp [List.getD, List.getElem?_eq_getElem (show k < bs.length by omega)]
   have hnx : zcz (bs.take (k + 1)) = zcz (bs.take k) * 16 + zcy (bs[k]'(by omega)).toNat := by
    rw [List.take_succ_eq_append_getElem (by omega), zjy]
   have hd := hx.out (bs[k]'(by omega)) (List.getElem_mem _)
   rw [hget] at hc
   generalize bs[k]'(by omega) = c at hc hnx hd
   have hc256 : c.toNat < 256 := c.toNat_lt
   clear hB hget hlt hx
   have a0 : 0 ≤ a := by omega
   have a1 : a < 268435456 := by omega
   by_cases hdig : 48 ≤ c.toNat ∧ c.toNat ≤ 57
   ·obtain ⟨hd0, hd1⟩ := hdig
    have hdv : zcy c.toNat = c.toNat - 48 := by unfold zcy; rw [if_pos ⟨hd0, hd1⟩]
    have HN : Hid (a * 16 + ((c.toNat : Int) - 48) = (zcz (bs.take (k + 1)) : Int)) := Lib.hid (by omega)
    clear hnx hlt2 ha hdv hd
    go_wp2
    refine ⟨⟨k + 1, a * 16 + ((c.toNat : Int) - 48), rfl, (by first | rfl | (congr 1; omega)), (by first | rfl | (congr 1; omega)), by omega, HN⟩, by simp [intOf]; omega⟩
   ·have hlet : 97 ≤ c.toNat ∧ c.toNat ≤ 102 ∨ 65 ≤ c.toNat ∧ c.toNat ≤ 70 := by unfold zcy at hd; split at hd <;> (try contradiction) <;> split at hd <;> (try omega) <;> split at hd <;> omega
    have hor := zlU c.toNat hc256 hlet
    have hdg : 10 ≤ zcy c.toNat := by unfold zcy; rw [if_neg hdig]; split <;> (try omega) <;> split <;> omega
    obtain ⟨d, hdd⟩ : ∃ d : Int, d = (zcy c.toNat : Int) := ⟨_, rfl⟩
    have hor2 : Go.bits .or .u8 (c.toNat : Int) 32 = d + 87 := by rw [hor, hdd]; omega
    have d0 : 10 ≤ d := by omega
    have d1 : d < 16 := by omega
    have HN : Hid (a * 16 + d = (zcz (bs.take (k + 1)) : Int)) := Lib.hid (by omega)
    have hl2 : 65 ≤ c.toNat := by omega
    have h95 : ¬ (c.toNat : Int) = 95 := by omega
    have HL : ∀ W, Calls Tryz.prog 123 #[.int .u8 (c.toNat : Int)] W fun e w' => e = .returned (.int .u8 (d + 87)) ∧ W = w' := fun W => by
     have := zjz (c.toNat : Int) W
     rw [hor2] at this
     exact this
    clear hnx hlt2 ha hd hdg hor hlet hdd hdig hor2
    go_wp2_with (go_at_call 123; refine (HL _).mono ?_; rintro e w' ⟨rfl, rfl⟩)
    refine ⟨⟨k + 1, a * 16 + d, rfl, (by first | rfl | (congr 1; omega)), (by first | rfl | (congr 1; omega)), by omega, HN⟩, by simp [intOf]; omega⟩
  ·have hkk : k = s.size := by omega
   subst hkk
   rw [List.take_of_length_le (by omega)] at ha
   subst ha
   clear hB hlt hx
   go_wp2
   go_ret2
   exact ⟨rfl, hbel⟩
theorem zhZ (s : ByteArray) (w : World) (h0 : 0 < s.size) (h8 : s.size ≤ 8) (hx : zaa (∀ c ∈ s.data.toList, zcy c.toNat < 16)) :
  Calls Tryz.prog 61 #[.string s, .int .i64 16, .int .i64 64] w fun e w' => e = .returned (.tuple #[.int .u64 (zcz s.data.toList), .nilIface]) ∧ Below w.heap.size w w' := by
 go_enter Tryz.func61, Tryz.ntmps61
 go_wp2_with (go_at_call 84; refine (zg4 s w h0 h8 hx).mono ?_; rintro e w' ⟨rfl, hb⟩)
 go_ret2
 exact ⟨rfl, hb⟩
end Go.Proofs.YtioofhilohmfbaaGreatDoor
end
section
open Go Go.Lib
namespace Go.Proofs.YtioofhilohmfbaaGreatDoor
def ze4 : List UInt8 := [48, 49, 50, 51, 52, 53, 54, 55, 56, 57, 97, 98, 99, 100, 101, 102]
theorem zfy {α : Type} (p : α → Bool) (l : List α) : l.dropWhile p = [] ↔ ∀ x ∈ l, p x = true := by
 induction l with
 | nil => simp
 | cons a l ih =>
  rw [List.dropWhile_cons]
  cases h : p a
  ·simp [h]
  ·simp [h, ih]
theorem zh0 {α : Type} (p : α → Bool) (l : List α) (x : α) (hx : x ∈ l) (hp : p x = false) : x ∈ l.dropWhile p := by
 induction l with
 | nil => cases hx
 | cons a l ih =>
  rw [List.dropWhile_cons]
  cases h : p a
  ·simpa using hx
  ·rcases List.mem_cons.1 hx with rfl | hx
   ·rw [hp] at h; cases h
   ·simpa using ih hx
theorem zh1 (l cs : List UInt8) : trimS l cs = [] ↔ ∀ x ∈ l, cs.contains x = true := by
 unfold trimS trimLeftS trimRightS
 rw [zfy]
 constructor
 ·intro h x hx
  cases hc : cs.contains x with
  | true => rfl
  | false =>
   have := h x (List.mem_reverse.2 (zh0 _ _ x (List.mem_reverse.2 hx) hc))
   rw [hc] at this; cases this
 ·intro h x hx
  have h2 := List.mem_reverse.1 hx
  exact h x (List.mem_reverse.1 ((List.dropWhile_suffix _).mem h2))
def zjA (x : CaseRow) : Bool := decide (x.2.1 < 128) || decide (x.delta 1 > 1114111) || (decide (103 ≤ (x.1 : Int) + x.delta 1) || decide (103 ≤ 128 + x.delta 1))
theorem zlV : caseT.all zjA = true := by decide +kernel
theorem znj (i : Nat) (hi : i < caseA.size) : zjA (caseA.getD i (0, 0, 0, 0, 0)) = true := by
 have h := List.all_eq_true.1 zlV
 have e : caseA.getD i (0, 0, 0, 0, 0) = caseA[i] := by simp [Array.getD, hi]
 rw [e]
 refine h _ ?_
 simp [caseA]
theorem zk4 (r : Nat) (h0 : 128 ≤ r) : 103 ≤ toLowerU (r : Int) := by
 unfold toLowerU
 rw [if_neg (by omega)]
 unfold toR lookupGo
 cases hi : lookupIdx caseA r (caseA.size + 1) 0 caseA.size with
 | none => simp only [Option.map_none]; omega
 | some i =>
  obtain ⟨hil, hlo, hhi⟩ := lookupIdx_some caseA r _ _ _ i hi
  have hr := znj i hil
  simp only [Option.map_some]
  generalize caseA.getD i (0, 0, 0, 0, 0) = x at *
  unfold zjA at hr
  simp only [Bool.or_eq_true, decide_eq_true_eq] at hr
  unfold convertR
  split
  ·omega
  ·rename_i hd
   rcases hr with (hr | hr) | hr | hr <;> omega
theorem znk (r : Int) (h0 : 103 ≤ r) : ∃ b ∈ encodeRune r, ze4.contains b = false := by
 have big : ∀ c : UInt8, 103 ≤ c.toNat → ze4.contains c = false := by
  intro c hc
  cases h : ze4.contains c with
  | false => rfl
  | true =>
   simp only [ze4, List.contains_cons, List.contains_nil, Bool.or_false, Bool.or_eq_true, beq_iff_eq] at h
   rcases h with h | h | h | h | h | h | h | h | h | h | h | h | h | h | h | h <;> (rw [h] at hc; exact absurd hc (by decide))
 have nat : ∀ k : Nat, 103 ≤ k → k < 256 → ∀ _ : Unit, ze4.contains ((k : Int).toNat.toUInt8) = false := by
  intro k h1 h2 _
  refine big _ ?_
  have : ((k : Int).toNat.toUInt8).toNat = k := by simp [Nat.toUInt8, UInt8.toNat_ofNat']; omega
  omega
 unfold encodeRune encodeRuneZ
 split
 ·exact ⟨_, List.mem_map.2 ⟨r, by simp, rfl⟩, by
   have := nat r.toNat (by omega) (by omega) ()
   rwa [show ((r.toNat : Nat) : Int) = r by omega] at this⟩
 ·split
  ·exact ⟨_, List.mem_map.2 ⟨192 + r / 64, by simp, rfl⟩, by
    have := nat (192 + r / 64).toNat (by omega) (by omega) ()
    rwa [show (((192 + r / 64).toNat : Nat) : Int) = 192 + r / 64 by omega] at this⟩
  ·split
   ·exact ⟨_, List.mem_map.2 ⟨224 + r / 4096, by simp, rfl⟩, by
     have := nat (224 + r / 4096).toNat (by omega) (by omega) ()
     rwa [show (((224 + r / 4096).toNat : Nat) : Int) = 224 + r / 4096 by omega] at this⟩
   ·split
    ·exact ⟨_, List.mem_map.2 ⟨240 + r / 262144, by simp, rfl⟩, by
      have := nat (240 + r / 262144).toNat (by omega) (by omega) ()
      rwa [show (((240 + r / 262144).toNat : Nat) : Int) = 240 + r / 262144 by omega] at this⟩
    ·exact ⟨239, by decide, by decide⟩
theorem decode_high (b : UInt8) (t : List UInt8) (h : 128 ≤ b.toNat) : 128 ≤ (decodeL (b :: t)).1 := by
 rw [decodeL_N]
 rcases decodeN_shape (b :: t).length ((b :: t).getD 0 0).toNat ((b :: t).getD 1 0).toNat ((b :: t).getD 2 0).toNat ((b :: t).getD 3 0).toNat with ⟨c, e⟩ | ⟨c1, c2, c3, cv, e⟩ | ⟨c1, c2, c3, c4, cv, cs, e⟩ | ⟨c1, c2, c3, c4, c5, cv, cw, e⟩ | e
 ·exact absurd (show b.toNat < 128 from c) (by omega)
 all_goals (rw [e]; dsimp only; omega)
theorem zo1 : ∀ i : Fin 128, (∀ c ∈ encodeRune (toLowerU (i.val : Int)), ze4.contains c = true) ↔ zcy i.val < 16 := by decide +kernel
theorem zjB (n : Nat) (h : 128 ≤ n) : zcy n = 16 := by unfold zcy; rw [if_neg (by omega), if_neg (by omega), if_neg (by omega)]
theorem ze5 : ∀ (l : List UInt8), (∀ x ∈ toLowerD l, ze4.contains x = true) ↔ ∀ c ∈ l, zcy c.toNat < 16
 | [] => by simp [toLowerD, mapD_nil]
 | b :: t => by
  unfold toLowerD
  rw [mapD_step toLowerU (b :: t) (by simp)]
  by_cases hb : b.toNat < 128
  ·have ih := ze5 t
   unfold toLowerD at ih
   rw [decodeL_ascii b t hb]
   dsimp only
   rw [if_pos (toLowerU_range b.toNat (by omega)).1, List.drop_succ_cons, List.drop_zero]
   have hl := zo1 ⟨b.toNat, hb⟩
   simp only [List.mem_append, List.mem_cons, forall_eq_or_imp] at ih ⊢
   rw [← ih, ← hl]
   constructor
   ·intro h; exact ⟨fun c hc => h c (Or.inl hc), fun c hc => h c (Or.inr hc)⟩
   ·rintro ⟨h1, h2⟩ c (hc | hc)
    ·exact h1 c hc
    ·exact h2 c hc
  ·have hd := decode_high b t (by omega)
   have h103 := zk4 _ hd
   obtain ⟨x, hx, hn⟩ := znk _ h103
   rw [if_pos (by omega)]
   constructor
   ·intro h
    have := h x (List.mem_append.2 (Or.inl hx))
    rw [hn] at this; cases this
   ·intro h
    have := h b (by simp)
    rw [zjB _ (by omega)] at this
    omega
theorem zg5 (l : List UInt8) : trimS (toLowerD l) ze4 = [] ↔ ∀ c ∈ l, zcy c.toNat < 16 := (zh1 _ _).trans (ze5 l)
theorem ze6 (f : Int → Int) : ∀ (n : Nat) (l : List UInt8), (mapGoD f n l).length ≤ 4 * n
 | 0, l => by simp [mapGoD]
 | n + 1, l => by
  rw [mapGoD]
  split
  ·simp
  ·have h1 := ze6 f n (l.drop (decodeL l).2)
   rw [List.length_append]
   split
   ·have h2 := (runeCells_le (f (decodeL l).1)).2
    rw [runeCells_length] at h2
    omega
   ·simp; omega
theorem zgs (l : List UInt8) : (toLowerD l).length ≤ 4 * l.length := ze6 _ _ _
end Go.Proofs.YtioofhilohmfbaaGreatDoor
end
section
open Go Go.RowKit Go.Maps Go.WideElems Go.WideMaps PrintWords
namespace Go.Proofs.YtioofhilohmfbaaGreatDoor
def zgt : Nat → Option Nat
 | 34 => some 34 | 39 => some 39 | 92 => some 92 | 97 => some 7 | 98 => some 8 | 102 => some 12 | 110 => some 10 | 114 => some 13 | 116 => some 9 | 118 => some 11 | _ => none
def zf3 : Nat → Option Nat
 | 85 => some 8 | 117 => some 4 | 120 => some 2 | _ => none
def znl : DataW Unit → Option Int
 | .lit (.int _ a) => some a
 | _ => none
theorem zo2 : ∀ c : Fin 256, Maps.has zgq (.int .u8 (c.val : Int)) = (zgt c.val).isSome := by decide +kernel
theorem zp5 : ∀ c : Fin 256, znl (zgq.atKey (.int .u8 (c.val : Int)) (.lit (.int .u8 0))) = some (((zgt c.val).getD 0 : Nat) : Int) := by decide +kernel
theorem zo3 : ∀ c : Fin 256, Maps.has zgr (.int .u8 (c.val : Int)) = (zf3 c.val).isSome := by decide +kernel
theorem zp6 : ∀ c : Fin 256, znl (zgr.atKey (.int .u8 (c.val : Int)) (.lit (.int .i64 0))) = some (((zf3 c.val).getD 0 : Nat) : Int) := by decide +kernel
theorem zor : ∀ c : Fin 256, (Lit.int .u8 (c.val : Int)).wf = true := by decide +kernel
theorem znm {w : World} {bm n : Nat} (h : w.ownsMap Tryz.prog 5 (plainElem Tryz.prog 5) bm n zgq) (c : Nat) (hc : c < 256) :
  (Instr.lookup 97 (.map (some bm)) (.int .u8 (c : Int)) true).run Tryz.prog w = .ok (.tuple #[.int .u8 (((zgt c).getD 0 : Nat) : Int), .bool (zgt c).isSome]) w := by
 obtain ⟨v, ps, hrun, hv⟩ := h.look_ok (int_keyed Tryz.underlying5) Tryz.underlying97 (z := .int .u8 0) (by kernel_rfl) (plainElem_int Tryz.underlying5 (by decide)) (keyOf_int_mk Tryz.underlying5 (a := (c : Int)) (zor ⟨c, hc⟩))
 obtain ⟨a, rfl, hz, _⟩ := plainElem_int_inv Tryz.underlying5 hv
 have h1 := zp5 ⟨c, hc⟩
 have h2 := zo2 ⟨c, hc⟩
 simp only at h1 h2
 simp only [Prod.mk.injEq] at hz
 rw [hz.1] at h1
 simp only [znl, Option.some.injEq] at h1
 rw [hrun, h2, h1]
theorem znn {w : World} {bm n : Nat} (h : w.ownsMap Tryz.prog 5 (plainElem Tryz.prog 3) bm n zgr) (c : Nat) (hc : c < 256) :
  (Instr.lookup 98 (.map (some bm)) (.int .u8 (c : Int)) true).run Tryz.prog w = .ok (.tuple #[.int .i64 (((zf3 c).getD 0 : Nat) : Int), .bool (zf3 c).isSome]) w := by
 obtain ⟨v, ps, hrun, hv⟩ := h.look_ok (int_keyed Tryz.underlying5) Tryz.underlying98 (z := .int .i64 0) (by kernel_rfl) (plainElem_int Tryz.underlying3 (by decide)) (keyOf_int_mk Tryz.underlying5 (a := (c : Int)) (zor ⟨c, hc⟩))
 obtain ⟨a, rfl, hz, _⟩ := plainElem_int_inv Tryz.underlying3 hv
 have h1 := zp6 ⟨c, hc⟩
 have h2 := zo3 ⟨c, hc⟩
 simp only at h1 h2
 simp only [Prod.mk.injEq] at hz
 rw [hz.1] at h1
 simp only [znl, Option.some.injEq] at h1
 rw [hrun, h2, h1]
def zhp (l : List UInt8) : Bool := l.all fun c => decide (zcy c.toNat < 16)
def ze7 (x : Nat) : Bool := decide (x < 55296 ∨ 57343 < x ∧ x ≤ 1114111)
def zcc (s : ByteArray) : Option (ByteArray × ByteArray) :=
 if s.size = 0 then none else
  match zgt (s.data.toList.getD 0 0).toNat with
  | some b => some (⟨#[UInt8.ofNat b]⟩, s.extract 1 s.size)
  | none => match zf3 (s.data.toList.getD 0 0).toNat with
   | none => none
   | some n => if s.size < 1 + n then none else
    if zhp (s.extract 1 (1 + n)).data.toList then
     if n = 2 then some (⟨#[UInt8.ofNat (zcz (s.extract 1 (1 + n)).data.toList)]⟩, s.extract (1 + n) s.size)
     else if ze7 (zcz (s.extract 1 (1 + n)).data.toList) then some (⟨(Lib.encodeRune (zcz (s.extract 1 (1 + n)).data.toList : Nat)).toArray⟩, s.extract (1 + n) s.size) else none
    else none
def zp7 : Option (ByteArray × ByteArray) → Value
 | none => .tuple #[.string ⟨#[]⟩, .string ⟨#[]⟩, .bool false]
 | some (t, r) => .tuple #[.string t, .string r, .bool true]
theorem zbm (w : World) (n : Nat) : Below w.heap.size w (w.drewN n) := zao (Below.refl _ w) n
theorem zgu {w : World} {K E bm n : Nat} {D : DataW Unit} (h : w.ownsMap Tryz.prog K (plainElem Tryz.prog E) bm n D) (m : Nat) : (w.drewN m).ownsMap Tryz.prog K (plainElem Tryz.prog E) bm n D := by
 have hl := h.lt
 obtain ⟨es, clock, hb', F, hn, hD⟩ := h
 exact ⟨es, clock, ((zbm w m).block bm hl).trans hb', F, hn, hD⟩
theorem zgv {w : World} {bm n : Nat} (h : w.ownsMap Tryz.prog 5 (plainElem Tryz.prog 5) bm n zgq) (c : UInt8) (o : Option Nat) (ho : zgt c.toNat = o) :
  ∀ m, (Instr.lookup 97 (.map (some bm)) (.int .u8 (c.toNat : Int)) true).run Tryz.prog (w.drewN m) = .ok (.tuple #[.int .u8 ((o.getD 0 : Nat) : Int), .bool o.isSome]) (w.drewN m) := fun m => by
 rw [← ho]; exact znm (zgu h m) c.toNat c.toNat_lt
theorem zgw {w : World} {bm n : Nat} (h : w.ownsMap Tryz.prog 5 (plainElem Tryz.prog 3) bm n zgr) (c : UInt8) (o : Option Nat) (ho : zf3 c.toNat = o) :
  ∀ m, (Instr.lookup 98 (.map (some bm)) (.int .u8 (c.toNat : Int)) true).run Tryz.prog (w.drewN m) = .ok (.tuple #[.int .i64 ((o.getD 0 : Nat) : Int), .bool o.isSome]) (w.drewN m) := fun m => by
 rw [← ho]; exact znn (zgu h m) c.toNat c.toNat_lt
theorem zfz (s : ByteArray) (h : 0 < s.size) : s.data.toList.getD 0 0 = s[0]'h := by
 cases s with | mk d => cases d with | mk l => cases l with
  | nil => exact absurd h (by decide)
  | cons a l => rfl
theorem zkm (W w : World) (g : Nat) (b : Nat) (hg : g = W.heap.size) : (convert 47 9 (.slice (some ⟨g, 0, none⟩) 1 1)).run Tryz.prog (W.alloc (.cells #[.int .u8 (b : Int)] 5)) = .ok (.string ⟨#[UInt8.ofNat b]⟩) (W.alloc (.cells #[.int .u8 (b : Int)] 5)) := by
 subst hg
 exact run_convert_bytes_arg (W.alloc (.cells #[.int .u8 (b : Int)] 5)) 47 5 Tryz.underlying47 Tryz.underlying5 W.heap.size 0 1 1 [(b : Int)] rfl (fun i hi => by
  obtain rfl : i = 0 := by omega
  exact cell_one_new W (.int .u8 (b : Int)) 5 0 _ rfl) 9 Tryz.underlying9
theorem ziz (y : Int) (h0 : 0 ≤ y) (h : y ≤ 1114111) (o : Bool) (ho : o = decide (y < 55296 ∨ 57343 < y)) (w : World) : Calls Tryz.prog 62 #[.int .i32 y] w fun e w' => e = .returned (.bool o) ∧ w = w' := by
 by_cases h1 : y < 55296
 ·obtain rfl : o = true := by rw [ho]; exact decide_eq_true (Or.inl h1)
  clear ho
  go_enter Tryz.func62, Tryz.ntmps62
  go_wp2
  go_ret
  exact ⟨rfl, rfl⟩
 ·by_cases h2 : 57343 < y
  ·obtain rfl : o = true := by rw [ho]; exact decide_eq_true (Or.inr h2)
   clear ho
   go_enter Tryz.func62, Tryz.ntmps62
   go_wp2
   go_ret
   exact ⟨rfl, rfl⟩
  ·obtain rfl : o = false := by rw [ho]; exact decide_eq_false (by omega)
   clear ho
   go_enter Tryz.func62, Tryz.ntmps62
   go_wp2
   go_ret
   exact ⟨rfl, rfl⟩
theorem zgx (x : Nat) (h : x ≤ 1114111) (w : World) : Calls Tryz.prog 62 #[.int .i32 (x : Int)] w fun e w' => e = .returned (.bool (ze7 x)) ∧ w = w' :=
 ziz x (by omega) (by omega) _ (by unfold ze7; rw [Bool.eq_iff_iff, decide_eq_true_iff, decide_eq_true_iff]; omega) w
theorem zk5 {c n : Nat} (h : zf3 c = some n) : n = 2 ∨ n = 4 ∨ n = 8 := by
 unfold zf3 at h
 split at h <;> simp at h <;> omega
def trimmed (t : ByteArray) : ByteArray := ⟨(Lib.trimS (Lib.toLowerD t.data.toList) ze4).toArray⟩
def zjC (t : ByteArray) : ByteArray := ⟨(Lib.toLowerD t.data.toList).toArray⟩
theorem ze8 (t : ByteArray) (ht : t.size ≤ 8) (w : World) (hG : G w) :
  Calls Tryz.prog 60 #[.string t] w fun e w' => e = .returned (.string (zjC t)) ∧ Below w.heap.size w w' :=
 Tryz.strings_ToLower_any t w (by omega) hG.cases hG.utf8
theorem zgy (t : ByteArray) (ht : t.size ≤ 8) (w : World) :
  Calls Tryz.prog 16 #[.string (zjC t), .string ⟨#[48, 49, 50, 51, 52, 53, 54, 55, 56, 57, 97, 98, 99, 100, 101, 102]⟩] w fun e w' => e = .returned (.string (trimmed t)) ∧ Below w.heap.size w w' := by
 have h := zgs t.data.toList
 have e : t.data.toList.length = t.size := (Lib.size_eq t).symm
 exact Any.strings_Trim_laid Tryz.zjp (by kernel_rfl) (zjC t) ⟨#[48, 49, 50, 51, 52, 53, 54, 55, 56, 57, 97, 98, 99, 100, 101, 102]⟩ w (by show (Lib.toLowerD t.data.toList).toArray.size ≤ _; rw [List.size_toArray]; omega) (by decide) (ascii_of_all (by decide))
theorem zh2 (t : ByteArray) : (trimmed t).toList.isEmpty = zhp t.data.toList := by
 rw [← decide_eq_emptyBytes]
 have h := zg5 t.data.toList
 unfold zhp
 rw [Bool.eq_iff_iff, decide_eq_true_iff, List.all_eq_true]
 simp only [decide_eq_true_eq]
 rw [← h]
 unfold trimmed
 constructor
 ·intro hh
  have := congrArg (fun x => x.data.toList) hh
  simpa using this
 ·intro hh; rw [hh]; rfl
theorem zfQ (s : ByteArray) (hs : s.size ≤ 17592186044416) (w : World) (hG : zaa (G w)) :
  Calls Tryz.prog 30 #[.string s] w fun e w' => e = .returned (zp7 (zcc s)) ∧ Below w.heap.size w w' := by
 by_cases h0 : s.size = 0
 ·have t2 : s.toList.isEmpty = true := by
   rw [← decide_eq_emptyBytes]
   exact decide_eq_true (by cases s with | mk d => cases d with | mk l => cases l with
    | nil => rfl
    | cons a l => simp [ByteArray.size] at h0)
  have hr : zcc s = none := by unfold zcc; rw [if_pos h0]
  rw [hr]
  clear hr
  go_enter Tryz.func30, Tryz.ntmps30
  go_wp2
  go_ret3
  exact ⟨rfl, Below.refl _ _⟩
 ·have t2 : s.toList.isEmpty = false := by
   rw [← decide_eq_emptyBytes]
   exact decide_eq_false (fun h => by rw [h] at h0; exact absurd h0 (by decide))
  have hp : 0 < s.size := by omega
  have HE : Hid (zcc s = _) := Lib.hid rfl
  obtain ⟨bme, ne, hce, hme⟩ := hG.out.esc
  rcases ho : zgt (s[0]'hp).toNat with _ | b
  ·have hlk := zgv hme (s[0]'hp) _ ho
   simp only [Option.getD_none, Option.isSome_none] at hlk
   obtain ⟨bmc, nc, hcc, hmc⟩ := hG.out.cod
   rcases hc : zf3 (s[0]'hp).toNat with _ | n
   ·have hlc := zgw hmc (s[0]'hp) _ hc
    simp only [Option.getD_none, Option.isSome_none] at hlc
    have hr : zcc s = none := by unfold zcc; rw [if_neg h0, zfz s hp, ho, hc]
    rw [hr]
    clear hr HE
    go_enter Tryz.func30, Tryz.ntmps30
    go_wp2
    go_quiet (fail)
    go_wp2
    go_quiet (fail)
    go_wp2
    go_ret3
    exact ⟨rfl, zbm _ _⟩
   ·have hn := zk5 hc
    have hlc := zgw hmc (s[0]'hp) _ hc
    simp only [Option.getD_some, Option.isSome_some] at hlc
    by_cases hsz : s.size < 1 + n
    ·have hr : zcc s = none := by unfold zcc; rw [if_neg h0, zfz s hp, ho, hc]; simp only; rw [if_pos hsz]
     rw [hr]
     clear hr HE
     go_enter Tryz.func30, Tryz.ntmps30
     go_wp2
     go_quiet (fail)
     go_wp2
     go_quiet (fail)
     go_wp2
     go_ret3
     exact ⟨rfl, zbm _ _⟩
    ·have ht : (s.extract 1 (1 + n)).size = n := by rw [ByteArray.size_extract]; omega
     have hE := zh2 (s.extract 1 (1 + n))
     have t8 : (s.extract 1 (1 + n)).size ≤ 8 := by omega
     by_cases hx : zhp (s.extract 1 (1 + n)).data.toList = true
     ·have hp1 : 0 < (s.extract 1 (1 + n)).size := by omega
      have hall : ∀ c ∈ (s.extract 1 (1 + n)).data.toList, zcy c.toNat < 16 := fun c hc => by
       have := List.all_eq_true.1 hx c hc
       exact of_decide_eq_true this
      have HX : zaa (∀ c ∈ (s.extract 1 (1 + n)).data.toList, zcy c.toNat < 16) := ⟨hall⟩
      have hlt := ziy _ hall
      rw [show (s.extract 1 (1 + n)).data.toList.length = n by rw [← Lib.size_eq, ht]] at hlt
      have hr : zcc s = if n = 2 then some (⟨#[UInt8.ofNat (zcz (s.extract 1 (1 + n)).data.toList)]⟩, s.extract (1 + n) s.size)
        else if ze7 (zcz (s.extract 1 (1 + n)).data.toList) then some (⟨(Lib.encodeRune (zcz (s.extract 1 (1 + n)).data.toList : Nat)).toArray⟩, s.extract (1 + n) s.size) else none := by
       unfold zcc; rw [if_neg h0, zfz s hp, ho, hc]; simp only; rw [if_neg hsz, if_pos hx]
      rw [hx] at hE
      clear hx hall
      obtain ⟨x, hX⟩ : ∃ x, x = zcz (s.extract 1 (1 + n)).data.toList := ⟨_, rfl⟩
      rw [← hX] at hr hlt
      obtain ⟨y, hy⟩ : ∃ y : Int, y = (x : Int) := ⟨_, rfl⟩
      have HP : ∀ W, Calls Tryz.prog 61 #[.string (s.extract 1 (1 + n)), .int .i64 16, .int .i64 64] W fun e w' => e = .returned (.tuple #[.int .u64 y, .nilIface]) ∧ Below W.heap.size W w' := fun W => by
       rw [hy, hX]; exact zhZ _ W hp1 t8 HX
      clear hX HE
      by_cases h2 : n = 2
      ·subst h2
       rw [if_pos rfl] at hr
       rw [hr]
       clear hr
       have x256 : y < 256 := by omega
       have x0 : 0 ≤ y := by omega
       have hwx : IntKind.u8.wrap y = y := by rw [IntKind.wrap_u8]; omega
       obtain ⟨z, hz⟩ : ∃ z : UInt8, z = UInt8.ofNat x := ⟨_, rfl⟩
       have HZ := zaa.mk hz
       rw [← hz]
       have HY := zaa.mk hy
       clear hlt hy hz
       go_enter Tryz.func30, Tryz.ntmps30
       go_wp2
       go_quiet (fail)
       go_wp2
       go_quiet (fail)
       go_wp2_with (first
        |(go_at_call 60; (with_reducible refine (ze8 (s.extract 1 (1 + 2)) t8 _ (hG.out.below (zbm _ _))).mono ?_); rintro e w1 ⟨rfl, hb1⟩; have HB1 := zaa.mk (zab (zbm _ _) hb1); clear hb1)
        |(go_at_call 16; (with_reducible refine (zgy (s.extract 1 (1 + 2)) t8 _).mono ?_); rintro e w2 ⟨rfl, hb2⟩; have HB2 := zaa.mk (zab HB1.out hb2); clear hb2)
        |(go_at_call 61; (with_reducible refine (HP _).mono ?_); rintro e w3 ⟨rfl, hb3⟩; have HB3 := zaa.mk (zab HB2.out hb3); clear hb3)
        |(go_at_call 62; (with_reducible refine (HV _).mono ?_); rintro e w4 ⟨rfl, rfl⟩))
       have hcv : ∀ k, (convert 47 9 (.slice (some ⟨w3.heap.size, 0, none⟩) 1 1)).run Tryz.prog ((w3.drewN k).alloc (.cells #[.int .u8 y] 5)) = .ok (.string ⟨#[z]⟩) ((w3.drewN k).alloc (.cells #[.int .u8 y] 5)) := fun k => by
        rw [HY.out, HZ.out]; exact zkm (w3.drewN k) w w3.heap.size x (by simp)
       have hcv1 : (convert 47 9 (.slice (some ⟨w3.heap.size, 0, none⟩) 1 1)).run Tryz.prog (w3.drew.alloc (.cells #[.int .u8 y] 5)) = .ok (.string ⟨#[z]⟩) (w3.drew.alloc (.cells #[.int .u8 y] 5)) := hcv 1
       have hcv2 : (convert 47 9 (.slice (some ⟨w3.heap.size, 0, none⟩) 1 1)).run Tryz.prog (w3.alloc (.cells #[.int .u8 y] 5)).drew = .ok (.string ⟨#[z]⟩) (w3.alloc (.cells #[.int .u8 y] 5)).drew := hcv 1
       clear hcv hcv1
       go_region
       all_goals go_wp2
       all_goals go_ret3
       exact ⟨rfl, (zab HB3.out (zbm w3 1)).alloc (Nat.le_trans HB3.out.size (zbm w3 1).size) _⟩
      ·rw [if_neg h2] at hr
       by_cases hv : x ≤ 1114111 ∧ ze7 x = true
       ·obtain ⟨hle, hvt⟩ := hv
        rw [if_pos hvt] at hr
        rw [hr]
        clear hr
        have hn2 : ¬ (n : Int) = 2 := by omega
        have x0 : 0 ≤ y := by omega
        have hbigI : y ≤ 1114111 := by omega
        have HV : ∀ W, Calls Tryz.prog 62 #[.int .i32 y] W fun e w' => e = .returned (.bool true) ∧ W = w' := fun W => by
         have := zgx x (by omega) W
         rw [hvt] at this; rw [hy]; exact this
        obtain ⟨enc, henc⟩ : ∃ enc : ByteArray, enc = ⟨(Lib.encodeRune (x : Int)).toArray⟩ := ⟨_, rfl⟩
        have HN : ∀ W, Calls Tryz.prog 63 #[.int .i32 y] W fun e w' => e = .returned (.string enc) ∧ Below W.heap.size W w' := fun W => by
         rw [henc, hy]; exact zfP x (by omega) (by omega) W
        rw [← henc]
        have hwx : IntKind.i32.wrap y = y := by rw [IntKind.wrap_i32]; omega
        have hsI : 1 + (n : Int) ≤ (s.size : Int) := by omega
        clear hle hvt hy hlt henc
        go_enter Tryz.func30, Tryz.ntmps30
        go_wp2
        go_quiet (fail)
        go_wp2
        go_quiet (fail)
        go_wp2_with (first
         |(go_at_call 60; (with_reducible refine (ze8 (s.extract 1 (1 + n)) t8 _ (hG.out.below (zbm _ _))).mono ?_); rintro e w1 ⟨rfl, hb1⟩; have HB1 := zaa.mk (zab (zbm _ _) hb1); clear hb1)
         |(go_at_call 16; (with_reducible refine (zgy (s.extract 1 (1 + n)) t8 _).mono ?_); rintro e w2 ⟨rfl, hb2⟩; have HB2 := zaa.mk (zab HB1.out hb2); clear hb2)
         |(go_at_call 61; (with_reducible refine (HP _).mono ?_); rintro e w3 ⟨rfl, hb3⟩; have HB3 := zaa.mk (zab HB2.out hb3); clear hb3)
         |(go_at_call 62; (with_reducible refine (HV _).mono ?_); rintro e w4 ⟨rfl, rfl⟩))
        refine wp_region_any (by kernel_rfl) ?_
        try (change wpAny _ _ _ _ _ _ _ (World.drew _))
        refine wpAny_take (i := 0) (v := .int .u64 y) rfl (by kernel_rfl) (by kernel_rfl) (by kernel_rfl) (fun _ _ _ h => h) (Or.inl ⟨by rfl, ?hy0⟩) ?_
        case hy0 => intro w; go_simp; try rfl
        refine wpAny_take (i := 1) (v := .int .i32 y) rfl (by kernel_rfl) (by kernel_rfl) (by kernel_rfl) (fun _ _ _ h => h) (Or.inl ⟨by rfl, ?hy1⟩) ?_
        case hy1 => intro w; go_simp; try rfl
        refine wpAny_take (i := 3) (v := .string s) rfl (by kernel_rfl) (by kernel_rfl) (by kernel_rfl) (fun _ _ _ h => h) (Or.inl ⟨by rfl, ?hy3⟩) ?_
        case hy3 => intro w; go_simp; try rfl
        refine wpAny_take (i := 4) (v := .int .i64 n) rfl (by kernel_rfl) (by kernel_rfl) (by kernel_rfl) (fun _ _ _ h => h) (Or.inl ⟨by rfl, ?hy4⟩) ?_
        case hy4 => intro w; go_simp; try rfl
        refine wpAny_take (i := 5) (v := .int .i64 (1 + n)) rfl (by kernel_rfl) (by kernel_rfl) (by kernel_rfl) (fun _ _ _ h => h) (Or.inl ⟨by rfl, ?hy5⟩) ?_
        case hy5 => intro w; go_simp; rw [IntKind.wrap_i64]; omega
        refine wpAny_take (i := 6) (v := .string (s.extract (1 + n) s.size)) rfl (by kernel_rfl) (by kernel_rfl) (by kernel_rfl) (fun _ _ _ h => h) (Or.inl ⟨by rfl, ?hy6⟩) ?_
        case hy6 => intro w; go_simp; try rfl
        refine wpAny_ready (rs := [2]) (by kernel_rfl) (by simp) ?_
        refine AllReady.cons rfl (fun K hK => ?_) AllReady.nil
        go_simp
        refine (HN _).mono ?_
        rintro e w5 ⟨rfl, hb5⟩
        have HB5 := zaa.mk (zab (zab HB3.out (zbm w3 1)) hb5)
        refine hK _ _ ?_
        clear hK K
        refine wpAny_ready (rs := [7]) (by kernel_rfl) (by simp) ?_
        refine AllReady.cons rfl (fun K hK => ?_) AllReady.nil
        go_simp
        refine hK _ _ ?_
        clear hK K
        refine wpAny_ready (rs := [8]) (by kernel_rfl) (by simp) ?_
        refine AllReady.cons rfl (fun K hK => ?_) AllReady.nil
        go_simp
        refine hK _ _ ?_
        clear hK K
        refine wpAny_ready (rs := [9]) (by kernel_rfl) (by simp) ?_
        refine AllReady.cons rfl (fun K hK => ?_) AllReady.nil
        go_simp
        refine hK _ _ ?_
        clear hK K
        refine wpAny_done (by kernel_rfl) ?_ _
        go_wp2
        go_ret3
        exact ⟨rfl, HB5.out⟩
       ·have hr2 : zcc s = none := by
         rw [hr]
         have : ¬ ze7 x = true := by intro h; refine hv ⟨?_, h⟩; unfold ze7 at h; have := of_decide_eq_true h; omega
         rw [if_neg this]
        rw [hr2]
        clear hr hr2
        have hn2 : ¬ (n : Int) = 2 := by omega
        have xu : y < 4294967296 := by
         have : (16 : Nat) ^ n ≤ 16 ^ 8 := Nat.pow_le_pow_right (by decide) (by omega)
         omega
        have x0 : 0 ≤ y := by omega
        by_cases hbig : 1114111 < x
        ·have hbigI : 1114111 < y := by omega
         clear hv hbig hy hlt
         go_enter Tryz.func30, Tryz.ntmps30
         go_wp2
         go_quiet (fail)
         go_wp2
         go_quiet (fail)
         go_wp2_with (first
          |(go_at_call 60; (with_reducible refine (ze8 (s.extract 1 (1 + n)) t8 _ (hG.out.below (zbm _ _))).mono ?_); rintro e w1 ⟨rfl, hb1⟩; have HB1 := zaa.mk (zab (zbm _ _) hb1); clear hb1)
          |(go_at_call 16; (with_reducible refine (zgy (s.extract 1 (1 + n)) t8 _).mono ?_); rintro e w2 ⟨rfl, hb2⟩; have HB2 := zaa.mk (zab HB1.out hb2); clear hb2)
          |(go_at_call 61; (with_reducible refine (HP _).mono ?_); rintro e w3 ⟨rfl, hb3⟩; have HB3 := zaa.mk (zab HB2.out hb3); clear hb3)
          |(go_at_call 62; (with_reducible refine (HV _).mono ?_); rintro e w4 ⟨rfl, rfl⟩))
         go_ret3
         exact ⟨rfl, HB3.out⟩
        ·have hbigI : y ≤ 1114111 := by omega
         have hvf : ze7 x = false := by rw [← Bool.not_eq_true]; intro h; exact hv ⟨by omega, h⟩
         have HV : ∀ W, Calls Tryz.prog 62 #[.int .i32 y] W fun e w' => e = .returned (.bool false) ∧ W = w' := fun W => by
          have := zgx x (by omega) W
          rw [hvf] at this; rw [hy]; exact this
         have hwx : IntKind.i32.wrap y = y := by rw [IntKind.wrap_i32]; omega
         clear hv hbig hvf hy hlt
         go_enter Tryz.func30, Tryz.ntmps30
         go_wp2
         go_quiet (fail)
         go_wp2
         go_quiet (fail)
         go_wp2_with (first
          |(go_at_call 60; (with_reducible refine (ze8 (s.extract 1 (1 + n)) t8 _ (hG.out.below (zbm _ _))).mono ?_); rintro e w1 ⟨rfl, hb1⟩; have HB1 := zaa.mk (zab (zbm _ _) hb1); clear hb1)
          |(go_at_call 16; (with_reducible refine (zgy (s.extract 1 (1 + n)) t8 _).mono ?_); rintro e w2 ⟨rfl, hb2⟩; have HB2 := zaa.mk (zab HB1.out hb2); clear hb2)
          |(go_at_call 61; (with_reducible refine (HP _).mono ?_); rintro e w3 ⟨rfl, hb3⟩; have HB3 := zaa.mk (zab HB2.out hb3); clear hb3)
          |(go_at_call 62; (with_reducible refine (HV _).mono ?_); rintro e w4 ⟨rfl, rfl⟩))
         go_ret3
         exact ⟨rfl, HB3.out⟩
     ·have hr : zcc s = none := by unfold zcc; rw [if_neg h0, zfz s hp, ho, hc]; simp only; rw [if_neg hsz, if_neg hx]
      rw [hr]
      rw [Bool.not_eq_true] at hx
      rw [hx] at hE
      clear hr HE hx
      go_enter Tryz.func30, Tryz.ntmps30
      go_wp2
      go_quiet (fail)
      go_wp2
      go_quiet (fail)
      go_wp2_with (first
       |(go_at_call 60; (with_reducible refine (ze8 (s.extract 1 (1 + n)) t8 _ (hG.out.below (zbm _ _))).mono ?_); rintro e w1 ⟨rfl, hb1⟩; have HB1 := zaa.mk (zab (zbm _ _) hb1); clear hb1)
       |(go_at_call 16; (with_reducible refine (zgy (s.extract 1 (1 + n)) t8 _).mono ?_); rintro e w2 ⟨rfl, hb2⟩; have HB2 := zaa.mk (zab HB1.out hb2); clear hb2))
      go_ret3
      exact ⟨rfl, HB2.out⟩
  ·have hlk := zgv hme (s[0]'hp) _ ho
   simp only [Option.getD_some, Option.isSome_some] at hlk
   go_enter Tryz.func30, Tryz.ntmps30
   go_wp2
   go_quiet (fail)
   go_wp2
   have hcv := fun n => zkm (w.drewN n) w w.heap.size b (by simp)
   go_region
   all_goals go_wp2
   all_goals go_ret3
   have hr : zcc s = some (⟨#[UInt8.ofNat b]⟩, s.extract 1 s.size) := by unfold zcc; rw [if_neg h0, zfz s hp, ho]
   rw [hr]
   exact ⟨rfl, (zbm w (nq + 1)).alloc (by simp) _⟩
end Go.Proofs.YtioofhilohmfbaaGreatDoor
end
section
open Go Go.RowKit Go.Maps Go.WideElems Go.WideMaps Go.Lib
namespace Go.Proofs.YtioofhilohmfbaaGreatDoor
def zek : List (String × DataW Unit) := [("math/bits.deBruijn32tab", Rows.laid_math_bits_deBruijn32tab), ("math/bits.deBruijn64tab", Rows.laid_math_bits_deBruijn64tab), ("internal/strconv.uint64pow10", Rows.laid_internal_strconv_uint64pow10), ("unicode/utf8.acceptRanges", Rows.laid_unicode_utf8_acceptRanges), ("strconv.ErrRange", Rows.laid_strconv_ErrRange), ("strconv.ErrSyntax", Rows.laid_strconv_ErrSyntax), ("driftnet/quote.escapes", Rows.laid_driftnet_quote_escapes), ("driftnet/quote.coded", Rows.laid_driftnet_quote_coded), ("driftnet/measure.times", Rows.laid_driftnet_measure_times), ("driftnet/measure.sizes", Rows.laid_driftnet_measure_sizes), ("driftnet/lex.signs", Rows.laid_driftnet_lex_signs), ("unicode.CaseRanges", Rows.laid_unicode_CaseRanges), ("unicode/utf8.first", Rows.laid_unicode_utf8_first)]
theorem u8x : U8Extra Tryz.prog Tryz.zdV := ⟨by kernel_rfl, by kernel_rfl, by kernel_rfl, by kernel_rfl, by kernel_rfl, by kernel_rfl, by kernel_rfl⟩
theorem zqN : CaseExtra Tryz.prog Tryz.zeP := ⟨by kernel_rfl, by kernel_rfl, by kernel_rfl, by kernel_rfl, by kernel_rfl, by kernel_rfl⟩
theorem zlW : (Rows.laid_unicode_utf8_acceptRanges : DataW Unit) = Lib.acceptData := by kernel_rfl
theorem zeI {K E g T : Nat} {q : IntKind} {name : String} {D : DataW Unit} {W : World} (h : Lib.VarReads Tryz.prog W name D) (hg : Tryz.prog.globalNamed name = some g) (hy : (Tryz.prog.globals[g]?).map (·.type) = some T)
  (ht : Tryz.prog.underlying T = some (.map K E)) (he : Tryz.prog.underlying E = some (.int q)) (hne : ∃ l, D = .map l) : zey Tryz.prog K E g D W := by
 obtain ⟨g', t, cs, fuel, p, hg', ht', hv, hd⟩ := h
 obtain rfl := Option.some.inj (hg.symm.trans hg')
 obtain rfl := Option.some.inj (hy.symm.trans ht')
 rcases open_map ht hd with ⟨_, hx⟩ | ⟨bm, es, clock, mm, rfl, hcs, hb, _, F, hx⟩
 ·obtain ⟨l, rfl⟩ := hne
  simp at hx
 simp only [Prod.mk.injEq] at hx
 have hcell : W.cell? ⟨g, 0, none⟩ = some (.map (some bm)) := by
  have := World.var?_cell hg hv 0
  rw [Array.eq_one_of_toList hcs] at this
  simpa using this
 refine ⟨bm, es.size, hcell, ?_⟩
 have := World.ownsMap_of_fit (R := plainElem Tryz.prog E) hb F (fun x _ z hz => elemAt_plainElem_int he hz)
 rw [← hx.1] at this
 exact this
def zlX (l : List (ByteArray × Int)) : DataW Unit := .agg (l.map fun x => .agg [.lit (.string x.1.data.toList), .lit (.int .i64 x.2)])
theorem zno : (Rows.laid_driftnet_measure_times : DataW Unit) = zlX zcs := by kernel_rfl
theorem znp : (Rows.laid_driftnet_measure_sizes : DataW Unit) = zlX zcV := by kernel_rfl
theorem zeJ {g T n : Nat} {name : String} {l : List (ByteArray × Int)} {W : World} (h : Lib.VarReads Tryz.prog W name (zlX l)) (hg : Tryz.prog.globalNamed name = some g) (hy : (Tryz.prog.globals[g]?).map (·.type) = some T)
  (ht : Tryz.prog.underlying T = some (.array n 136)) (hl : l.length = n) : zez g l W := fun i x hx => by
 obtain ⟨g', t, cs, fuel, p, hg', ht', hv, hd⟩ := h
 obtain rfl := Option.some.inj (hg.symm.trans hg')
 obtain rfl := Option.some.inj (hy.symm.trans ht')
 have hi : i < n := by rw [← hl]; exact (List.getElem?_eq_some_iff.1 hx).1
 obtain ⟨fuel', d, q, hdi, he⟩ := array_elem ht hd i hi
 rw [List.getElem?_map, hx] at hdi
 simp only [Option.map_some, Option.some.injEq] at hdi
 subst hdi
 rw [show Tryz.prog.cellsOf 136 = 2 by kernel_rfl] at he
 obtain ⟨⟨y0, q0⟩, ⟨y1, q1⟩, m, hxx, hcl, h0, h1⟩ := Go.ChangeShapes.trod_struct2 Tryz.underlying136 he
 simp only [Prod.mk.injEq, DataW.agg.injEq, List.cons.injEq, and_true] at hxx
 obtain ⟨⟨rfl, rfl⟩, _⟩ := hxx
 have k0 : Tryz.prog.cellsOf 9 = 1 := by kernel_rfl
 have k1 : Tryz.prog.cellsOf 3 = 1 := by kernel_rfl
 simp only [k0, k1] at h0 h1
 obtain ⟨s0, e0, f0, _⟩ := DataW.trod_string Tryz.underlying9 h0
 obtain ⟨z1, e1, f1, _⟩ := DataW.trod_int Tryz.underlying3 h1
 simp only [Prod.mk.injEq, DataW.lit.injEq, Lit.string.injEq, Lit.int.injEq, true_and] at f0 f1
 obtain ⟨f0, _⟩ := f0
 obtain ⟨f1, _⟩ := f1
 have hs0 : s0 = x.1 := ByteArray.ext (Array.toList_inj.1 f0.symm)
 have g0 := congrArg (·[0]?) e0
 have g1 := congrArg (·[0]?) e1
 simp only [List.getElem?_take, List.getElem?_drop] at g0 g1
 constructor
 ·rw [World.var?_cell hg hv (i * 2), ← Array.getElem?_toList, ← hs0]
  simpa using g0
 ·rw [World.var?_cell hg hv (i * 2 + 1), ← Array.getElem?_toList, f1]
  simpa using g1
def zkn : DataW Unit := .slice (Go.ChangeShapes.strs zcx) []
theorem znq : (Rows.laid_driftnet_lex_signs : DataW Unit) = zkn := by kernel_rfl
theorem zko : ∀ {a b : List ByteArray}, (Go.ChangeShapes.strs a : List (DataW Unit)) = Go.ChangeShapes.strs b → a = b
 | [], [], _ => rfl
 | [], _ :: _, h => by simp [Go.ChangeShapes.strs] at h
 | _ :: _, [], h => by simp [Go.ChangeShapes.strs] at h
 | x :: a, y :: b, h => by
  simp only [Go.ChangeShapes.strs, List.map_cons, List.cons.injEq, DataW.lit.injEq, Lit.string.injEq] at h
  rw [ByteArray.ext (Array.toList_inj.1 h.1), zko h.2]
theorem zg6 {g T : Nat} {name : String} {W : World} (h : Lib.VarReads Tryz.prog W name zkn) (hg : Tryz.prog.globalNamed name = some g) (hy : (Tryz.prog.globals[g]?).map (·.type) = some T) (ht : Tryz.prog.underlying T = some (.slice 9)) : zhn g zcx W := by
 obtain ⟨g', t, cs, fuel, p, hg', ht', hv, hd⟩ := h
 obtain rfl := Option.some.inj (hg.symm.trans hg')
 obtain rfl := Option.some.inj (hy.symm.trans ht')
 rcases Go.ChangeShapes.open_strings ht Tryz.underlying9 (by kernel_rfl) hd with ⟨_, hx⟩ | ⟨x, l, c, ss, hcs, _, hl, hm, hz, hxx, hcell, _⟩
 ·simp [zkn] at hx
 ·simp only [zkn, Prod.mk.injEq, DataW.slice.injEq] at hxx
  have hss : zcx = ss.take l := zko hxx.1.1
  simp only [if_true] at hz
  have hln : zcx.length = l := by rw [hss, List.length_take]; omega
  have hc0 : W.cell? ⟨g, 0, none⟩ = some (.slice (some x) l c) := by
   rw [World.var?_cell hg hv 0, ← Array.getElem?_toList, hcs]
   rfl
  refine ⟨x, c, by rw [hln]; exact hc0, by rw [hln]; exact hl, ?_⟩
  refine ⟨rfl, by rw [hln]; exact Nat.le_trans hl hm, fun _ => ⟨_, rfl, fun j p hj => ?_⟩⟩
  have hjl : j < l := by rw [← hln]; exact (List.getElem?_eq_some_iff.1 hj).1
  refine ⟨[.string p], rfl, rfl, fun i u hu => ?_⟩
  have hi : i = 0 := by have := (List.getElem?_eq_some_iff.1 hu).1; simp at this; omega
  subst hi
  simp at hu
  subst hu
  have hp : ss.getD j ByteArray.empty = p := by
   rw [hss, List.getElem?_take, if_pos hjl] at hj
   rw [List.getD_eq_getElem?_getD, hj]
   rfl
  have := hcell j (by omega)
  rw [hp] at this
  show W.cell? (x.add (j * 1 + 0)) = _
  rw [Nat.mul_one, Nat.add_zero]
  exact this
theorem zlY {W : World} (h : laidMetH Tryz.prog zek W) : G W := by
 rw [MakeChecks.laidMetH_plain _ _ _ (by kernel_rfl)] at h
 have r := fun {n : String} {d : DataW Unit} (hm : (n, d) ∈ zek) => Lib.laidMet.reads h hm
 refine ⟨?_, ?_, ?_, ?_, ?_, ?_, ?_⟩
 ·have h1 := r (n := "unicode/utf8.first") (d := Rows.laid_unicode_utf8_first) (by simp [zek])
  have h2 := r (n := "unicode/utf8.acceptRanges") (d := Rows.laid_unicode_utf8_acceptRanges) (by simp [zek])
  rw [show Rows.laid_unicode_utf8_first = Lib.firstData from Pinned.utf8First_eq] at h1
  rw [zlW] at h2
  exact utf8Tabs_of_reads (ρ := Tryz.zdV) { Tryz.zjp with } u8x h1 h2
 ·have h1 := r (n := "unicode.CaseRanges") (d := Rows.laid_unicode_CaseRanges) (by simp [zek])
  rw [show Rows.laid_unicode_CaseRanges = Lib.caseData from Pinned.caseRanges_eq] at h1
  exact caseVar_of_reads (ρ := Tryz.zeP) { Tryz.zoX with } (by kernel_rfl) zqN h1
 ·exact zeI (T := 97) (q := .u8) (r (n := "driftnet/quote.escapes") (d := Rows.laid_driftnet_quote_escapes) (by simp [zek])) (by kernel_rfl) (by kernel_rfl) Tryz.underlying97 Tryz.underlying5 ⟨_, rfl⟩
 ·exact zeI (T := 98) (q := .i64) (r (n := "driftnet/quote.coded") (d := Rows.laid_driftnet_quote_coded) (by simp [zek])) (by kernel_rfl) (by kernel_rfl) Tryz.underlying98 Tryz.underlying3 ⟨_, rfl⟩
 ·have h1 := r (n := "driftnet/lex.signs") (d := Rows.laid_driftnet_lex_signs) (by simp [zek])
  rw [znq] at h1
  exact zg6 (T := 44) h1 (by kernel_rfl) (by kernel_rfl) Tryz.underlying44
 ·have h1 := r (n := "driftnet/measure.times") (d := Rows.laid_driftnet_measure_times) (by simp [zek])
  rw [zno] at h1
  exact zeJ (T := 169) (n := 8) h1 (by kernel_rfl) (by kernel_rfl) Tryz.underlying169 rfl
 ·have h1 := r (n := "driftnet/measure.sizes") (d := Rows.laid_driftnet_measure_sizes) (by simp [zek])
  rw [znp] at h1
  exact zeJ (T := 137) (n := 9) h1 (by kernel_rfl) (by kernel_rfl) Tryz.underlying137 rfl
end Go.Proofs.YtioofhilohmfbaaGreatDoor
end
section
open Go Go.RowKit
namespace Go.Proofs.YtioofhilohmfbaaGreatDoor
def ziA : List String := ["unicode.CaseRanges", "unicode/utf8.first"]
def zlZ : List (String × DataW Unit) := [("unicode.CaseRanges", Rows.laid_unicode_CaseRanges), ("unicode/utf8.first", Rows.laid_unicode_utf8_first)]
def zos : List (String × DataW Unit) := [("math/bits.deBruijn32tab", Rows.laid_math_bits_deBruijn32tab), ("math/bits.deBruijn64tab", Rows.laid_math_bits_deBruijn64tab), ("internal/strconv.uint64pow10", Rows.laid_internal_strconv_uint64pow10), ("unicode/utf8.acceptRanges", Rows.laid_unicode_utf8_acceptRanges), ("strconv.ErrRange", Rows.laid_strconv_ErrRange), ("strconv.ErrSyntax", Rows.laid_strconv_ErrSyntax), ("driftnet/quote.escapes", Rows.laid_driftnet_quote_escapes), ("driftnet/quote.coded", Rows.laid_driftnet_quote_coded), ("driftnet/measure.times", Rows.laid_driftnet_measure_times), ("driftnet/measure.sizes", Rows.laid_driftnet_measure_sizes), ("driftnet/lex.signs", Rows.laid_driftnet_lex_signs)]
def zot : List Nat := (List.range 25).filter fun k => k != 4 && k != 8
noncomputable def zkp (os : Os) : World := (World.doorLaid Tryz.prog 400 os).layVars Tryz.prog zlZ
theorem zl0 (os : Os) : (zkp os).os = os := World.layVars_os _ _ _
theorem zh3 : (zek.filter fun x => ziA.contains x.1) = zlZ := by simp [zek, ziA, zlZ]
theorem znr : (zek.filter fun x => !ziA.contains x.1) = zos := by simp [zek, ziA, zos]
theorem zk6 (os : Os) (args : Array Value) : laidMetH Tryz.prog zek ((zkp os).forCall (fun _ _ => 0) ⟨#[], args, []⟩).memory := by
 rw [MakeChecks.laidMetH_plain _ _ _ (by kernel_rfl)]
 refine laidMet_layVars (w0 := World.doorLaid Tryz.prog 400 os) ziA zot ?_ ?_ ?_ ?_
 ·rw [zh3]; simp [World.memory, World.forCall, Input.heap, zkp]
 ·rw [zh3]; kernel_rfl
 ·rw [zh3]; kernel_rfl
 ·rw [znr]
  exact LaidIn.of_run zot 8 (by kernel_rfl) (by kernel_rfl) (by kernel_rfl) (by kernel_rfl)
end Go.Proofs.YtioofhilohmfbaaGreatDoor
end
section
namespace Go.Proofs.YtioofhilohmfbaaGreatDoorW.PrintLast
section
variable {P : Program} {ops : Array Oper} {Q : Exit → Act → World → Prop} {md : Region.Mode} {S : World → Prop} {ds : List Nat}
def Region.zd9 (md : Region.Mode) (ops : Array Oper) (i : Nat) : Nat → Nat → Bool
 | 0, _ => false
 | fuel + 1, d => match ops[d]? with
  | some o => o.after.any fun e => Region.binds md e && (e.on == i || Region.zd9 md ops i fuel e.on)
  | none => false
def Region.zgz (md : Region.Mode) (ops : Array Oper) (listed : Array Bool) : Bool :=
 (List.range ops.size).all fun j => !listed.getD j false || match ops[j]? with
  | some o => o.after.all fun e => !Region.binds md e || listed.getD e.on false
  | none => true
def Region.zns (md : Region.Mode) (ops : Array Oper) (listed : Array Bool) (ds : List Nat) (i : Nat) : Bool :=
 ds.all fun d => listed.getD d true || Region.zd9 md ops i ops.size d
def zcB (md : Region.Mode) (ops : Array Oper) (listed : Array Bool) : Prop :=
 ∀ j oj, ops[j]? = some oj → listed.getD j false = true → ∀ e ∈ oj.after, Region.binds md e = true → listed.getD e.on false = true
theorem Region.ziB {listed : Array Bool} (h : Region.zgz md ops listed = true) : zcB md ops listed := by
 intro j oj hj hl e he hb
 have hlt : j < ops.size := (Array.getElem?_eq_some_iff.1 hj).1
 have h1 := List.all_eq_true.1 h j (List.mem_range.2 hlt)
 simp only [hl, hj, Bool.not_true, Bool.false_or] at h1
 have h2 := Array.all_eq_true_iff_forall_mem.1 h1 e he
 simpa [hb] using h2
theorem zcB.set {listed : Array Bool} {i : Nat} (h : zcB md ops listed) (hi : i ∈ Region.ready md ops listed) : zcB md ops (listed.setIfInBounds i true) := by
 obtain ⟨_, oi, hoi, hall⟩ := mem_ready.1 hi
 intro j oj hj hl e he hb
 by_cases hij : i = j
 ·subst hij
  have : oj = oi := Option.some.inj (hj.symm.trans hoi)
  subst this
  exact getD_set_true (hall e he hb)
 ·rw [getD_set_ne false hij] at hl
  exact getD_set_true (h j oj hj hl e he hb)
theorem Region.zfR {listed : Array Bool} {i : Nat} (hc : zcB md ops listed) : ∀ (fuel d : Nat), Region.zd9 md ops i fuel d = true → listed.getD d false = true → listed.getD i false = true
 | 0, _, h, _ => by simp [Region.zd9] at h
 | fuel + 1, d, h, hl => by
  unfold Region.zd9 at h
  cases ho : ops[d]? with
  | none => rw [ho] at h; simp at h
  | some o =>
   rw [ho] at h
   obtain ⟨e, he, h1⟩ := Array.any_eq_true'.1 h
   simp only [Bool.and_eq_true, Bool.or_eq_true, beq_iff_eq] at h1
   have hle := hc d o ho hl e he h1.1
   rcases h1.2 with h2 | h2
   ·rw [← h2]; exact hle
   ·exact Region.zfR hc fuel e.on h2 hle
theorem Region.zgA {listed : Array Bool} {i d fuel : Nat} (hc : zcB md ops listed) (hr : Region.zd9 md ops i fuel d = true) (hun : listed.getD i true = false) : d ∉ Region.ready md ops listed := by
 intro hd
 obtain ⟨_, o, ho, hall⟩ := mem_ready.1 hd
 have hi : listed.getD i false = true := by
  cases fuel with
  | zero => simp [Region.zd9] at hr
  | succ n =>
   unfold Region.zd9 at hr
   rw [ho] at hr
   obtain ⟨e, he, h1⟩ := Array.any_eq_true'.1 hr
   simp only [Bool.and_eq_true, Bool.or_eq_true, beq_iff_eq] at h1
   have hle := hall e he h1.1
   rcases h1.2 with h2 | h2
   ·rw [← h2]; exact hle
   ·exact Region.zfR hc n e.on h2 hle
 rcases Nat.lt_or_ge i listed.size with h' | h'
 ·simp [h'] at hun hi
  rw [hun] at hi
  cases hi
 ·simp [Array.getElem?_eq_none h'] at hun
def za8 (P : Program) (md : Region.Mode) (ops : Array Oper) (Q : Exit → Act → World → Prop) (S : World → Prop) (ds : List Nat) : Nat → Array Bool → Act → World → Prop
 | 0, listed, a, w => Region.ready md ops listed = [] ∧ Q .normal a w
 | fuel + 1, listed, a, w =>
  (Region.ready md ops listed = [] → Q .normal a w) ∧
  ∀ i ∈ Region.ready md ops listed, wpOp P ops Q i (fun a' w' => (i ∉ ds → S w → S w') ∧ za8 P md ops Q S ds fuel (listed.setIfInBounds i true) a' w') a w
theorem ze9 : ∀ (fuel : Nat) (listed : Array Bool) (a : Act) (w : World), za8 P md ops Q S ds fuel listed a w → wpAny P md ops Q fuel listed a w
 | 0, _, _, _, h => h
 | fuel + 1, _, _, _, h => ⟨h.1, fun i hi => wpOp_mono (fun a' w' h' => ze9 fuel _ a' w' h'.2) (h.2 i hi)⟩
theorem zgB {i : Nat} {oi : Oper} {v : Value} (hi : ops[i]? = some oi) (hsel : ∀ (j : Nat) (o : Oper) cs b, ops[j]? = some o → o.op ≠ .select cs b)
  (hQ : ∀ c a w, Q (.panic c) (a.put oi.dst v) w → Q (.panic c) a w) (n : Nat) :
  ∀ (fuel : Nat) (listed : Array Bool) (a : Act) (w : World),
   (∀ j oj, ops[j]? = some oj → j ≠ i → listed.getD j true = false → (∀ e ∈ oj.after, Region.binds md e = true → e.on ≠ i) → oi.apart ops oj = true) →
   zcB md ops listed → (∀ d ∈ ds, listed.getD d true = false → Region.zd9 md ops i n d = true) →
   i ∈ Region.ready md ops listed → YieldsIf P ops S oi v a → S w →
   za8 P md ops Q S ds fuel (listed.setIfInBounds i true) (a.put oi.dst v) w → za8 P md ops Q S ds (fuel + 1) listed a w := by
 intro fuel
 induction fuel with
 | zero =>
  intro listed a w _ _ _ hr hy hS H
  refine ⟨fun h => (by rw [h] at hr; cases hr), fun j hj => ?_⟩
  by_cases hji : j = i
  ·subst hji; exact hy.wpOp hi hS ⟨fun _ h => h, H⟩
  ·have := ready_mono hj hji
   rw [H.1] at this
   cases this
 | succ fuel ih =>
  intro listed a w hfree hc hd hr hy hS H
  refine ⟨fun h => (by rw [h] at hr; cases hr), fun j hj => ?_⟩
  by_cases hji : j = i
  ·subst hji; exact hy.wpOp hi hS ⟨fun _ h => h, H⟩
  ·have h1 := H.2 j (ready_mono hj hji)
   obtain ⟨hjun, oj, hoj, hall⟩ := mem_ready.1 hj
   have hiun := (mem_ready.1 hr).1
   have hnot : ∀ e ∈ oj.after, Region.binds md e = true → e.on ≠ i := fun e he hb heq => by
    have h1 := hall e he hb
    rw [heq] at h1
    rcases Nat.lt_or_ge i listed.size with h' | h'
    ·simp [h'] at hiun h1; rw [hiun] at h1; cases h1
    ·simp [Array.getElem?_eq_none h'] at h1
   have hjd : j ∉ ds := fun hm => Region.zgA hc (hd j hm hjun) hiun hj
   have h2 := wpOp_putIf hoj (hfree j oj hoj hji hjun hnot) (fun cs b => hsel i oi cs b hi) (fun cs b => hsel j oj cs b hoj) hQ hy h1
   have hfree' : ∀ k ok, ops[k]? = some ok → k ≠ i → (listed.setIfInBounds j true).getD k true = false →
     (∀ e ∈ ok.after, Region.binds md e = true → e.on ≠ i) → oi.apart ops ok = true := fun k ok hk hki hun hno => by
    refine hfree k ok hk hki ?_ hno
    by_cases hjk : j = k
    ·subst hjk; exact hjun
    ·rw [getD_set_ne true hjk] at hun; exact hun
   have hd' : ∀ d ∈ ds, (listed.setIfInBounds j true).getD d true = false → Region.zd9 md ops i n d = true := fun d hm hun => by
    refine hd d hm ?_
    by_cases hjk : j = d
    ·subst hjk; exact hjun
    ·rw [getD_set_ne true hjk] at hun; exact hun
   refine wpOp_mono (fun a' w' h3 => ⟨h3.2.1, ih (listed.setIfInBounds j true) a' w' hfree' (hc.set hj) hd' (ready_mono hr (Ne.symm hji)) h3.1 (h3.2.1 hjd hS) ?_⟩) h2
   rw [Array.setIfInBounds_comm _ _ hji]
   exact h3.2.2
theorem zh4 {i : Nat} {oi : Oper} {v : Value} (hi : ops[i]? = some oi) (hsel : ∀ (j : Nat) (o : Oper) cs b, ops[j]? = some o → o.op ≠ .select cs b)
  (hQ : ∀ c a w, Q (.panic c) (a.put oi.dst v) w → Q (.panic c) a w) :
  ∀ (fuel : Nat) (listed : Array Bool) (a : Act) (w : World),
   (∀ j oj, ops[j]? = some oj → j ≠ i → listed.getD j true = false → (∀ e ∈ oj.after, Region.binds md e = true → e.on ≠ i) → oi.apart ops oj = true) →
   i ∈ Region.ready md ops listed → Yields P ops oi v a →
   za8 P md ops Q S ds fuel (listed.setIfInBounds i true) (a.put oi.dst v) w → za8 P md ops Q S ds (fuel + 1) listed a w := by
 intro fuel
 induction fuel with
 | zero =>
  intro listed a w _ hr hy H
  refine ⟨fun h => (by rw [h] at hr; cases hr), fun j hj => ?_⟩
  by_cases hji : j = i
  ·subst hji; exact (hy.yieldsIf (S := fun _ => True)).wpOp hi trivial ⟨fun _ h => h, H⟩
  ·have := ready_mono hj hji
   rw [H.1] at this
   cases this
 | succ fuel ih =>
  intro listed a w hfree hr hy H
  refine ⟨fun h => (by rw [h] at hr; cases hr), fun j hj => ?_⟩
  by_cases hji : j = i
  ·subst hji; exact (hy.yieldsIf (S := fun _ => True)).wpOp hi trivial ⟨fun _ h => h, H⟩
  ·have h1 := H.2 j (ready_mono hj hji)
   obtain ⟨hjun, oj, hoj, hall⟩ := mem_ready.1 hj
   have hiun := (mem_ready.1 hr).1
   have hnot : ∀ e ∈ oj.after, Region.binds md e = true → e.on ≠ i := fun e he hb heq => by
    have h1 := hall e he hb
    rw [heq] at h1
    rcases Nat.lt_or_ge i listed.size with h' | h'
    ·simp [h'] at hiun h1; rw [hiun] at h1; cases h1
    ·simp [Array.getElem?_eq_none h'] at h1
   have h2 := wpOp_put hoj (hfree j oj hoj hji hjun hnot) (fun cs b => hsel i oi cs b hi) (fun cs b => hsel j oj cs b hoj) hQ hy h1
   have hfree' : ∀ k ok, ops[k]? = some ok → k ≠ i → (listed.setIfInBounds j true).getD k true = false →
     (∀ e ∈ ok.after, Region.binds md e = true → e.on ≠ i) → oi.apart ops ok = true := fun k ok hk hki hun hno => by
    refine hfree k ok hk hki ?_ hno
    by_cases hjk : j = k
    ·subst hjk; exact hjun
    ·rw [getD_set_ne true hjk] at hun; exact hun
   refine wpOp_mono (fun a' w' h3 => ⟨h3.2.1, ih (listed.setIfInBounds j true) a' w' hfree' (ready_mono hr (Ne.symm hji)) h3.1 ?_⟩) h2
   rw [Array.setIfInBounds_comm _ _ hji]
   exact h3.2.2
theorem zg7 {i : Nat} {oi : Oper} {v : Value} {fuel : Nat} {listed : Array Bool} {a : Act} {w : World} (hi : ops[i]? = some oi)
  (hs : Region.noSelect ops = true) (hf : Region.free md ops listed i = true) (hr : (Region.ready md ops listed).contains i = true)
  (hc : Region.zgz md ops listed = true) (hl : Region.zns md ops listed ds i = true)
  (hQ : ∀ c a w, Q (.panic c) (a.put oi.dst v) w → Q (.panic c) a w) (hy : YieldsIf P ops S oi v a) (hS : S w)
  (h : za8 P md ops Q S ds fuel (listed.setIfInBounds i true) (a.put oi.dst v) w) : za8 P md ops Q S ds (fuel + 1) listed a w :=
 zgB hi (Region.noSelect_spec hs) hQ ops.size fuel listed a w (Region.free_spec hi hf) (Region.ziB hc)
  (fun d hm hun => by have := List.all_eq_true.1 hl d hm; rw [hun] at this; simpa using this) (by simpa using hr) hy hS h
theorem zh5 {rs : List Nat} {fuel : Nat} {listed : Array Bool} {a : Act} {w : World} (hr : Region.ready md ops listed = rs) (hne : rs ≠ [])
  (h : ∀ i ∈ rs, wpOp P ops Q i (fun a' w' => (i ∉ ds → S w → S w') ∧ za8 P md ops Q S ds fuel (listed.setIfInBounds i true) a' w') a w) : za8 P md ops Q S ds (fuel + 1) listed a w :=
 ⟨fun h0 => absurd (hr ▸ h0) hne, hr ▸ h⟩
theorem zg8 {listed : Array Bool} {a : Act} {w : World} (hr : Region.ready md ops listed = []) (h : Q .normal a w) :
  ∀ fuel, za8 P md ops Q S ds fuel listed a w
 | 0 => ⟨hr, h⟩
 | _ + 1 => ⟨fun _ => h, by rw [hr]; simp⟩
theorem zg9 {id : Nat} {a : Act} {w : World} (hm : P.follows .mixedOrders = true)
  (h : za8 P .any ops Q S ds ops.size (Array.replicate ops.size false) a { w with drawn := w.drawn + 1 }) : (Code.region id ops true).wp P Q a w :=
 wp_region_any hm (ze9 _ _ _ _ h)
end
section
variable {P : Program} {ops : Array Oper} {Q : Exit → Act → World → Prop} {md : Region.Mode} {S : World → Prop} {ds : List Nat}
def zb7 (P : Program) (md : Region.Mode) (ops : Array Oper) (Q : Exit → Act → World → Prop) (S : World → Prop) (ds : List Nat) (fuel : Nat) (listed : Array Bool) (a : Act) (w : World) (rs : List Nat) : Prop :=
 ∀ i ∈ rs, wpOp P ops Q i (fun a' w' => (i ∉ ds → S w → S w') ∧ za8 P md ops Q S ds fuel (listed.setIfInBounds i true) a' w') a w
theorem zb7.nil {fuel : Nat} {listed : Array Bool} {a : Act} {w : World} : zb7 P md ops Q S ds fuel listed a w [] := fun _ h => by cases h
theorem zb7.cons {fuel : Nat} {listed : Array Bool} {a : Act} {w : World} {i : Nat} {o : Oper} {rs : List Nat} (ho : ops[i]? = some o) (hd : i ∉ ds)
  (h : ∀ K' : Act → World → Prop, Shut (∀ a w, S w → (S w → za8 P md ops Q S ds fuel (listed.setIfInBounds i true) a w) → K' a w) → if Region.wanted o (yielded ops a.tmps) = true then Oper.wp P o a w K' Q else K' (a.put o.dst undef) w)
  (hs : zb7 P md ops Q S ds fuel listed a w rs) : zb7 P md ops Q S ds fuel listed a w (i :: rs) := fun j hj => by
 rcases List.mem_cons.1 hj with rfl | hj
 ·exact wpOp_step ho (fun K' hK => h K' (fun a w hS hW => hK a w ⟨fun _ _ => hS, hW hS⟩))
 ·exact hs j hj
theorem zds {rs : List Nat} {fuel : Nat} {listed : Array Bool} {a : Act} {w : World} (hr : Region.ready md ops listed = rs) (hne : rs ≠ [])
  (h : zb7 P md ops Q S ds fuel listed a w rs) : za8 P md ops Q S ds (fuel + 1) listed a w := zh5 hr hne h
theorem zl1 {id n : Nat} {a : Act} {w : World} (l : Array Bool) (hm : P.follows .mixedOrders = true) (hn : ops.size = n) (hl : Array.replicate n false = l) (hS : S w.drew)
  (h : S w.drew → za8 P .any ops Q S ds n l a w.drew) : (Code.region id ops true).wp P Q a w := by
 subst hn
 subst hl
 exact zg9 hm (h hS)
def takeB (md : Region.Mode) (ops : Array Oper) (ds : List Nat) (l l' : Array Bool) (i : Nat) : Bool :=
 Region.noSelect ops && Region.free md ops l i && (Region.ready md ops l).contains i && Region.zgz md ops l && Region.zns md ops l ds i && (l.setIfInBounds i true == l')
theorem zit {i : Nat} {N : Option Tmp} {oi : Oper} {v : Value} {fuel : Nat} {l : Array Bool} {a : Act} {w : World} (l' : Array Bool) (hi : ops[i]? = some oi) (hN : oi.dst = N) (hc : takeB md ops ds l l' i = true)
  (hQ : ∀ c a w, Q (.panic c) (a.put oi.dst v) w → Q (.panic c) a w) (hy : YieldsIf P ops S oi v a) (hS : S w) {a' : Act} (ha : a.put N v = a')
  (h : za8 P md ops Q S ds fuel l' a' w) : za8 P md ops Q S ds (fuel + 1) l a w := by
 subst ha
 subst hN
 simp only [takeB, Bool.and_eq_true, beq_iff_eq] at hc
 obtain ⟨⟨⟨⟨⟨h1, h2⟩, h3⟩, h4⟩, h5⟩, h6⟩ := hc
 subst h6
 exact zg7 hi h1 h2 h3 h4 h5 hQ hy hS h
def zqD (md : Region.Mode) (ops : Array Oper) (l l' : Array Bool) (i : Nat) : Bool :=
 Region.noSelect ops && Region.free md ops l i && (Region.ready md ops l).contains i && (l.setIfInBounds i true == l')
theorem zcK {i : Nat} {N : Option Tmp} {oi : Oper} {v : Value} {fuel : Nat} {l : Array Bool} {a : Act} {w : World} (l' : Array Bool) (hi : ops[i]? = some oi) (hN : oi.dst = N) (hc : zqD md ops l l' i = true)
  (hQ : ∀ c a w, Q (.panic c) (a.put oi.dst v) w → Q (.panic c) a w) (hy : Yields P ops oi v a) {a' : Act} (ha : a.put N v = a')
  (h : za8 P md ops Q S ds fuel l' a' w) : za8 P md ops Q S ds (fuel + 1) l a w := by
 subst ha
 subst hN
 simp only [zqD, Bool.and_eq_true, beq_iff_eq] at hc
 obtain ⟨⟨⟨h1, h2⟩, h3⟩, h6⟩ := hc
 subst h6
 exact zh4 hi (Region.noSelect_spec h1) hQ fuel l a w (Region.free_spec hi h2) (by simpa using h3) hy h
def zkq (md : Region.Mode) (ops : Array Oper) (l l' : Array Bool) (i : Nat) : Bool := (Region.ready md ops l == [i]) && (l.setIfInBounds i true == l')
theorem znt {i : Nat} {N : Option Tmp} {oi : Oper} {fuel : Nat} {l : Array Bool} {a : Act} {w : World} (l' : Array Bool) (hi : ops[i]? = some oi) (hN : oi.dst = N) (hc : zkq md ops l l' i = true) (hd : i ∉ ds)
  (h : ∀ K : Act → World → Prop, Shut (∀ a' w', S w' → (S w' → za8 P md ops Q S ds fuel l' a' w') → K a' w') → if Region.wanted oi (yielded ops a.tmps) = true then Oper.wp P oi a w K Q else K (a.put N undef) w) :
  za8 P md ops Q S ds (fuel + 1) l a w := by
 subst hN
 simp only [zkq, Bool.and_eq_true, beq_iff_eq] at hc
 obtain ⟨h1, h2⟩ := hc
 subst h2
 exact zds h1 (by simp) (zb7.cons hi hd (fun K hK => h K hK) zb7.nil)
theorem zo4 {l : Array Bool} {a : Act} {w : World} {n : Nat} (hr : (Region.ready md ops l == []) = true) (h : Q .normal a w) : za8 P md ops Q S ds n l a w := zg8 (by simpa using hr) h n
theorem zrv {i j : Nat} {Ni Nj : Option Tmp} {oi oj : Oper} {fuel : Nat} {l : Array Bool} {a : Act} {w : World} (li lj : Array Bool) (hi : ops[i]? = some oi) (hj : ops[j]? = some oj) (hNi : oi.dst = Ni) (hNj : oj.dst = Nj)
  (hc : (Region.ready md ops l == [i, j] && l.setIfInBounds i true == li && l.setIfInBounds j true == lj) = true) (hdi : i ∉ ds) (hdj : j ∉ ds)
  (h1 : ∀ K : Act → World → Prop, Shut (∀ a' w', S w' → (S w' → za8 P md ops Q S ds fuel li a' w') → K a' w') → if Region.wanted oi (yielded ops a.tmps) = true then Oper.wp P oi a w K Q else K (a.put Ni undef) w)
  (h2 : ∀ K : Act → World → Prop, Shut (∀ a' w', S w' → (S w' → za8 P md ops Q S ds fuel lj a' w') → K a' w') → if Region.wanted oj (yielded ops a.tmps) = true then Oper.wp P oj a w K Q else K (a.put Nj undef) w) :
  za8 P md ops Q S ds (fuel + 1) l a w := by
 subst hNi
 subst hNj
 simp only [Bool.and_eq_true, beq_iff_eq] at hc
 obtain ⟨⟨h3, h4⟩, h5⟩ := hc
 subst h4
 subst h5
 exact zds h3 (by simp) (zb7.cons hi hdi (fun K hK => h1 K hK) (zb7.cons hj hdj (fun K hK => h2 K hK) zb7.nil))
theorem zq3 {i j k : Nat} {Ni Nj Nk : Option Tmp} {oi oj ok : Oper} {fuel : Nat} {l : Array Bool} {a : Act} {w : World} (li lj lk : Array Bool) (hi : ops[i]? = some oi) (hj : ops[j]? = some oj) (hk : ops[k]? = some ok) (hNi : oi.dst = Ni) (hNj : oj.dst = Nj) (hNk : ok.dst = Nk)
  (hc : (Region.ready md ops l == [i, j, k] && l.setIfInBounds i true == li && l.setIfInBounds j true == lj && l.setIfInBounds k true == lk) = true) (hdi : i ∉ ds) (hdj : j ∉ ds) (hdk : k ∉ ds)
  (h1 : ∀ K : Act → World → Prop, Shut (∀ a' w', S w' → (S w' → za8 P md ops Q S ds fuel li a' w') → K a' w') → if Region.wanted oi (yielded ops a.tmps) = true then Oper.wp P oi a w K Q else K (a.put Ni undef) w)
  (h2 : ∀ K : Act → World → Prop, Shut (∀ a' w', S w' → (S w' → za8 P md ops Q S ds fuel lj a' w') → K a' w') → if Region.wanted oj (yielded ops a.tmps) = true then Oper.wp P oj a w K Q else K (a.put Nj undef) w)
  (h3 : ∀ K : Act → World → Prop, Shut (∀ a' w', S w' → (S w' → za8 P md ops Q S ds fuel lk a' w') → K a' w') → if Region.wanted ok (yielded ops a.tmps) = true then Oper.wp P ok a w K Q else K (a.put Nk undef) w) :
  za8 P md ops Q S ds (fuel + 1) l a w := by
 subst hNi
 subst hNj
 subst hNk
 simp only [Bool.and_eq_true, beq_iff_eq] at hc
 obtain ⟨⟨⟨h4, h5⟩, h6⟩, h7⟩ := hc
 subst h5
 subst h6
 subst h7
 exact zds h4 (by simp) (zb7.cons hi hdi (fun K hK => h1 K hK) (zb7.cons hj hdj (fun K hK => h2 K hK) (zb7.cons hk hdk (fun K hK => h3 K hK) zb7.nil)))
def zl2 : Act → List (Tmp × Value) → Act
 | a, [] => a
 | a, (n, v) :: r => zl2 (a.put (some n) v) r
theorem zrh {σ : Type} {fuel : Nat} {l : Array Bool} {a : Act} {w : World} (fuel' : Nat) (l' : Array Bool) (ns : σ → List (Tmp × Value)) (F : σ → World → Prop)
  (hcont : ∀ s w', F s w' → za8 P md ops Q S ds fuel' l' (zl2 a (ns s)) w')
  (h : (∀ s w', F s w' → za8 P md ops Q S ds fuel' l' (zl2 a (ns s)) w') → za8 P md ops Q S ds fuel l a w) : za8 P md ops Q S ds fuel l a w := h hcont
theorem ziC {fuel : Nat} {l : Array Bool} {a a' : Act} {w : World} (ha : a = a') (h : za8 P md ops Q S ds fuel l a' w) : za8 P md ops Q S ds fuel l a w := by
 subst ha
 exact h
theorem call_ {oi : Oper} {N : Option Tmp} {a : Act} {w : World} {K : Act → World → Prop} (f : FuncId) (args : Array Value) (hw : Region.wanted oi (yielded ops a.tmps) = true) (hN : oi.dst = N) (hrun : (execOp a.eval oi).run P w = .ok (.enter f args) w)
  (h : Calls P f args w fun e w' => ∃ v, e = .returned v ∧ K (a.put N v) w') : if Region.wanted oi (yielded ops a.tmps) = true then Oper.wp P oi a w K Q else K (a.put N undef) w := by
 rw [if_pos hw]
 subst hN
 unfold Oper.wp
 rw [hrun, Oper.upon_enter]
 refine h.mono fun e w'' hh => ?_
 obtain ⟨v, rfl, hk⟩ := hh
 exact hk
theorem zl3 {f : FuncId} {fn : Func} (hf : P.funcs[f]? = some fn) (hname : (fn.name == "runtime.NumGoroutine") = false) (hb : fn.body.isSome = true) (args : Array Value) (w : World) : (callFunc f args).run P w = .ok (.enter f args) w := by
 have h1 : fn.name ≠ "runtime.NumGoroutine" := by simpa using hname
 obtain ⟨c, hc⟩ := Option.isSome_iff_exists.1 hb
 simp [callFunc, hf, h1, hc]
theorem znu {oi : Oper} {N : Option Tmp} {a : Act} {w : World} {K : Act → World → Prop} {f : FuncId} {fn : Func} {as1 : Array Operand} {ts : Array TypeId} (hf : P.funcs[f]? = some fn) (hname : (fn.name == "runtime.NumGoroutine") = false) (hb : fn.body.isSome = true) (args : Array Value)
  (hw : Region.wanted oi (yielded ops a.tmps) = true) (hN : oi.dst = N) (hop : oi.op = .call { callee := .value (.func f), args := as1, argTypes := ts }) (hargs : as1.map a.eval = args)
  (h : Calls P f args w fun e w' => ∃ v, e = .returned v ∧ K (a.put N v) w') : if Region.wanted oi (yielded ops a.tmps) = true then Oper.wp P oi a w K Q else K (a.put N undef) w := by
 refine call_ f args hw hN ?_ h
 have he := zl3 hf hname hb args w
 unfold execOp
 simp [hop, resolve, Deferred.ofValue, invoke, Act.eval, hargs, he]
theorem zgC {rest : List Oper} {oi : Oper} {a : Act} {w : World} (N : Option Tmp) (hd : oi.dst = N) (hg : oi.guard = none) {f : FuncId} {fn : Func} {as1 : Array Operand} {ts : Array TypeId} (hf : P.funcs[f]? = some fn) (hname : (fn.name == "runtime.NumGoroutine") = false) (hb : fn.body.isSome = true) (args : Array Value)
  (hop : oi.op = .call { callee := .value (.func f), args := as1, argTypes := ts }) (hargs : as1.map a.eval = args)
  (h : Calls P f args w fun e w' => ∃ v, e = .returned v ∧ wpList P ops Q rest (a.put N v) w') : wpList P ops Q (oi :: rest) a w := by
 refine wpList_plain hg fun K hK => ?_
 have he := zl3 hf hname hb args w
 have hrun : (execOp a.eval oi).run P w = .ok (.enter f args) w := by
  unfold execOp
  simp [hop, resolve, Deferred.ofValue, invoke, Act.eval, hargs, he]
 unfold Oper.wp
 rw [hrun, Oper.upon_enter]
 refine h.mono fun e w'' hh => ?_
 obtain ⟨v, rfl, hk⟩ := hh
 subst hd
 exact hK _ _ hk
theorem zou {oi : Oper} {N : Option Tmp} {a : Act} {w w1 : World} {v : Value} {K : Act → World → Prop} (hw : Region.wanted oi (yielded ops a.tmps) = true) (hN : oi.dst = N) (hrun : (execOp a.eval oi).run P w = .ok (.value v) w1)
  (h : K (a.put N v) w1) : if Region.wanted oi (yielded ops a.tmps) = true then Oper.wp P oi a w K Q else K (a.put N undef) w := by
 rw [if_pos hw]
 subst hN
 unfold Oper.wp
 rw [hrun]
 exact h
theorem zqO {oi : Oper} {a : Act} {w w1 : World} {K : Act → World → Prop} (hw : Region.wanted oi (yielded ops a.tmps) = true) (hN : oi.dst = none) (hrun : (execOp a.eval oi).run P w = .ok .skip w1)
  (h : K a w1) : if Region.wanted oi (yielded ops a.tmps) = true then Oper.wp P oi a w K Q else K (a.put none undef) w := by
 rw [if_pos hw]
 unfold Oper.wp
 rw [hrun]
 show K (a.put oi.dst undef) w1
 rw [hN]
 exact h
theorem zbs (n : Int) : IntKind.i64.wrap n = Go.RowKit.wrap64 n := by unfold Go.RowKit.wrap64; exact IntKind.wrap_i64 n
theorem zbR (n : Int) : IntKind.i32.wrap n = Go.RowKit.wrap32 n := by unfold Go.RowKit.wrap32; exact IntKind.wrap_i32 n
end
end Go.Proofs.YtioofhilohmfbaaGreatDoorW.PrintLast
end
section
open Go.RowKit
namespace Go.Proofs.YtioofhilohmfbaaGreatDoorW.PrintWords
namespace Kd
section
variable {α : Type} {d : Kd α} {e base g o n cap : Nat} {ok okp : Nat → Prop} {w W : World} {v : Value} {xs : List α}
theorem zq4 (h : d.Q e w base ok v xs) (hp : 0 < xs.length) : ∃ g o cap, v = .slice (some ⟨g, o, none⟩) xs.length cap ∧ base ≤ g ∧ g < w.heap.size ∧ ∃ cells, w.heap[g]? = some (.cells cells e (0, 0)) := by
 obtain ⟨h0, inner, hq, hr⟩ := h
 rcases hq.2 with ⟨h1, _⟩ | ⟨g, off, cap, cur, rfl, hb, hh, r⟩
 ·omega
 ·exact ⟨g, off * d.sz, cap, rfl, hb, zbg hh, cur, hh⟩
theorem zov (h : d.Q e W base ok (.slice (some ⟨g, o, none⟩) n cap) xs) (z : α) (i : Int) (h0 : 0 ≤ i) (h1 : i < n) :
  ∃ c, c.length = d.sz ∧ d.M W base (fun k => ok k ∧ k ≠ g) (xs.getD i.toNat z) c ∧ (∀ j u, c[j]? = some u → W.cell? ⟨g, o + i.toNat * d.sz + j, none⟩ = some u) ∧ ∀ j, W.frozen? ⟨g, o + i.toNat * d.sz + j, none⟩ = false := by
 obtain ⟨hn, hnc, hC⟩ := zhV h
 obtain ⟨_, inner, ho, hr⟩ := h
 have hil : i.toNat < xs.length := by omega
 have hseg : i.toNat * d.sz + d.sz ≤ inner.length := by rw [hr.1, ← Nat.succ_mul]; exact Nat.mul_le_mul_right _ hil
 have hM := hr.2 i.toNat _ (List.getElem?_eq_getElem hil)
 refine ⟨(inner.drop (i.toNat * d.sz)).take d.sz, by rw [List.length_take, List.length_drop]; omega, ?_, fun j u hu => ?_, fun j => ?_⟩
 ·rw [List.getD_eq_getElem?_getD, List.getElem?_eq_getElem hil]
  exact d.M_mono (fun k hk => ⟨hk.1, fun he => hk.2 (by rw [he]; simp [Value.ownBlock])⟩) hM
 ·rw [List.getElem?_take] at hu
  split at hu
  ·rw [List.getElem?_drop] at hu
   subst hn
   obtain ⟨ad, he, hc⟩ := zlR ho (by omega)
   injection he with he
   subst he
   have := hc _ u hu
   rwa [zoo, ← Nat.add_assoc] at this
  ·cases hu
 ·obtain ⟨_, cells, hc⟩ := zoL ho g (by simp [Value.ownBlock])
  exact zae hc _
theorem zqP (h : d.Q e W base ok (.slice (some ⟨g, o, none⟩) n cap) xs) (i : Int) (h0 : 0 ≤ i) (h1 : i < n) {c seg : List Value} {j : Nat} (hcl : c.length = d.sz) (hcc : ∀ j u, c[j]? = some u → W.cell? ⟨g, o + i.toNat * d.sz + j, none⟩ = some u)
  (hj : j + seg.length ≤ d.sz) {x' : α} (hM : d.M W base okp x' (c.take j ++ seg ++ c.drop (j + seg.length))) (hokp : ∀ k, okp k → ok k ∧ k ≠ g) :
  d.Q e (W.setCells g (o + i.toNat * d.sz + j) seg) base ok (.slice (some ⟨g, o, none⟩) n cap) (xs.set i.toNat x') ∧ W.grownBy (W.setCells g (o + i.toNat * d.sz + j) seg) (some g) := by
 obtain ⟨hn, hnc, _⟩ := zhV h
 obtain ⟨hok, inner, ho, hr⟩ := h
 have hil : i.toNat < xs.length := by omega
 have hseg : i.toNat * d.sz + d.sz ≤ inner.length := by rw [hr.1, ← Nat.succ_mul]; exact Nat.mul_le_mul_right _ hil
 have hin : inner.length = n * d.sz := by rw [hr.1, hn]
 obtain ⟨ho1, ho2⟩ := ho
 rcases ho2 with ⟨hz, _⟩ | ⟨g', off, cap', cur, hv, hb, hh, hnc', hcm, hcs, ht⟩
 ·omega
 injection hv with ha _ hc
 injection ha with ha
 injection ha with hg hoff
 subst hg; subst hc; subst hoff
 have hcap : n * d.sz ≤ cap * d.sz := Nat.mul_le_mul_right _ hnc
 have hcs' : cur.size = off * d.sz + cap * d.sz := by rw [hcs, Nat.add_mul]
 have hfit : off * d.sz + i.toNat * d.sz + j + seg.length ≤ cur.size := by omega
 obtain ⟨cur', h3, h4, h5⟩ := zei seg (off * d.sz + i.toNat * d.sz + j) W cur hh hfit
 obtain ⟨s1, s2, s3, s4⟩ := zdU g seg (off * d.sz + i.toNat * d.sz + j) W
 have hfar : ∀ k, k ≠ g → (W.setCells g (off * d.sz + i.toNat * d.sz + j) seg).heap[k]? = W.heap[k]? := fun k hk => zeh seg _ k hk
 rw [← hn] at ht
 -- the row's cells are the block's from off on
 have hat : ∀ q, q < n * d.sz → cur.toList[off * d.sz + q]? = inner[q]? := by
  intro q hq
  rw [← ht, List.getElem?_take, if_pos hq, List.getElem?_drop]
 have hcin : ∀ q, q < d.sz → c[q]? = inner[i.toNat * d.sz + q]? := by
  intro q hq
  have hq' : q < c.length := by omega
  have h6 := hcc q _ (List.getElem?_eq_getElem hq')
  rw [cell_of_row W g _ cur e (0, 0) hh] at h6
  rw [List.getElem?_eq_getElem hq', ← h6, ← hat _ (by omega), Array.getElem?_toList, Nat.add_assoc]
 refine ⟨⟨hok, inner.take (i.toNat * d.sz + j) ++ seg ++ inner.drop (i.toNat * d.sz + j + seg.length), ⟨?_, .inr ⟨g, off, cap, cur', by rw [List.length_set, hn], hb, h3, by rw [List.length_set, ← hn]; exact hnc, hcm, by rw [h4, hcs], ?_⟩⟩, ?_⟩,
  ⟨s1, s2, s3, by rw [s4]; exact Nat.le_refl _, fun k _ hk => hfar k (fun he => hk (by rw [he]))⟩⟩
 ·rw [List.length_set]
  simp only [List.length_append, List.length_take, List.length_drop]
  rw [hr.1] at hseg ⊢
  omega
 ·rw [List.length_set, ← hn]
  apply List.ext_getElem?
  intro q
  rw [List.getElem?_take, List.getElem?_drop, h5]
  rw [zgk cur.toList seg (off * d.sz + i.toNat * d.sz + j) (by rw [Array.length_toList]; omega) (off * d.sz + q), zgk inner seg (i.toNat * d.sz + j) (by omega) q]
  by_cases hq : q < n * d.sz
  ·rw [if_pos hq]
   by_cases hq1 : q < i.toNat * d.sz + j
   ·rw [if_pos (by omega), if_pos hq1, hat q hq]
   ·rw [if_neg (by omega), if_neg hq1]
    by_cases hq2 : q < i.toNat * d.sz + j + seg.length
    ·rw [if_pos (by omega), if_pos hq2]
     congr 1
     omega
    ·rw [if_neg (by omega), if_neg hq2, hat q hq]
  ·rw [if_neg hq, if_neg (by omega), if_neg (by omega), List.getElem?_eq_none (by omega)]
 ·refine ⟨?_, fun m p hm => ?_⟩
  ·rw [List.length_set]
   simp only [List.length_append, List.length_take, List.length_drop]
   rw [hr.1] at hseg ⊢
   omega
  ·have hml : m < xs.length := by
    have := (List.getElem?_eq_some_iff.1 hm).1
    rwa [List.length_set] at this
   have hmfit : m * d.sz + d.sz ≤ inner.length := by rw [hr.1, ← Nat.succ_mul]; exact Nat.mul_le_mul_right _ hml
   have hgo : some g = (Value.slice (some ⟨g, off * d.sz, none⟩) n cap).ownBlock := by simp [Value.ownBlock]
   by_cases hmi : m = i.toNat
   ·subst hmi
    rw [List.getElem?_set_self (by omega)] at hm
    injection hm with hm
    subst hm
    have hcells : ((inner.take (i.toNat * d.sz + j) ++ seg ++ inner.drop (i.toNat * d.sz + j + seg.length)).drop (i.toNat * d.sz)).take d.sz = c.take j ++ seg ++ c.drop (j + seg.length) := by
     apply List.ext_getElem?
     intro q
     rw [List.getElem?_take, List.getElem?_drop, zgk inner seg _ (by omega), zgk c seg j (by omega) q]
     by_cases hq : q < d.sz
     ·rw [if_pos hq, hcin q hq]
      by_cases hq1 : q < j
      ·rw [if_pos (by omega), if_pos hq1]
      ·rw [if_neg (by omega), if_neg hq1]
       by_cases hq2 : q < j + seg.length
       ·rw [if_pos (by omega), if_pos hq2]
        congr 1
        omega
       ·rw [if_neg (by omega), if_neg hq2]
     ·rw [if_neg hq, if_neg (by omega), if_neg (by omega), List.getElem?_eq_none (by omega)]
    rw [hcells]
    refine d.M_mono (fun k hk => ?_) (d.M_move (w1 := W.setCells g (off * d.sz + i.toNat * d.sz + j) seg) (fun k hk => hfar k (hokp k hk).2) hM)
    exact ⟨(hokp k hk).1, fun he => (hokp k hk).2 (by rw [← hgo] at he; injection he)⟩
   ·rw [List.getElem?_set_ne (by omega)] at hm
    have hold := hr.2 m p hm
    have hcells : ((inner.take (i.toNat * d.sz + j) ++ seg ++ inner.drop (i.toNat * d.sz + j + seg.length)).drop (m * d.sz)).take d.sz = (inner.drop (m * d.sz)).take d.sz := by
     apply List.ext_getElem?
     intro q
     rw [List.getElem?_take, List.getElem?_take, List.getElem?_drop, List.getElem?_drop, zgk inner seg _ (by omega)]
     by_cases hq : q < d.sz
     ·rw [if_pos hq, if_pos hq]
      rcases Nat.lt_or_gt_of_ne hmi with hlt | hgt
      ·have : m * d.sz + d.sz ≤ i.toNat * d.sz := by rw [← Nat.succ_mul]; exact Nat.mul_le_mul_right _ hlt
       rw [if_pos (by omega)]
      ·have : i.toNat * d.sz + d.sz ≤ m * d.sz := by rw [← Nat.succ_mul]; exact Nat.mul_le_mul_right _ hgt
       rw [if_neg (by omega), if_neg (by omega)]
     ·rw [if_neg hq, if_neg hq]
    rw [hcells]
    refine d.M_move (fun k hk => hfar k (fun he => hk.2 (by rw [he]; exact hgo))) hold
end
section
variable {α : Type} {enc : α → Value} {h1 : ∀ x, (enc x).oneCell' = true} {e base g o n cap : Nat} {ok : Nat → Prop} {W : World} {xs : List α}
theorem zq5 (d : α) (h : (scalar enc h1).Q e W base ok (.slice (some ⟨g, o, none⟩) n cap) xs) (i : Int) (h0 : 0 ≤ i) (hi : i < n) : W.cell? ⟨g, o + i.toNat, none⟩ = some (enc (zdd d xs i)) ∧ W.frozen? ⟨g, o + i.toNat, none⟩ = false := by
 obtain ⟨c, _, hM, hcc, hf⟩ := zov h d i h0 hi
 have hM' : c = [enc (xs.getD i.toNat d)] := hM
 subst hM'
 have h2 := hcc 0 _ rfl
 have h3 := hf 0
 rw [show (scalar enc h1).sz = 1 from rfl, Nat.mul_one, Nat.add_zero] at h2 h3
 exact ⟨h2, h3⟩
theorem zq6 (h : (scalar enc h1).Q e W base ok (.slice (some ⟨g, o, none⟩) n cap) xs) (i : Int) (h0 : 0 ≤ i) (hi : i < n) (x : α) : (scalar enc h1).Q e (W.setCell ⟨g, o + i.toNat, none⟩ (enc x)) base ok (.slice (some ⟨g, o, none⟩) n cap) (xs.set i.toNat x) ∧ W.grownBy (W.setCell ⟨g, o + i.toNat, none⟩ (enc x)) (some g) := by
 have hp : 0 < xs.length := by have := (zhV h).1; omega
 obtain ⟨c, hcl, _, hcc, _⟩ := zov h (xs[0]'hp) i h0 hi
 have h2 := zqP h i h0 hi (c := c) (seg := [enc x]) (j := 0) (okp := fun _ => False) (x' := x) hcl hcc (Nat.le_refl 1) (by
  have hl : c.length = 1 := hcl
  show c.take 0 ++ [enc x] ++ c.drop (0 + 1) = [enc x]
  rw [List.drop_eq_nil_of_le (by omega)]
  rfl) (fun _ hk => hk.elim)
 rw [show (scalar enc h1).sz = 1 from rfl, Nat.mul_one, Nat.add_zero] at h2
 exact h2
end
end Kd
end Go.Proofs.YtioofhilohmfbaaGreatDoorW.PrintWords
end
section
open Go.RowKit
namespace Go.Proofs.YtioofhilohmfbaaGreatDoorW.PrintWords
namespace Kd
def tag {α : Type} (f : Nat → Nat) (d : Kd α) : Kd (α × Nat) where
 sz := d.sz
 E := d.E
 K := fun w x cs => d.K w x.1 cs
 M := fun w base ok x cs => d.M w base (fun k => ok k ∧ f k = x.2) x.1 cs
 K_len := fun h => d.K_len h
 K_one := fun h => d.K_one h
 K_below := fun hb h => d.K_below hb h
 K_of_M := fun h => d.K_of_M h
 M_mono := fun hok h => d.M_mono (fun k hk => ⟨hok k hk.1, hk.2⟩) h
 M_bound := fun h => d.M_mono (fun _ hk => ⟨⟨hk.1.1, hk.2⟩, hk.1.2⟩) (d.M_bound h)
 M_move := fun hm h => d.M_move (fun k hk => hm k hk.1) h
 M_lower := fun hb h => d.M_lower hb h
def raw (sz : Nat) : Kd (List Value) where
 sz := sz
 E := []
 K := fun _ x cs => cs = x ∧ cs.length = sz ∧ ∀ u ∈ cs, u.oneCell' = true
 M := fun _ _ _ x cs => cs = x ∧ cs.length = sz ∧ ∀ u ∈ cs, u.oneCell' = true
 K_len := fun h => h.2.1
 K_one := fun h => h.2.2
 K_below := fun _ h => h
 K_of_M := fun h => h
 M_mono := fun _ h => h
 M_bound := fun h => h
 M_move := fun _ h => h
 M_lower := fun _ h => h
def S {α : Type} (d : Kd α) (e : Nat) (w : World) (base : Nat) (ok : Nat → Prop) (v : Value) (xs : List α) : Prop := ∃ f, (tag f d).R e w base ok v xs.zipIdx
section
variable {α β : Type} {d : Kd α} {d' : Kd β} {e e' : Nat} {w w1 W : World} {base b : Nat} {ok ok' okv oku : Nat → Prop} {u v : Value} {xs : List α} {ys : List β}
theorem zel (hE : d.E = []) (h : d.R e w base ok v xs) : d.R e w base (fun k => some k = v.ownBlock) v xs := by
 obtain ⟨h0, inner, ho, hr⟩ := h
 refine ⟨fun k hk => hk.symm, inner, ho, hr.zji (fun p c hp => d.M_mono (fun k hk => ?_) (d.M_bound hp))⟩
 obtain ⟨_, _, _, q, hq, _⟩ := hk
 rw [hE] at hq
 cases hq
theorem zdh (d : Kd α) (e : Nat) (w : World) (base : Nat) (ok : Nat → Prop) : S d e w base ok (.slice none 0 0) [] := ⟨fun _ => 0, zcl _ _ _ _ _⟩
end
section
variable {α β : Type} {d : Kd α} {d' : Kd β} {e e' g : Nat} {w w1 W : World} {base b : Nat} {ok ok' okv oku : Nat → Prop} {u v : Value} {xs : List α} {ys : List β}
end
section
variable {P : Program} {ops : Array Oper} {rest : List Oper} {o : Oper} {a : Act} {Q : Exit → Act → World → Prop} {Kc : Act → World → Prop} {α : Type}
end
def gap {α : Type} (f : Nat → Nat) (d : Kd α) (i : Nat) (c : List Value) : Kd (α × Nat) where
 sz := d.sz
 E := d.E
 K := fun w x cs => (x.2 = i → cs = c ∧ cs.length = d.sz ∧ ∀ u ∈ cs, u.oneCell' = true) ∧ (x.2 ≠ i → d.K w x.1 cs)
 M := fun w base ok x cs => (x.2 = i → cs = c ∧ cs.length = d.sz ∧ ∀ u ∈ cs, u.oneCell' = true) ∧ (x.2 ≠ i → d.M w base (fun k => ok k ∧ f k = x.2) x.1 cs)
 K_len := fun {w x cs} h => by
  by_cases hx : x.2 = i
  ·exact (h.1 hx).2.1
  ·exact d.K_len (h.2 hx)
 K_one := fun {w x cs} h => by
  by_cases hx : x.2 = i
  ·exact (h.1 hx).2.2
  ·exact d.K_one (h.2 hx)
 K_below := fun hb h => ⟨h.1, fun hx => d.K_below hb (h.2 hx)⟩
 K_of_M := fun h => ⟨h.1, fun hx => d.K_of_M (h.2 hx)⟩
 M_mono := fun hok h => ⟨h.1, fun hx => d.M_mono (fun k hk => ⟨hok k hk.1, hk.2⟩) (h.2 hx)⟩
 M_bound := fun h => ⟨h.1, fun hx => d.M_mono (fun _ hk => ⟨⟨hk.1.1, hk.2⟩, hk.1.2⟩) (d.M_bound (h.2 hx))⟩
 M_move := fun hm h => ⟨h.1, fun hx => d.M_move (fun k hk => hm k hk.1) (h.2 hx)⟩
 M_lower := fun hb h => ⟨h.1, fun hx => d.M_lower hb (h.2 hx)⟩
def H {α : Type} (d : Kd α) (e : Nat) (w : World) (base : Nat) (ok : Nat → Prop) (v : Value) (xs : List α) (i : Int) (oki : Nat → Prop) (c : List Value) : Prop :=
 (∀ k, oki k → ok k) ∧ ∃ f, (gap f d i.toNat c).R e w base (fun k => ok k ∧ ¬ oki k) v xs.zipIdx
section
variable {α β : Type} {d : Kd α} {e e' g n cap : Nat} {w w1 W : World} {base : Nat} {ok ok' oki okp : Nat → Prop} {u v : Value} {xs : List α} {i : Int} {c : List Value}
end
section
variable {P : Program} {ops : Array Oper} {rest : List Oper} {o : Oper} {a : Act} {Q : Exit → Act → World → Prop} {α : Type}
end
end Kd
end Go.Proofs.YtioofhilohmfbaaGreatDoorW.PrintWords
end
section
open Go.RowKit
namespace Go.Proofs.YtioofhilohmfbaaGreatDoorW.PrintWords
namespace Kd
section
variable {α : Type} {n : Nat} {d : Kd α} {hs : 0 < d.sz} {w : World} {base : Nat} {ok : Nat → Prop} {xs : List α} {cs : List Value}
end
section
variable {α : Type} {n : Nat} {enc : α → Value} {h1 : ∀ x, (enc x).oneCell' = true} {hs : 0 < (scalar enc h1).sz} {w : World} {base : Nat} {ok : Nat → Prop} {xs : List α} {cs : List Value}
end
end Kd
end Go.Proofs.YtioofhilohmfbaaGreatDoorW.PrintWords
end
section
open Go.RowKit
namespace Go.Proofs.YtioofhilohmfbaaGreatDoorW.PrintWords
section
variable {P : Program}
end
namespace Kd
section
variable {P : Program} {ops : Array Oper} {rest : List Oper} {o : Oper} {a : Act} {Q : Exit → Act → World → Prop} {Kc : Act → World → Prop} {α : Type}
end
section
variable {α : Type} {d : Kd α} {e : Nat} {w : World} {base : Nat} {ok : Nat → Prop} {v : Value} {xs : List α}
end
section
variable {P : Program} {ops : Array Oper} {rest : List Oper} {o : Oper} {a : Act} {Q : Exit → Act → World → Prop} {Kc : Act → World → Prop} {α : Type}
end
end Kd
end Go.Proofs.YtioofhilohmfbaaGreatDoorW.PrintWords
end
section
open Go.RowKit
namespace Go.Proofs.YtioofhilohmfbaaGreatDoorW.PrintWords
namespace Kd
structure Heap {α : Type} (d : Kd α) : Prop where
 K : ∀ {w w1 : World} {x : α} {cs : List Value}, (∀ k, k < w.heap.size → w1.heap[k]? = w.heap[k]?) → d.K w x cs → d.K w1 x cs
theorem zl4 {w w1 : World} (hb : ∀ k, k < w.heap.size → w1.heap[k]? = w.heap[k]?) {a : Addr} {v : Value} (h : w.cell? a = some v) : w1.cell? a = some v := by
 have := hb a.block (World.block_lt_of_cell? w a h)
 simpa [World.cell?, this] using h
theorem Heap.C {α : Type} {d : Kd α} (hd : Heap d) {w w1 : World} {A : Option Addr} {n : Nat} {xs : List α} (hb : ∀ k, k < w.heap.size → w1.heap[k]? = w.heap[k]?) (h : d.C w A n xs) : d.C w1 A n xs :=
 ⟨h.1, h.2.1, fun hn => by
  obtain ⟨ad, e, hc⟩ := h.2.2 hn
  refine ⟨ad, e, fun j p hj => ?_⟩
  obtain ⟨c, hs, hr, hcell⟩ := hc j p hj
  exact ⟨c, hs, hd.K hb hr, fun i u hu => zl4 hb (hcell i u hu)⟩⟩
section
variable {α : Type} {d : Kd α} {e base g n c : Nat} {ok : Nat → Prop} {w w0 W : World} {A : Option Addr} {xs : List α}
end
end Kd
end Go.Proofs.YtioofhilohmfbaaGreatDoorW.PrintWords
end
section
open Go.RowKit
namespace Go.Proofs.YtioofhilohmfbaaGreatDoorW.PrintWords
def Kept (w W : World) (S : Nat → Prop) : Prop := w.heap.size ≤ W.heap.size ∧ ∀ i, i < w.heap.size → ¬ S i → W.heap[i]? = w.heap[i]?
section
variable {w W W2 : World} {S S2 S' : Nat → Prop}
theorem Kept.refl (w : World) (S : Nat → Prop) : Kept w w S := ⟨Nat.le_refl _, fun _ _ _ => rfl⟩
theorem Kept.zkj (h : Below w.heap.size w W) (S : Nat → Prop) : Kept w W S := ⟨h.size, fun i hi _ => h.block i hi⟩
theorem Kept.mono (h : Kept w W S) (hs : ∀ k, S k → S' k) : Kept w W S' := ⟨h.1, fun i hi hn => h.2 i hi (fun hk => hn (hs i hk))⟩
theorem Kept.zo5 (h : Kept w W S) (k : Kept W W2 S2) (hs : ∀ k, S2 k → S k ∨ w.heap.size ≤ k) : Kept w W2 S :=
 ⟨Nat.le_trans h.1 k.1, fun i hi hn => (k.2 i (Nat.lt_of_lt_of_le hi h.1) (fun h2 => (hs i h2).elim hn (fun h3 => by omega))).trans (h.2 i hi hn)⟩
theorem Kept.znc {row : Option Nat} (hg : W.grownBy W2 row) (h : Kept w W S) (hr : ∀ k, row = some k → S k ∨ w.heap.size ≤ k) : Kept w W2 S :=
 h.zo5 (S2 := fun k => row = some k) ⟨hg.size, fun i hi hn => hg.block i hi (fun he => hn he.symm)⟩ hr
theorem Kept.below (h : Kept w W S) (hb : Below W.heap.size W W2) : Kept w W2 S := h.zo5 (Kept.zkj hb (fun _ => False)) (fun _ hk => hk.elim)
theorem Kept.alloc (h : Kept w W S) (o : Obj) : Kept w (W.alloc o) S := h.below (zam (Below.refl _ _) o)
theorem Kept.drew (h : Kept w W S) : Kept w W.drew S := h
theorem Kept.drewN (h : Kept w W S) (m : Nat) : Kept w (W.drewN m) S := h
theorem Kept.setCell (h : Kept w W S) {p : Addr} (hp : S p.block ∨ w.heap.size ≤ p.block) (u : Value) : Kept w (W.setCell p u) S :=
 h.zo5 (S2 := fun k => k = p.block) ⟨by simp [World.setCell], fun i _ hn => Below.heap_setCell W p u i hn⟩ (fun k hk => by rw [hk]; exact hp)
theorem Kept.keep {g : Nat} (h : zb6 w W g none) (k : Kept W W2 S2) (hs : ∀ k, S2 k → w.heap.size ≤ k) : zb6 w W2 g none :=
 ⟨Nat.le_trans h.1 k.1, fun i hi hg hr => (k.2 i (Nat.lt_of_lt_of_le hi h.1) (fun h2 => by have := hs i h2; omega)).trans (h.2 i hi hg hr)⟩
end
namespace Kd
section
variable {α : Type} {d : Kd α} {e base n c : Nat} {ok oki S S2 : Nat → Prop} {w w0 W W1 W2 : World} {v : Value} {A : Option Addr} {xs : List α} {i : Int} {cs : List Value}
end
end Kd
end Go.Proofs.YtioofhilohmfbaaGreatDoorW.PrintWords
end
section
open Go.RowKit
namespace Go.Proofs.YtioofhilohmfbaaGreatDoorW.PrintWords
def zhq (P : World → Prop) (W : World) (ok : Nat → Prop) : Prop := ∀ W' : World, (∀ k, ok k → k < W.heap.size → W'.heap[k]? = W.heap[k]?) → P W'
theorem zo6 {W W1 : World} {k : Nat} (h : W1.heap[k]? = W.heap[k]?) (hlt : k < W.heap.size) : k < W1.heap.size := by
 rw [Array.getElem?_eq_getElem hlt] at h
 exact (Array.getElem?_eq_some_iff.1 h).1
namespace zhq
variable {P Q : World → Prop} {W W1 : World} {ok ok' : Nat → Prop}
theorem now (h : zhq P W ok) : P W := h W (fun _ _ _ => rfl)
theorem mono (h : zhq P W ok) (hok : ∀ k, ok k → ok' k) : zhq P W ok' := fun W' hW => h W' (fun k hk hlt => hW k (hok k hk) hlt)
theorem bound (h : zhq P W ok) : zhq P W (fun k => ok k ∧ k < W.heap.size) := fun W' hW => h W' (fun k hk hlt => hW k ⟨hk, hlt⟩ hlt)
theorem step (h : zhq P W ok) (hm : ∀ k, ok k → k < W.heap.size → W1.heap[k]? = W.heap[k]?) : zhq P W1 ok := fun W' hW => h W' (fun k hk hlt => (hW k hk (zo6 (hm k hk hlt) hlt)).trans (hm k hk hlt))
theorem imp (h : zhq P W ok) (hi : ∀ W', P W' → Q W') : zhq Q W ok := fun W' hW => hi W' (h W' hW)
theorem old (h : zhq P W ok) (hb : Below W.heap.size W W1) : zhq P W1 (fun k => ok k ∧ k < W.heap.size) := (h.bound).step (fun k _ hlt => hb.block k hlt)
end zhq
namespace Kd
def F {α : Type} (d : Kd α) (W : World) (ok : Nat → Prop) (A : Option Addr) (n : Nat) (xs : List α) : Prop := zhq (fun W => d.C W A n xs) W ok
def FK {α : Type} (d : Kd α) (W : World) (ok : Nat → Prop) (x : α) (c : List Value) : Prop := zhq (fun W => d.K W x c) W ok
section
variable {α β : Type} {d : Kd α} {e base n n' cc g N : Nat} {ok ok' okp S : Nat → Prop} {w w0 w1 W W1 : World} {A A' : Option Addr} {u v v1 : Value} {xs : List α} {xs' : List β} {d' : Kd β} {x : α} {c : List Value}
theorem zqQ (h : F d W ok A n xs) : d.C W A n xs := zhq.now h
theorem zp8 (h : F d W ok A n xs) (hok : ∀ k, ok k → ok' k) : F d W ok' A n xs := zhq.mono h hok
theorem zl5 (h : F d W ok A n xs) (hm : ∀ k, ok k → k < W.heap.size → W1.heap[k]? = W.heap[k]?) : F d W1 ok A n xs := zhq.step h hm
theorem zqR (h : F d W ok A n xs) (hi : ∀ W', d.C W' A n xs → d'.C W' A' n' xs') : F d' W ok A' n' xs' := zhq.imp h hi
theorem zh6 (h : F d W ok A n xs) (hb : Below W.heap.size W W1) : F d W1 ok A n xs := zl5 h (fun k _ hlt => hb.block k hlt)
theorem zo7 (h : F d W ok A n xs) (o : Obj) : F d (W.alloc o) ok A n xs := zh6 h (zam (Below.refl _ _) o)
theorem zp9 (h : F d W ok A n xs) : F d W.drew ok A n xs := zh6 h (zew (Below.refl _ _))
theorem zo8 (h : F d W ok A n xs) (m : Nat) : F d (W.drewN m) ok A n xs := zh6 h (zao (Below.refl _ _) m)
theorem zo9 (h : F d W ok A n xs) {row : Option Nat} (hg : W.grownBy W1 row) (hok : ∀ k, ok k → some k ≠ row) : F d W1 ok A n xs := zl5 h (fun k hk hlt => hg.block k hlt (hok k hk))
theorem zqS (h : F d W ok A n xs) {p : Addr} (hok : ∀ k, ok k → k ≠ p.block) (u : Value) : F d (W.setCell p u) ok A n xs := zl5 h (fun k hk _ => Below.heap_setCell W p u k (hok k hk))
theorem zqT (d : Kd α) (W : World) (ok : Nat → Prop) : F d W ok none ([] : List α).length [] := fun W' _ => zoK d W'
theorem R_F (h : d.R e W base ok (.slice A n cc) xs) : F d W ok A n xs := fun W' hW => by
 have h2 := zax (ziw h hW)
 rw [h2.1]
 exact h2.2.2
theorem zpa (h : FK d W ok x c) (hm : ∀ k, ok k → k < W.heap.size → W1.heap[k]? = W.heap[k]?) : FK d W1 ok x c := zhq.step h hm
theorem zpb (h : d.M W base ok x c) : FK d W ok x c := fun _ hW => d.K_of_M (zom h hW)
end
end Kd
end Go.Proofs.YtioofhilohmfbaaGreatDoorW.PrintWords
end
section
open Go.RowKit
namespace Go.Proofs.YtioofhilohmfbaaGreatDoorW.PrintWords
namespace Kd
def chunks (sz : Nat) (n : Nat) (inner : List Value) : List (List Value) := (List.range n).map fun j => (inner.drop (j * sz)).take sz
theorem zcR (sz n : Nat) (inner : List Value) : (chunks sz n inner).length = n := by simp [chunks]
theorem zl6 {sz n : Nat} {inner : List Value} {j : Nat} (hj : j < n) : (chunks sz n inner)[j]? = some ((inner.drop (j * sz)).take sz) := by simp [chunks, hj]
theorem zhr {sz n : Nat} {inner : List Value} {j : Nat} {c : List Value} (h : (chunks sz n inner)[j]? = some c) : c = (inner.drop (j * sz)).take sz := by
 have hj : j < n := by have := (List.getElem?_eq_some_iff.1 h).1; rwa [zcR] at this
 rw [zl6 hj] at h
 injection h with h
 exact h.symm
theorem znv {α : Type} {Rr : α → List Value → Prop} {sz : Nat} {xs : List α} {inner : List Value} (h : zb5 Rr sz xs inner) (hR : ∀ x c, Rr x c → c.length = sz ∧ ∀ u ∈ c, u.oneCell' = true) : zb5 (fun x cs => cs = x ∧ cs.length = sz ∧ ∀ u ∈ cs, u.oneCell' = true) sz (chunks sz xs.length inner) inner := by
 refine ⟨by rw [zcR]; exact h.1, fun j p hj => ?_⟩
 have hjl : j < xs.length := by have := (List.getElem?_eq_some_iff.1 hj).1; rwa [zcR] at this
 have hp := zhr hj
 exact ⟨hp.symm, hR _ _ (h.2 j _ (List.getElem?_eq_getElem hjl))⟩
section
variable {α : Type} {d : Kd α} {e base n cc g : Nat} {ok ok' okp S : Nat → Prop} {w w1 W W1 : World} {A : Option Addr} {u v v1 : Value} {xs : List α} {x : α} {c : List Value}
def N {α : Type} (d : Kd α) (e : Nat) (w : World) (base : Nat) (ok : Nat → Prop) (v : Value) (xs : List α) : Prop :=
 (∀ k, v.ownBlock = some k → ok k) ∧ ∃ rows : List (List Value), rows.length = xs.length ∧ (raw d.sz).R e w base (fun k => some k = v.ownBlock) v rows ∧ ∀ (j : Nat) (x : α) (c : List Value), xs[j]? = some x → rows[j]? = some c → FK d w (fun k => ok k ∧ some k ≠ v.ownBlock) x c
theorem R_N (h : d.R e w base ok v xs) : N d e w base ok v xs := by
 obtain ⟨h0, inner, ho, hr⟩ := h
 refine ⟨h0, chunks d.sz xs.length inner, zcR _ _ _, ⟨fun k hk => hk.symm, inner, by rw [zcR]; exact ho, znv hr (fun x c hp => ⟨d.K_len (d.K_of_M hp), d.K_one (d.K_of_M hp)⟩)⟩, fun j x c hx hc => ?_⟩
 rw [zhr hc]
 exact zpb (hr.2 j x hx)
theorem zdi (d : Kd α) (e : Nat) (w : World) (base : Nat) (ok : Nat → Prop) : N d e w base ok (.slice none 0 0) [] := R_N (zcl _ _ _ _ _)
theorem zqa (h : N d e w base ok v xs) (hm : ∀ k, ok k → k < w.heap.size → w1.heap[k]? = w.heap[k]?) : N d e w1 base ok v xs := by
 obtain ⟨h0, rows, hl, hR, hf⟩ := h
 exact ⟨h0, rows, hl, ziw hR (fun k hk hlt => hm k (h0 k hk.symm) hlt), fun j x c hx hc => zpa (hf j x c hx hc) (fun k hk hlt => hm k hk.1 hlt)⟩
theorem zpc (h : N d e w base ok v xs) (hb : Below w.heap.size w w1) : N d e w1 base ok v xs := zqa h (fun k _ hk => hb.block k hk)
end
end Kd
end Go.Proofs.YtioofhilohmfbaaGreatDoorW.PrintWords
end
section
open Go.RowKit
namespace Go.Proofs.YtioofhilohmfbaaGreatDoorW.PrintWords
namespace Kd
section
variable {α : Type} {d : Kd α} {e base n cap g : Nat} {ok ok' okp : Nat → Prop} {w w1 W : World} {v v1 : Value} {xs ys : List α}
end
section
variable {P : Program} {ops : Array Oper} {rest : List Oper} {o : Oper} {a : Act} {Q : Exit → Act → World → Prop} {Kc : Act → World → Prop} {α : Type}
end
end Kd
end Go.Proofs.YtioofhilohmfbaaGreatDoorW.PrintWords
end
section
open Go.RowKit PrintWords PrintWords.Kd
namespace Go.Proofs.YtioofhilohmfbaaGreatDoorW.PrintMore
namespace Kd
end Kd
namespace Kd
open Go.Proofs.YtioofhilohmfbaaGreatDoorW.PrintWords.Kd
section
variable {α : Type} {d : Kd α} {e base g N : Nat} {ok : Nat → Prop} {W w1 : World} {u v : Value} {xs : List α}
theorem zc5 (hu : d.R e W base ok u xs) (hb : Below W.heap.size W w1) : d.R e w1 base (fun k => ok k ∧ k < W.heap.size) u xs :=
 za7 (zaS (zdp hu) hb) (fun _ h => ⟨h.1, h.2.2.1⟩)
theorem zbx (h : d.R e w1 base (fun k => ok k ∧ k < N) u xs) (hbase : ∀ k, v.ownBlock = some k → N ≤ k) : d.R e w1 base (fun k => (ok k ∧ some k ≠ v.ownBlock) ∧ k < N) u xs :=
 za7 h (fun k hk => ⟨⟨hk.1, fun e => Nat.lt_irrefl _ (Nat.lt_of_lt_of_le hk.2 (hbase k e.symm))⟩, hk.2⟩)
end
end Kd
theorem za3 (k k' : IntKind) (x y : Int) : Builtin.max2 (.int k x) (.int k' y) = pure (.int k (if x < y then y else x)) := by simp only [Builtin.max2, gt_iff_lt]
theorem za4 (k k' : IntKind) (x y : Int) : Builtin.min2 (.int k x) (.int k' y) = pure (.int k (if y < x then y else x)) := by simp only [Builtin.min2]
theorem zbh (ats : Array TypeId) (ty : TypeId) (a b : Value) : Builtin.max_ ats ty #[a, b] = (Builtin.max2 a b >>= fun s => pure s) := by simp only [Builtin.max_, List.foldlM_cons, List.foldlM_nil]
theorem zbi (ats : Array TypeId) (ty : TypeId) (a b : Value) : Builtin.min_ ats ty #[a, b] = (Builtin.min2 a b >>= fun s => pure s) := by simp only [Builtin.min_, List.foldlM_cons, List.foldlM_nil]
theorem zaT (ats : Array TypeId) (ty : TypeId) (a b c : Value) : Builtin.max_ ats ty #[a, b, c] = (Builtin.max2 a b >>= fun s => Builtin.max2 s c >>= fun s => pure s) := by simp only [Builtin.max_, List.foldlM_cons, List.foldlM_nil]
theorem zaU (ats : Array TypeId) (ty : TypeId) (a b c : Value) : Builtin.min_ ats ty #[a, b, c] = (Builtin.min2 a b >>= fun s => Builtin.min2 s c >>= fun s => pure s) := by simp only [Builtin.min_, List.foldlM_cons, List.foldlM_nil]
theorem za5 (ats : Array TypeId) (ty : TypeId) (a b c d : Value) : Builtin.max_ ats ty #[a, b, c, d] = (Builtin.max2 a b >>= fun s => Builtin.max2 s c >>= fun s => Builtin.max2 s d >>= fun s => pure s) := by simp only [Builtin.max_, List.foldlM_cons, List.foldlM_nil]
theorem za6 (ats : Array TypeId) (ty : TypeId) (a b c d : Value) : Builtin.min_ ats ty #[a, b, c, d] = (Builtin.min2 a b >>= fun s => Builtin.min2 s c >>= fun s => Builtin.min2 s d >>= fun s => pure s) := by simp only [Builtin.min_, List.foldlM_cons, List.foldlM_nil]
end Go.Proofs.YtioofhilohmfbaaGreatDoorW.PrintMore
namespace Go.Proofs.YtioofhilohmfbaaGreatDoorW.PrintWords
open Go.RowKit
section
variable {P : Program} {ops : Array Oper} {rest : List Oper} {o : Oper} {a : Act} {Q : Exit → Act → World → Prop} {W : World}
theorem zcL {f : FuncId} {as1 : Array Operand} {ts : Array TypeId} (_ho : o.op = .call { callee := .value (.func f), args := as1, argTypes := ts }) (h : wpList P ops Q (o :: rest) a W) : wpList P ops Q (o :: rest) a W := h
theorem zcO {b : Builtin} {xs : Array Operand} {ts : Array TypeId} (_ho : o.op = .call { callee := .builtin b, args := xs, argTypes := ts }) (h : wpList P ops Q (o :: rest) a W) : wpList P ops Q (o :: rest) a W := h
end
def mx (a b : Int) : Int := if a < b then b else a
def mn (a b : Int) : Int := if b < a then b else a
def shl (k : IntKind) (x y : Int) : Int := k.wrap (x * 2 ^ min y.toNat k.bits)
theorem zl7 {k : IntKind} {x y j : Int} (h : shl k x y = j) (hy : y ≤ k.bits) : k.wrap (x * 2 ^ y.toNat) = j := by rw [← h]; unfold shl; rw [Nat.min_eq_left (by omega)]
theorem zcC (w : World) (n : Nat) : w.drewN n = w.drewN n := rfl
namespace Kd
section
variable {α : Type} {d : Kd α} {e base : Nat} {ok : Nat → Prop} {W w1 : World} {v : Value} {xs : List α}
theorem zdx (h : d.R e W base ok v xs) (hE : d.E = []) {row : Option Nat} (hg : W.grownBy w1 row) (hne : row ≠ v.ownBlock) : d.R e w1 base ok v xs :=
 za7 (zoI (zel hE h) hg (fun _ hk e_ => hne (e_.symm.trans hk))) (fun k hk => h.1 k hk.symm)
end
section
variable {α : Type} {d : Kd α} {e base g n cap : Nat} {ok oki okp : Nat → Prop} {W : World} {xs : List α} {i : Int} {c : List Value}
end
section
variable {α : Type} {d : Kd α} {e base b b' g N : Nat} {ok ok1 : Nat → Prop} {W W2 w1 : World} {u v : Value} {xs ys : List α} {S : Nat → Prop}
theorem zow (hE : d.E = []) (h : d.R e W base ok1 v xs) (hok : ∀ k, v.ownBlock = some k → ok k) : d.R e W base ok v xs := za7 (zel hE h) (fun k hk => hok k hk.symm)
end
end Kd
end Go.Proofs.YtioofhilohmfbaaGreatDoorW.PrintWords
namespace Go.Proofs.YtioofhilohmfbaaGreatDoorW.PrintWords
open Go.RowKit
namespace Kd
def V {α : Type} (d : Kd α) (_e : Nat) (W : World) (_base : Nat) (ok : Nat → Prop) (v : Value) (xs : List α) : Prop := ∃ A c, v = .slice A xs.length c ∧ xs.length ≤ c ∧ F d W ok A xs.length xs
section
variable {α β : Type} {d : Kd α} {e base base' n m c g N' lo hi : Nat} {ok ok' S : Nat → Prop} {w W w1 : World} {A : Option Addr} {ad : Addr} {u v v1 : Value} {xs : List α}
theorem zfA (h : V d e W base ok v xs) (hF : ∀ A, F d W ok A xs.length xs → F d w1 ok' A xs.length xs) : V d e w1 base' ok' v xs := by
 obtain ⟨A, c, hv, hl, hf⟩ := h
 exact ⟨A, c, hv, hl, hF A hf⟩
theorem zri (hl : xs.length ≤ c) (hf : F d W ok A xs.length xs) : V d e W base ok (.slice A xs.length c) xs := ⟨A, c, rfl, hl, hf⟩
theorem zbe (h : V d e W base ok v xs) : ∃ A c, v = .slice A xs.length c := by
 obtain ⟨A, c, hv, _⟩ := h
 exact ⟨A, c, hv⟩
theorem zqE (h : V d e W base ok (.slice A n c) xs) : n = xs.length ∧ n ≤ c ∧ F d W ok A xs.length xs := by
 obtain ⟨A', c', hv, hl, hf⟩ := h
 injection hv with ha hn hc
 subst ha; subst hc
 exact ⟨hn, by rw [hn]; exact hl, hf⟩
theorem zaq (h : V d e W base ok (.slice A n c) xs) : n = xs.length ∧ n ≤ c ∧ d.C W A xs.length xs := ⟨(zqE h).1, (zqE h).2.1, zqQ (zqE h).2.2⟩
theorem zcA (d : Kd α) (e : Nat) (W : World) (base : Nat) (ok : Nat → Prop) : V d e W base ok (.slice none 0 0) [] := ⟨none, 0, rfl, Nat.le_refl _, zqT d W ok⟩
theorem R_V (h : d.R e W base ok v xs) : V d e W base' ok v xs := by
 obtain ⟨A, c, rfl⟩ := zaC h
 exact ⟨A, c, rfl, (zax h).2.1, R_F h⟩
theorem zbH (h : V d e W base ok v xs) (hok : ∀ k, ok k → ok' k) : V d e W base ok' v xs := zfA h (fun _ hf => zp8 hf hok)
theorem zbU (h : V d e W base ok v xs) (_ : base' ≤ base) : V d e W base' ok v xs := h
theorem zaW (h : V d e W base ok v xs) (hb : Below W.heap.size W w1) : V d e w1 base ok v xs := zfA h (fun _ hf => zh6 hf hb)
theorem zaZ (h : V d e W base ok v xs) (o : Obj) : V d e (W.alloc o) base ok v xs := zfA h (fun _ hf => zo7 hf o)
theorem zbI (h : V d e W base ok v xs) : V d e W.drew base ok v xs := zfA h (fun _ hf => zp9 hf)
theorem zbr (h : V d e W base ok v xs) (m : Nat) : V d e (W.drewN m) base ok v xs := zfA h (fun _ hf => zo8 hf m)
theorem zpd (h : V d e W base ok v xs) {row : Option Nat} (hg : W.grownBy w1 row) (hok : ∀ k, ok k → some k ≠ row) : V d e w1 base ok v xs := zfA h (fun _ hf => zo9 hf hg hok)
theorem zef (h : V d e W base ok v xs) {p : Addr} (hok : ∀ k, ok k → k ≠ p.block) (u : Value) : V d e (W.setCell p u) base ok v xs := zfA h (fun _ hf => zqS hf hok u)
theorem zqb (h : F d W ok A xs.length xs) (hm : m ≤ xs.length) : F d W ok A (xs.take m).length (xs.take m) := zqR h (fun _ hC => zoq hC hm)
theorem zfS {M : Nat → Prop} (h : d.R e w1 W.heap.size ok v xs) (hle : w.heap.size ≤ W.heap.size) (hM : ∀ k, w.heap.size ≤ k → M k) : d.R e w1 W.heap.size (fun k => M k ∧ ok k) v xs := za7 (zdp h) (fun k hk => ⟨hM k (Nat.le_trans hle hk.2.1), hk.1⟩)
end
end Kd
end Go.Proofs.YtioofhilohmfbaaGreatDoorW.PrintWords
end
section
open Go Go.RowKit PrintWords PrintLast PrintMore
namespace Go.Proofs.YtioofhilohmfbaaGreatDoor.P
section
variable {α : Type} {d : Kd α} {e base n g : Nat} {ok : Nat → Prop} {v : Value} {xs : List α} {a b w : World}
theorem vc (x : Kd.V d e a base ok v xs) (h : Below a.heap.size a b := by repeat (with_reducible first | exact Below.refl _ _ | apply zam | apply zao | apply zav)) : Kd.V d e b base ok v xs := Kd.zaW x h
theorem rc (x : Kd.R d e a base ok v xs) (h : Below a.heap.size a b := by repeat (with_reducible first | exact Below.refl _ _ | apply zam | apply zao | apply zav)) : Kd.R d e b base ok v xs := Kd.zaS x h
theorem nc (x : Kd.N d e a base ok v xs) (h : Below a.heap.size a b := by repeat (with_reducible first | exact Below.refl _ _ | apply zam | apply zao | apply zav)) : Kd.N d e b base ok v xs := Kd.zpc x h
theorem cc {A : Option Addr} (x : Kd.C d a A n xs) (h : Below a.heap.size a b := by repeat (with_reducible first | exact Below.refl _ _ | apply zam | apply zao | apply zav)) : Kd.C d b A n xs := Kd.zaY x h
theorem bc {o : Obj} (x : a.heap[g]? = some o) (h : Below a.heap.size a b := by repeat (with_reducible first | exact Below.refl _ _ | apply zam | apply zao | apply zav)) : b.heap[g]? = some o := zak x h
theorem lb {p : Prop} (h : p := by repeat (first | (with_reducible first | exact zaa.out (by assumption) | apply zam | apply zao | apply zav | apply zbo) | exact zaa.out (by assumption))) : p := h
theorem rs {p : Prop} (h : p := by first | rfl | (simp; done) | (simp [*]; done)) : p := h
theorem lc (x : Below w.heap.size w a) (h : Below a.heap.size a b := by repeat (with_reducible first | exact Below.refl _ _ | apply zam | apply zao | apply zav)) : Below w.heap.size w b := zab x h
end
end Go.Proofs.YtioofhilohmfbaaGreatDoor.P
end
section
open Go
namespace Go.Proofs.YtioofhilohmfbaaGreatDoor
theorem ziD : ∀ a b : List UInt8, (Op.bytesLess a b || a == b) = !(Op.bytesLess b a)
 | [], [] => by decide
 | [], b :: bs => by simp [Op.bytesLess]
 | a :: as1, [] => by simp [Op.bytesLess]
 | a :: as1, b :: bs => by
  have ih := ziD as1 bs
  have e : ((a :: as1) == (b :: bs)) = ((a == b) && (as1 == bs)) := rfl
  rw [Op.bytesLess, Op.bytesLess, e]
  by_cases h1 : a = b
  ·subst h1
   have : ¬ a < a := fun h => absurd h (by simp)
   simp [this]
   simpa using ih
  ·have h2 : (a == b) = false := beq_eq_false_iff_ne.2 h1
   have h3 : (b == a) = false := beq_eq_false_iff_ne.2 (fun h => h1 h.symm)
   rw [h2, h3]
   simp only [Bool.false_and, Bool.or_false]
   by_cases h4 : a < b
   ·have : ¬ b < a := fun h => absurd (UInt8.lt_iff_toNat_lt.1 h) (by have := UInt8.lt_iff_toNat_lt.1 h4; omega)
    simp [h4, this]
   ·have : b < a := UInt8.lt_iff_toNat_lt.2 (by
     have h5 : ¬ a.toNat < b.toNat := fun h => h4 (UInt8.lt_iff_toNat_lt.2 h)
     have h6 : a.toNat ≠ b.toNat := fun h => h1 (UInt8.toNat_inj.1 h)
     omega)
    simp [h4, this]
theorem zbn (t : TypeId) (a b : ByteArray) : binOp .leq t (.string a) (.string b) = pure (.bool (!(Op.bytesLess b.toList a.toList))) := by
 rw [← ziD]
 simp [binOp, Op.stringOp]
end Go.Proofs.YtioofhilohmfbaaGreatDoor
end
section
open PrintWords (zaa)
namespace Go.Proofs.YtioofhilohmfbaaGreatDoorW.PrintLast
def zfB (md : Region.Mode) (o : Oper) : List Nat := (o.after.toList.filter (fun e => Region.binds md e)).map (fun e => e.on)
def zjD (md : Region.Mode) (ops : Array Oper) (i : Nat) (oi : Oper) : List Nat := (List.range ops.size).filter fun j => !(j == i) && match ops[j]? with
 | some oj => !(oj.after.any (fun e => Region.binds md e && e.on == i) || oi.apart ops oj)
 | none => false
def zgD (md : Region.Mode) (ops : Array Oper) : Bool × List (List Nat × List Nat) := (Region.noSelect ops, (List.range ops.size).map fun i => match ops[i]? with
 | some o => (zfB md o, zjD md ops i o)
 | none => ([], []))
def zem (T : List (List Nat × List Nat)) (l : List Bool) (i : Nat) : Bool := !l.getD i true && match T[i]? with
 | some r => r.1.all (fun j => l.getD j false)
 | none => false
def ziE (T : List (List Nat × List Nat)) (l : List Bool) : List Nat := (List.range T.length).filter (zem T l)
def zl8 (T : List (List Nat × List Nat)) (l : List Bool) (i : Nat) : Bool := match T[i]? with
 | some r => r.2.all (fun j => l.getD j true)
 | none => false
def zh7 (T : List (List Nat × List Nat)) (l : List Bool) : Bool := (List.range T.length).all fun j => !l.getD j false || match T[j]? with
 | some r => r.1.all (fun k => l.getD k false)
 | none => true
def zhs (T : List (List Nat × List Nat)) (i : Nat) : Nat → Nat → Bool
 | 0, _ => false
 | fuel + 1, d => match T[d]? with
  | some r => r.1.any fun j => j == i || zhs T i fuel j
  | none => false
def znw (T : List (List Nat × List Nat)) (l : List Bool) (ds : List Nat) (i : Nat) : Bool := ds.all fun d => l.getD d true || zhs T i T.length d
section
variable {md : Region.Mode} {ops : Array Oper} {T : Bool × List (List Nat × List Nat)} {l l' li lj lk : Array Bool} {ds : List Nat} {i j k : Nat}
theorem gd (l : Array Bool) (j : Nat) (b : Bool) : l.getD j b = l.toList.getD j b := by simp [Array.getD_eq_getD_getElem?, List.getD_eq_getElem?_getD]
theorem ziF (o : Oper) (p : Nat → Bool) : o.after.all (fun e => !Region.binds md e || p e.on) = (zfB md o).all p := by
 unfold zfB
 rw [← Array.all_toList]
 induction o.after.toList with
 | nil => rfl
 | cons e r ih =>
  rw [List.all_cons, ih, List.filter_cons]
  cases h : Region.binds md e <;> simp
theorem zl9 (o : Oper) (p : Nat → Bool) : o.after.any (fun e => Region.binds md e && p e.on) = (zfB md o).any p := by
 unfold zfB
 rw [← Array.any_toList]
 induction o.after.toList with
 | nil => rfl
 | cons e r ih =>
  rw [List.any_cons, ih, List.filter_cons]
  cases h : Region.binds md e <;> simp
theorem zdX : (zgD md ops).2.length = ops.size := by simp [zgD]
theorem zfa {o : Oper} (h : ops[i]? = some o) : (zgD md ops).2[i]? = some (zfB md o, zjD md ops i o) := by
 have hi := (Array.getElem?_eq_some_iff.1 h).1
 unfold zgD
 rw [List.getElem?_map, List.getElem?_range hi, Option.map_some, h]
theorem zfb (h : ops[i]? = none) : (zgD md ops).2[i]? = none := by
 have hi : ops.size ≤ i := Array.getElem?_eq_none_iff.1 h
 exact List.getElem?_eq_none (by rw [zdX]; exact hi)
theorem zk7 : zem (zgD md ops).2 l.toList i = (!l.getD i true && ((ops[i]?).map (·.after.all fun e => !Region.binds md e || l.getD e.on false)).getD false) := by
 unfold zem
 rw [gd]
 cases h : ops[i]? with
 | none => rw [zfb h]; rfl
 | some o =>
  rw [zfa h]
  simp only [Option.map_some, Option.getD_some]
  rw [← ziF]
  simp only [gd]
theorem zh8 : Region.ready md ops l = ziE (zgD md ops).2 l.toList := by
 unfold Region.ready ziE
 rw [zdX]
 refine List.filter_congr (fun i _ => ?_)
 rw [zk7]
theorem zma : Region.free md ops l i = zl8 (zgD md ops).2 l.toList i := by
 unfold Region.free zl8
 cases h : ops[i]? with
 | none => rw [zfb h]
 | some oi =>
  rw [zfa h]
  simp only [zjD]
  rw [List.all_filter]
  congr 1
  funext j
  rw [gd]
  cases hj : ops[j]? with
  | none => cases (j == i) <;> cases (l.toList.getD j true) <;> simp
  | some oj =>
   cases (j == i) <;> cases (l.toList.getD j true) <;> cases (oj.after.any (fun e => Region.binds md e && e.on == i) || oi.apart ops oj) <;> simp_all
theorem zmb : Region.zgz md ops l = zh7 (zgD md ops).2 l.toList := by
 unfold Region.zgz zh7
 rw [zdX]
 congr 1
 funext j
 rw [gd]
 cases h : ops[j]? with
 | none => rw [zfb h]
 | some o =>
  rw [zfa h]
  simp only
  rw [← ziF]
  simp only [gd]
theorem zkr : ∀ (fuel d : Nat), Region.zd9 md ops i fuel d = zhs (zgD md ops).2 i fuel d
 | 0, _ => rfl
 | fuel + 1, d => by
  unfold Region.zd9 zhs
  cases h : ops[d]? with
  | none => rw [zfb h]
  | some o =>
   rw [zfa h]
   simp only
   rw [← zl9]
   congr 1
   funext e
   rw [zkr fuel]
theorem zpe : Region.zns md ops l ds i = znw (zgD md ops).2 l.toList ds i := by
 unfold Region.zns znw
 rw [zdX]
 congr 1
 funext d
 rw [gd, zkr]
theorem zgE (h : zem T.2 l.toList i = true) (hT : zgD md ops = T) : (Region.ready md ops l).contains i = true := by
 subst hT
 rw [zh8]
 unfold ziE
 rw [List.contains_iff_mem, List.mem_filter, List.mem_range]
 refine ⟨?_, h⟩
 unfold zem at h
 rw [Bool.and_eq_true] at h
 cases hq : (zgD md ops).2[i]? with
 | none => rw [hq] at h; simp at h
 | some r => exact (List.getElem?_eq_some_iff.1 hq).1
theorem zmc (h : (l.toList.set i true == l'.toList) = true) : (l.setIfInBounds i true == l') = true := by
 rw [beq_iff_eq] at h ⊢
 apply Array.ext'
 rw [Array.toList_setIfInBounds]
 exact h
def zq7 (T : Bool × List (List Nat × List Nat)) (l l' : List Bool) (i : Nat) : Bool := T.1 && zl8 T.2 l i && zem T.2 l i && (l.set i true == l')
theorem zb8 (hT : zgD md ops = T) (h : zq7 T l.toList l'.toList i = true) : zqD md ops l l' i = true := by
 simp only [zq7, Bool.and_eq_true] at h
 obtain ⟨⟨⟨h1, h2⟩, h3⟩, h4⟩ := h
 have h5 := zgE h3 hT
 have h6 := zmc h4
 subst hT
 simp only [zqD, Bool.and_eq_true]
 exact ⟨⟨⟨h1, by rw [zma]; exact h2⟩, h5⟩, h6⟩
def zpf (T : Bool × List (List Nat × List Nat)) (ds : List Nat) (l l' : List Bool) (i : Nat) : Bool := T.1 && zl8 T.2 l i && zem T.2 l i && zh7 T.2 l && znw T.2 l ds i && (l.set i true == l')
theorem zpg (hT : zgD md ops = T) (h : zpf T ds l.toList l'.toList i = true) : takeB md ops ds l l' i = true := by
 simp only [zpf, Bool.and_eq_true] at h
 obtain ⟨⟨⟨⟨⟨h1, h2⟩, h3⟩, h4⟩, h5⟩, h6⟩ := h
 have h7 := zgE h3 hT
 have h8 := zmc h6
 subst hT
 simp only [takeB, Bool.and_eq_true]
 exact ⟨⟨⟨⟨⟨h1, by rw [zma]; exact h2⟩, h7⟩, by rw [zmb]; exact h4⟩, by rw [zpe]; exact h5⟩, h8⟩
theorem zfc (hT : zgD md ops = T) (h : (ziE T.2 l.toList == [i] && l.toList.set i true == l'.toList) = true) : zkq md ops l l' i = true := by
 simp only [Bool.and_eq_true] at h
 obtain ⟨h1, h2⟩ := h
 subst hT
 simp only [zkq, Bool.and_eq_true]
 exact ⟨by rw [zh8]; exact h1, zmc h2⟩
theorem zjE (hT : zgD md ops = T) (h : (ziE T.2 l.toList == []) = true) : (Region.ready md ops l == []) = true := by
 subst hT
 rw [zh8]
 exact h
def upM (B : List Nat) (d : Nat) : List Nat → Nat
 | [] => 0
 | n :: r => (2 ^ n ||| (if n < d then B.getD n 0 else 0)) ||| upM B d r
def zeQ (T : List (List Nat × List Nat)) (B : List Nat) : Bool := (List.range T.length).all fun d => match T[d]? with
 | some r => (B.getD d 0 ||| upM B d r.1) == upM B d r.1
 | none => false
theorem zmd {B : List Nat} {d i : Nat} : ∀ {ns : List Nat}, (upM B d ns).testBit i = true → ∃ n ∈ ns, n = i ∨ (n < d ∧ (B.getD n 0).testBit i = true)
 | [], h => by simp [upM] at h
 | n :: r, h => by
  unfold upM at h
  rw [Nat.testBit_or, Nat.testBit_or, Bool.or_eq_true, Bool.or_eq_true] at h
  rcases h with (h | h) | h
  ·rw [Nat.testBit_two_pow] at h
   exact ⟨n, List.mem_cons_self, .inl (by simpa using h)⟩
  ·by_cases hn : n < d
   ·rw [if_pos hn] at h
    exact ⟨n, List.mem_cons_self, .inr ⟨hn, h⟩⟩
   ·rw [if_neg hn] at h
    simp at h
  ·obtain ⟨m, hm, h2⟩ := zmd h
   exact ⟨m, List.mem_cons_of_mem _ hm, h2⟩
theorem ziG {T : List (List Nat × List Nat)} {B : List Nat} (hB : zeQ T B = true) : ∀ (fuel d : Nat), d < fuel → d < T.length → (B.getD d 0).testBit i = true → zhs T i fuel d = true
 | 0, d, h, _, _ => by omega
 | fuel + 1, d, h, hd, hb => by
  have h1 := List.all_eq_true.1 hB d (List.mem_range.2 hd)
  cases hr : T[d]? with
  | none => rw [hr] at h1; simp at h1
  | some r =>
   rw [hr] at h1
   simp only [beq_iff_eq] at h1
   have h2 : (upM B d r.1).testBit i = true := by rw [← h1, Nat.testBit_or, hb, Bool.true_or]
   obtain ⟨n, hn, h3⟩ := zmd h2
   unfold zhs
   rw [hr]
   simp only
   rw [List.any_eq_true]
   refine ⟨n, hn, ?_⟩
   rcases h3 with rfl | ⟨h4, h5⟩
   ·simp
   ·rw [ziG hB fuel n (by omega) (by omega) h5, Bool.or_true]
def zqc (T : List (List Nat × List Nat)) (B : List Nat) (l : List Bool) (ds : List Nat) (i : Nat) : Bool := ds.all fun d => l.getD d true || (decide (d < T.length) && (B.getD d 0).testBit i)
def zcX (T : Bool × List (List Nat × List Nat)) (B : List Nat) (ds : List Nat) (l l' : List Bool) (i : Nat) : Bool := T.1 && zl8 T.2 l i && zem T.2 l i && zh7 T.2 l && zqc T.2 B l ds i && (l.set i true == l')
theorem zeA {B : List Nat} (hT : zgD md ops = T) (hB : zeQ T.2 B = true) (h : zcX T B ds l.toList l'.toList i = true) : takeB md ops ds l l' i = true := by
 refine zpg hT ?_
 simp only [zcX, zpf, Bool.and_eq_true] at h ⊢
 obtain ⟨⟨⟨⟨⟨h1, h2⟩, h3⟩, h4⟩, h5⟩, h6⟩ := h
 refine ⟨⟨⟨⟨⟨h1, h2⟩, h3⟩, h4⟩, ?_⟩, h6⟩
 unfold zqc at h5
 unfold znw
 rw [List.all_eq_true] at h5 ⊢
 intro d hd
 have h7 := h5 d hd
 rw [Bool.or_eq_true, Bool.and_eq_true, decide_eq_true_eq] at h7
 rcases h7 with h7 | ⟨h8, h9⟩
 ·rw [h7, Bool.true_or]
 ·rw [ziG hB _ d h8 h8 h9, Bool.or_true]
theorem zgF {P : Program} {Q : Exit → Act → World → Prop} {S : World → Prop} {n : Nat} {a : Act} {w : World} {B : List Nat} (hT : zgD md ops = T) (hB : zeQ T.2 B = true) (h : zaa (zgD md ops = T) → zaa (zeQ T.2 B = true) → za8 P md ops Q S ds n l a w) : za8 P md ops Q S ds n l a w := h ⟨hT⟩ ⟨hB⟩
end
def zha : Code → Nat → Option (Array Oper)
 | .region id ops _, k => if id == k then some ops else none
 | .seq a b, k => match zha a k with
  | some o => some o
  | none => zha b k
 | .cond _ a b, k => match zha a k with
  | some o => some o
  | none => zha b k
 | .block _ c, k => zha c k
 | .loop c, k => zha c k
 | .scope c, k => zha c k
 | .rangeFunc _ _ a b, k => match zha a k with
  | some o => some o
  | none => zha b k
 | _, _ => none
def opsOf (f : Func) (k : Nat) : Array Oper := ((f.body.bind fun c => zha c k)).getD #[]
end Go.Proofs.YtioofhilohmfbaaGreatDoorW.PrintLast
end
section
namespace Go.Proofs.YtioofhilohmfbaaGreatDoorW.PrintLast
section
variable {P : Program} {ops : Array Oper} {Q : Exit → Act → World → Prop} {md : Region.Mode} {S : World → Prop} {ds : List Nat} {T : Bool × List (List Nat × List Nat)}
end
end Go.Proofs.YtioofhilohmfbaaGreatDoorW.PrintLast
end
section
open Go.RowKit
namespace Go.Proofs.YtioofhilohmfbaaGreatDoorW.PrintWords
namespace Kd
section
variable {α : Type} {d : Kd α} {W : World} {g n : Nat} {S ok : Nat → Prop} {A : Option Addr} {ad : Addr} {xs : List α}
end
end Kd
end Go.Proofs.YtioofhilohmfbaaGreatDoorW.PrintWords
end
section
open Go.RowKit
namespace Go.Proofs.YtioofhilohmfbaaGreatDoorW.PrintWords
section
variable {w w' u : World} {m B g : Nat} {o : Obj} {row : Option Nat} {S : Nat → Prop} {a : Addr} {v : Value}
theorem znx (hq : w.drewN m = w') (h : Below B u w) : Below B u w' := by subst hq; exact zao h m
end
namespace Kd
section
variable {α : Type} {d : Kd α} {e base n m : Nat} {ok : Nat → Prop} {w w' : World} {v : Value} {A : Option Addr} {xs : List α}
theorem zqU (hq : w.drewN m = w') (h : d.R e w base ok v xs) : d.R e w' base ok v xs := by subst hq; exact zaR h m
theorem zrj (hq : w.drewN m = w') (h : d.C w A n xs) : d.C w' A n xs := by subst hq; exact zdq h m
end
end Kd
end Go.Proofs.YtioofhilohmfbaaGreatDoorW.PrintWords
end
section
open Go.RowKit
namespace Go.Proofs.YtioofhilohmfbaaGreatDoorW.PrintWords
section
variable {P : Program} {d : Nat} {xs ys : Array Value} {f : Field} {fs : List Field} {a b : Value} {r s : Bool} {w : World}
end
end Go.Proofs.YtioofhilohmfbaaGreatDoorW.PrintWords
end
section
namespace Go.Proofs.YtioofhilohmfbaaGreatDoorW.PrintWords
theorem zb5.one {α : Type} {R : α → List Value → Prop} {ps : List α} {cs : List Value} {p : α} {v : Value} (hp : R p [v]) (h : zb5 R 1 ps cs) : zb5 R 1 (p :: ps) (v :: cs) := by
 refine ⟨by simp [h.1], fun j q hq => ?_⟩
 cases j with
 | zero =>
  simp only [List.getElem?_cons_zero, Option.some.injEq] at hq
  subst hq
  simpa using hp
 | succ j =>
  simp only [List.getElem?_cons_succ] at hq
  have h1 := h.2 j q hq
  simpa [Nat.mul_one] using h1
theorem zb5.front {α : Type} {R : α → List Value → Prop} {size : Nat} {ps : List α} {cs c all : List Value} {p : α} (hp : R p c) (hc : c.length = size) (h : zb5 R size ps cs) (ha : c ++ cs = all) : zb5 R size (p :: ps) all := by
 subst ha
 refine ⟨by rw [List.length_append, hc, h.1, List.length_cons, Nat.succ_mul, Nat.add_comm], fun j q hq => ?_⟩
 cases j with
 | zero =>
  simp only [List.getElem?_cons_zero, Option.some.injEq] at hq
  subst hq
  rw [Nat.zero_mul, List.drop_zero, List.take_append_of_le_length (by omega), List.take_of_length_le (by omega)]
  exact hp
 | succ j =>
  simp only [List.getElem?_cons_succ] at hq
  have h1 := h.2 j q hq
  rw [Nat.succ_mul, List.drop_append, List.drop_of_length_le (by rw [hc]; exact Nat.le_add_left _ _), List.nil_append, hc, Nat.add_sub_cancel]
  exact h1
theorem zb5.c2 {α : Type} {R : α → List Value → Prop} {ps : List α} {cs : List Value} {p : α} {va vb : Value} (hp : R p [va, vb]) (h : zb5 R 2 ps cs) : zb5 R 2 (p :: ps) (va :: vb :: cs) := zb5.front hp rfl h rfl
theorem zb5.c3 {α : Type} {R : α → List Value → Prop} {ps : List α} {cs : List Value} {p : α} {va vb vc : Value} (hp : R p [va, vb, vc]) (h : zb5 R 3 ps cs) : zb5 R 3 (p :: ps) (va :: vb :: vc :: cs) := zb5.front hp rfl h rfl
theorem zb5.c4 {α : Type} {R : α → List Value → Prop} {ps : List α} {cs : List Value} {p : α} {va vb vc vd : Value} (hp : R p [va, vb, vc, vd]) (h : zb5 R 4 ps cs) : zb5 R 4 (p :: ps) (va :: vb :: vc :: vd :: cs) := zb5.front hp rfl h rfl
theorem zb5.c5 {α : Type} {R : α → List Value → Prop} {ps : List α} {cs : List Value} {p : α} {va vb vc vd ve : Value} (hp : R p [va, vb, vc, vd, ve]) (h : zb5 R 5 ps cs) : zb5 R 5 (p :: ps) (va :: vb :: vc :: vd :: ve :: cs) := zb5.front hp rfl h rfl
theorem zb5.c6 {α : Type} {R : α → List Value → Prop} {ps : List α} {cs : List Value} {p : α} {va vb vc vd ve vf : Value} (hp : R p [va, vb, vc, vd, ve, vf]) (h : zb5 R 6 ps cs) : zb5 R 6 (p :: ps) (va :: vb :: vc :: vd :: ve :: vf :: cs) := zb5.front hp rfl h rfl
theorem zb5.c7 {α : Type} {R : α → List Value → Prop} {ps : List α} {cs : List Value} {p : α} {va vb vc vd ve vf vg : Value} (hp : R p [va, vb, vc, vd, ve, vf, vg]) (h : zb5 R 7 ps cs) : zb5 R 7 (p :: ps) (va :: vb :: vc :: vd :: ve :: vf :: vg :: cs) := zb5.front hp rfl h rfl
theorem zb5.c8 {α : Type} {R : α → List Value → Prop} {ps : List α} {cs : List Value} {p : α} {va vb vc vd ve vf vg vh : Value} (hp : R p [va, vb, vc, vd, ve, vf, vg, vh]) (h : zb5 R 8 ps cs) : zb5 R 8 (p :: ps) (va :: vb :: vc :: vd :: ve :: vf :: vg :: vh :: cs) := zb5.front hp rfl h rfl
theorem zb5.c9 {α : Type} {R : α → List Value → Prop} {ps : List α} {cs : List Value} {p : α} {va vb vc vd ve vf vg vh vi : Value} (hp : R p [va, vb, vc, vd, ve, vf, vg, vh, vi]) (h : zb5 R 9 ps cs) : zb5 R 9 (p :: ps) (va :: vb :: vc :: vd :: ve :: vf :: vg :: vh :: vi :: cs) := zb5.front hp rfl h rfl
theorem zb5.c10 {α : Type} {R : α → List Value → Prop} {ps : List α} {cs : List Value} {p : α} {va vb vc vd ve vf vg vh vi vj : Value} (hp : R p [va, vb, vc, vd, ve, vf, vg, vh, vi, vj]) (h : zb5 R 10 ps cs) : zb5 R 10 (p :: ps) (va :: vb :: vc :: vd :: ve :: vf :: vg :: vh :: vi :: vj :: cs) := zb5.front hp rfl h rfl
end Go.Proofs.YtioofhilohmfbaaGreatDoorW.PrintWords
end
section
namespace Go.Proofs.YtioofhilohmfbaaGreatDoorW.PrintLast
def up (b : Nat → Bool) (i : Nat) : Nat → Bool := fun j => if j = i then true else b j
section
variable {P : Program} {ops : Array Oper} {Q : Exit → Act → World → Prop} {md : Region.Mode} {T : Bool × List (List Nat × List Nat)} {B : List Nat} {O : List Nat} {b : Nat → Bool} {i j n : Nat}
theorem put_comm {a : Act} {s t : Tmp} {u v : Value} (h : s ≠ t) : (a.put (some s) u).put (some t) v = (a.put (some t) v).put (some s) u := by
 simp only [Act.put]
 rw [Array.setIfInBounds_comm _ _ h]
end
end Go.Proofs.YtioofhilohmfbaaGreatDoorW.PrintLast
end
section
open Go.RowKit
namespace Go.Proofs.YtioofhilohmfbaaGreatDoorW.PrintWords
end Go.Proofs.YtioofhilohmfbaaGreatDoorW.PrintWords
namespace Go.Proofs.YtioofhilohmfbaaGreatDoorW.PrintLast
section
variable {ops : Array Oper} {a : Act} {o og : Oper} {g : Nat} {t : Tmp} {u : Bool}
end
end Go.Proofs.YtioofhilohmfbaaGreatDoorW.PrintLast
end

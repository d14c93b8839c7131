/- The walks of the reference's functions: what each computes, and that it answers so. No condition beyond each one's own. -/
import Derived.Lib.DecodeN
import Derived.Shelf.Unicode.DecodeSlow
import Derived.Test.YtnmofpefofkoeaaGreatDoorUnquote
import Derived.Lib.MapLaws
import Derived.RangeFuncWrites
import Derived.RangeFuncNested
import Derived.RegionIn
import Derived.TacticsIn
import Derived.Test.YtnmofpefofkoeaaGreatDoorG
import Derived.Test.YtnmofpefofkoeaaGreatDoorF0
import Derived.RangeFuncBound
import Derived.RangeFuncCalls
import Derived.RangeFuncLeaves
import Derived.Shelf.Abstract
import Derived.WalkKit
import Derived.OwnWalkIn
import Derived.TacticsInMore
import Derived.LoopNIn
import Derived.LoopIn
import Derived.WalkSpells
import Derived.RangeFuncBox
import Derived.Maps.AppendAt
import Derived.Test.YtnmofpefofkoeaaGreatDoorBuilder
import Derived.Stop.RegionWithIn
import Derived.Lib.TrimAscii
namespace Go.Proofs.YtnmofpefofkoeaaGreatDoor
open Go

/-- The first rune and its width. -/
def pieces : Nat → ByteArray → List (Int × ByteArray)
  | 0, _ => []
  | k + 1, s => if s.size = 0 then [] else (((Lib.decodeGo s).1 : Int), s.extract 0 (Lib.decodeGo s).2) :: pieces k (s.extract (Lib.decodeGo s).2 s.size)

theorem decodeN_bounds (n b0 b1 b2 b3 : Nat) (hn : 1 ≤ n) (h0 : b0 < 256) : 1 ≤ (Lib.decodeN n b0 b1 b2 b3).2 ∧ (Lib.decodeN n b0 b1 b2 b3).2 ≤ n ∧ (Lib.decodeN n b0 b1 b2 b3).2 ≤ 4 ∧ (Lib.decodeN n b0 b1 b2 b3).1 ≤ 1114111 := by
  unfold Lib.decodeN
  repeat' split
  all_goals (simp only; omega)

theorem decodeGo_eq (s : ByteArray) (h : s.size ≠ 0) : Lib.decodeGo s = Lib.decodeN s.size (s.get! 0).toNat (s.get! 1).toNat (s.get! 2).toNat (s.get! 3).toNat := by
  unfold Lib.decodeGo
  rw [if_neg h, Lib.decode_at]
  rfl

theorem decodeGo_bounds (s : ByteArray) (h : s.size ≠ 0) : 1 ≤ (Lib.decodeGo s).2 ∧ (Lib.decodeGo s).2 ≤ s.size ∧ (Lib.decodeGo s).2 ≤ 4 ∧ (Lib.decodeGo s).1 ≤ 1114111 := by
  rw [decodeGo_eq s h]
  exact decodeN_bounds _ _ _ _ _ (by omega) (by simpa using (s.get! 0).toNat_lt)

theorem extract_size (s : ByteArray) (a b : Nat) : (s.extract a b).size = min b s.size - a := by simp

/-- A piece has one to four bytes, and a rune's number. -/
def PieceOk (x : Int × ByteArray) : Prop := 0 < x.2.size ∧ x.2.size ≤ 4 ∧ 0 ≤ x.1 ∧ x.1 ≤ 1114111

theorem pieces_ok : ∀ (k : Nat) (s : ByteArray), ∀ x ∈ pieces k s, PieceOk x
  | 0, _, x, h => by simp [pieces] at h
  | k + 1, s, x, h => by
    unfold pieces at h
    split at h
    · simp at h
    · rename_i hs
      have hb := decodeGo_bounds s hs
      rcases List.mem_cons.1 h with rfl | h
      · unfold PieceOk
        simp only [extract_size]
        omega
      · exact pieces_ok k _ x h

theorem pieces_nil (k : Nat) (s : ByteArray) (h : s.size = 0) : pieces k s = [] := by
  cases k with
  | zero => rfl
  | succ k => simp [pieces, h]

theorem pieces_cons (k : Nat) (s : ByteArray) (h : s.size ≠ 0) : pieces (k + 1) s = (((Lib.decodeGo s).1 : Int), s.extract 0 (Lib.decodeGo s).2) :: pieces k (s.extract (Lib.decodeGo s).2 s.size) := by
  simp [pieces, h]

/-- More rounds than bytes change nothing. -/
theorem pieces_mono : ∀ (k m : Nat) (s : ByteArray), s.size ≤ k → s.size ≤ m → pieces k s = pieces m s
  | 0, m, s, h, _ => by rw [pieces_nil 0 s (by omega), pieces_nil m s (by omega)]
  | k + 1, m, s, h, h2 => by
    by_cases hs : s.size = 0
    · rw [pieces_nil _ s hs, pieces_nil _ s hs]
    · cases m with
      | zero => omega
      | succ m =>
        have hb := decodeGo_bounds s hs
        rw [pieces_cons k s hs, pieces_cons m s hs, pieces_mono k m _ (by rw [extract_size]; omega) (by rw [extract_size]; omega)]

theorem pieces_length : ∀ (k : Nat) (s : ByteArray), (pieces k s).length ≤ s.size
  | 0, _ => by simp [pieces]
  | k + 1, s => by
    by_cases hs : s.size = 0
    · rw [pieces_nil _ s hs]; simp
    · have hb := decodeGo_bounds s hs
      rw [pieces_cons k s hs]
      have := pieces_length k (s.extract (Lib.decodeGo s).2 s.size)
      rw [extract_size] at this
      simp
      omega

/-- All of a text's. -/
def piecesOf (s : ByteArray) : List (Int × ByteArray) := pieces s.size s

theorem piecesOf_nil (s : ByteArray) (h : s.size = 0) : piecesOf s = [] := pieces_nil _ s h
theorem piecesOf_cons (s : ByteArray) (h : s.size ≠ 0) : piecesOf s = (((Lib.decodeGo s).1 : Int), s.extract 0 (Lib.decodeGo s).2) :: piecesOf (s.extract (Lib.decodeGo s).2 s.size) := by
  have hb := decodeGo_bounds s h
  unfold piecesOf
  obtain ⟨m, hm⟩ : ∃ m, s.size = m + 1 := ⟨s.size - 1, by omega⟩
  rw [hm, pieces_cons m s h, ← hm]
  rw [pieces_mono m _ _ (by rw [extract_size]; omega) (Nat.le_refl _)]
theorem piecesOf_ok (s : ByteArray) : ∀ x ∈ piecesOf s, PieceOk x := pieces_ok _ s
theorem piecesOf_length (s : ByteArray) : (piecesOf s).length ≤ s.size := pieces_length _ s

end Go.Proofs.YtnmofpefofkoeaaGreatDoor
set_option linter.unusedVariables false
namespace Go.Proofs.YtnmofpefofkoeaaGreatDoor
open Go Go.Proofs.YtnmofpefofkoeaaGreatDoorW.PrintWords

theorem ba_ext {s t : ByteArray} (h : s.data.toList = t.data.toList) : s = t := by
  cases s with | mk a => cases t with | mk b => cases a with | mk l => cases b with | mk m => simp only at h; rw [h]
theorem ba_len (s : ByteArray) : s.data.toList.length = s.size := (Lib.size_eq s).symm
theorem ba_extract (s : ByteArray) (a b : Nat) : (s.extract a b).data.toList = (s.data.toList.take b).drop a := by
  rw [ByteArray.data_extract, Array.toList_extract, List.extract_eq_take_drop, List.drop_take]

def escL : List UInt8 → Option (List UInt8 × List UInt8)
  | [] => none
  | c :: t => match escOf c.toNat with
    | some b => some ([UInt8.ofNat b], t)
    | none => match codOf c.toNat with
      | none => none
      | some n => if t.length < n then none else
        if allHex (t.take n) then
          if n = 2 then some ([UInt8.ofNat (hexVal (t.take n))], t.drop n)
          else if validN (hexVal (t.take n)) then some (Lib.encodeRune (hexVal (t.take n) : Nat), t.drop n) else none
        else none
def ofL (x : List UInt8 × List UInt8) : ByteArray × ByteArray := (⟨x.1.toArray⟩, ⟨x.2.toArray⟩)

theorem escapeP_list (l : List UInt8) : escapeP ⟨l.toArray⟩ = (escL l).map ofL := by
  have hsz : (⟨l.toArray⟩ : ByteArray).size = l.length := rfl
  cases l with
  | nil => rfl
  | cons c t =>
    unfold escapeP
    rw [if_neg (by rw [hsz]; simp)]
    have hg : ((⟨(c :: t).toArray⟩ : ByteArray).data.toList.getD 0 0) = c := rfl
    rw [hg, escL]
    cases escOf c.toNat with
    | some b =>
      simp only [Option.map_some, ofL]
      congr 2
      refine ba_ext ?_
      rw [ba_extract, hsz]; simp
    | none =>
      simp only
      cases codOf c.toNat with
      | none => rfl
      | some n =>
        simp only
        have e1 : ((⟨(c :: t).toArray⟩ : ByteArray).extract 1 (1 + n)).data.toList = t.take n := by
          rw [ba_extract, Nat.add_comm]; simp
        have e2 : (⟨(c :: t).toArray⟩ : ByteArray).extract (1 + n) (⟨(c :: t).toArray⟩ : ByteArray).size = ⟨(t.drop n).toArray⟩ := by
          refine ba_ext ?_
          rw [ba_extract, hsz, Nat.add_comm]; simp
        rw [e1, e2, hsz, List.length_cons]
        by_cases h : t.length < n
        · rw [if_pos (by omega), if_pos h]; rfl
        · rw [if_neg (by omega), if_neg h]
          split
          · split
            · rfl
            · split <;> rfl
          · rfl

theorem escL_len {t u r : List UInt8} (h : escL t = some (u, r)) : r.length < t.length := by
  unfold escL at h
  split at h
  · cases h
  · split at h
    · cases h; simp
    · split at h
      · cases h
      · split at h
        · cases h
        · rename_i c t' _ _ _ n _ _
          split at h
          · split at h
            · cases h; simp [List.length_drop]; omega
            · split at h
              · cases h; simp [List.length_drop]; omega
              · cases h
          · cases h

def markOf (dq : Bool) : Nat := if dq = true then 34 else 96
def unqL (dq : Bool) : Nat → List UInt8 → List UInt8 → Option (List UInt8)
  | 0, _, _ => none
  | _ + 1, [], acc => some acc
  | k + 1, c :: t, acc => if c.toNat = markOf dq ∨ dq = true ∧ c.toNat = 10 then none
    else if dq = true ∧ c.toNat = 92 then
      match escL t with
      | none => none
      | some x => unqL dq k x.2 (acc ++ x.1)
    else unqL dq k t (acc ++ [c])

theorem unqLoop_list (dq : Bool) : ∀ (k : Nat) (l acc : List UInt8), unqLoop dq k ⟨l.toArray⟩ acc = unqL dq k l acc
  | 0, _, _ => by simp [unqLoop, unqL]
  | k + 1, [], acc => by
    rw [unqLoop, unqL, if_pos (show (⟨([] : List UInt8).toArray⟩ : ByteArray).size = 0 from rfl)]
  | k + 1, c :: t, acc => by
    have hsz : (⟨(c :: t).toArray⟩ : ByteArray).size = t.length + 1 := rfl
    have e1 : (⟨(c :: t).toArray⟩ : ByteArray).extract 1 (⟨(c :: t).toArray⟩ : ByteArray).size = ⟨t.toArray⟩ := by
      refine ba_ext ?_
      rw [ba_extract, hsz]; simp
    have hg : ((⟨(c :: t).toArray⟩ : ByteArray).data.toList.getD 0 0) = c := rfl
    have hm : ((c.toNat : Int) = if dq = true then 34 else 96) ↔ c.toNat = markOf dq := by
      unfold markOf; cases dq <;> simp <;> omega
    rw [unqLoop, unqL, if_neg (by rw [hsz]; omega), e1, hg]
    by_cases h1 : c.toNat = markOf dq ∨ dq = true ∧ c.toNat = 10
    · rw [if_pos h1, if_pos (by rcases h1 with h | h; exact Or.inl (hm.2 h); exact Or.inr h)]
    · rw [if_neg h1, if_neg (by intro h; exact h1 (by rcases h with h | h; exact Or.inl (hm.1 h); exact Or.inr h))]
      by_cases h2 : dq = true ∧ c.toNat = 92
      · rw [if_pos h2, if_pos h2, escapeP_list]
        cases hE : escL t with
        | none => rfl
        | some x =>
          simp only [Option.map_some, ofL]
          exact unqLoop_list dq k x.2 _
      · rw [if_neg h2, if_neg h2]
        exact unqLoop_list dq k t _

/-- More rounds than bytes change nothing. -/
theorem unqL_mono (dq : Bool) : ∀ (k m : Nat) (l acc : List UInt8), l.length < k → l.length < m → unqL dq k l acc = unqL dq m l acc
  | 0, _, _, _, h, _ => absurd h (by omega)
  | k + 1, 0, _, _, _, h => absurd h (by omega)
  | k + 1, m + 1, [], acc, _, _ => by rw [unqL, unqL]
  | k + 1, m + 1, c :: t, acc, h, h' => by
    rw [List.length_cons] at h h'
    rw [unqL, unqL]
    split
    · rfl
    · split
      · cases hE : escL t with
        | none => rfl
        | some x =>
          have := escL_len (u := x.1) (r := x.2) hE
          exact unqL_mono dq k m x.2 _ (by omega) (by omega)
      · exact unqL_mono dq k m t _ (by omega) (by omega)

def unq (dq : Bool) (l acc : List UInt8) : Option (List UInt8) := unqL dq (l.length + 1) l acc
theorem unq_nil (dq : Bool) (acc : List UInt8) : unq dq [] acc = some acc := by unfold unq; rw [List.length_nil, unqL]
theorem unq_cons (dq : Bool) (c : UInt8) (t acc : List UInt8) : unq dq (c :: t) acc = if c.toNat = markOf dq ∨ dq = true ∧ c.toNat = 10 then none
    else if dq = true ∧ c.toNat = 92 then
      match escL t with
      | none => none
      | some x => unq dq x.2 (acc ++ x.1)
    else unq dq t (acc ++ [c]) := by
  unfold unq
  rw [List.length_cons, unqL]
  split
  · rfl
  · split
    · cases hE : escL t with
      | none => rfl
      | some x =>
        have := escL_len (u := x.1) (r := x.2) hE
        exact unqL_mono dq _ _ x.2 _ (by omega) (by omega)
    · rfl

theorem bt_zero (q : UInt8) (m : List UInt8) : bt ⟨(q :: m).toArray⟩ 0 = q.toNat := by
  have h : (0 : Int).toNat < (⟨(q :: m).toArray⟩ : ByteArray).size := by show 0 < m.length + 1; omega
  rw [← bt_at _ 0 h]; rfl
theorem bt_last (q e : UInt8) (m : List UInt8) : bt ⟨(q :: (m ++ [e])).toArray⟩ (((⟨(q :: (m ++ [e])).toArray⟩ : ByteArray).size : Int) - 1) = e.toNat := by
  have hs : (⟨(q :: (m ++ [e])).toArray⟩ : ByteArray).size = m.length + 2 := by show (q :: (m ++ [e])).length = _; simp
  have hn : (((⟨(q :: (m ++ [e])).toArray⟩ : ByteArray).size : Int) - 1).toNat = m.length + 1 := by rw [hs]; omega
  have h : (((⟨(q :: (m ++ [e])).toArray⟩ : ByteArray).size : Int) - 1).toNat < (⟨(q :: (m ++ [e])).toArray⟩ : ByteArray).size := by rw [hn, hs]; omega
  rw [← bt_at _ _ h]
  have : (⟨(q :: (m ++ [e])).toArray⟩ : ByteArray)[(((⟨(q :: (m ++ [e])).toArray⟩ : ByteArray).size : Int) - 1).toNat]'h = e := by
    have h2 : m.length + 1 < (⟨(q :: (m ++ [e])).toArray⟩ : ByteArray).size := by rw [hs]; omega
    have : ∀ (k : Nat) (hk : k < (⟨(q :: (m ++ [e])).toArray⟩ : ByteArray).size), k = m.length + 1 → (⟨(q :: (m ++ [e])).toArray⟩ : ByteArray)[k]'hk = e := by
      intro k hk hk2
      subst hk2
      show (q :: (m ++ [e]))[m.length + 1]'(by simp) = e
      simp
    exact this _ h hn
  rw [this]

theorem unquoteP_short (l : List UInt8) (h : l.length < 2) : unquoteP ⟨l.toArray⟩ = none := by
  unfold unquoteP
  rw [if_pos (show (⟨l.toArray⟩ : ByteArray).size < 2 from h)]
theorem unquoteP_mk (q e : UInt8) (m : List UInt8) : unquoteP ⟨(q :: (m ++ [e])).toArray⟩ =
    if q = e then if q = 34 then unq true m [] else if q = 96 then unq false m [] else none else none := by
  have hs : (⟨(q :: (m ++ [e])).toArray⟩ : ByteArray).size = m.length + 2 := by show (q :: (m ++ [e])).length = _; simp
  have hx : (⟨(q :: (m ++ [e])).toArray⟩ : ByteArray).extract 1 ((⟨(q :: (m ++ [e])).toArray⟩ : ByteArray).size - 1) = ⟨m.toArray⟩ := by
    refine ba_ext ?_
    rw [ba_extract, hs]
    simp
  have hq : ∀ n : Nat, n < 256 → (((q.toNat : Int) = n) ↔ q = UInt8.ofNat n) := fun n hn => by
    constructor
    · intro h
      have : q.toNat = n := by omega
      rw [← this]; simp
    · intro h; rw [h]; simp; omega
  unfold unquoteP
  rw [if_neg (by rw [hs]; omega), bt_zero, bt_last, hx, unqLoop_list, unqLoop_list]
  have hqe : ((q.toNat : Int) = e.toNat) ↔ q = e := by
    constructor
    · intro h; exact UInt8.toNat_inj.1 (by omega)
    · intro h; rw [h]
  have hm : ∀ dq, unqL dq (⟨(q :: (m ++ [e])).toArray⟩ : ByteArray).size m [] = unq dq m [] := fun dq => unqL_mono dq _ _ m [] (by rw [hs]; omega) (by omega)
  rw [hm, hm]
  have h34 : ((q.toNat : Int) = 34) ↔ q = 34 := hq 34 (by omega)
  have h96 : ((q.toNat : Int) = 96) ↔ q = 96 := hq 96 (by omega)
  by_cases c1 : q = e
  · rw [if_pos (hqe.2 c1), if_pos c1]
    by_cases c2 : q = 34
    · rw [if_pos (h34.2 c2), if_pos c2]
    · rw [if_neg (fun h => c2 (h34.1 h)), if_neg c2]
      by_cases c3 : q = 96
      · rw [if_pos (h96.2 c3), if_pos c3]
      · rw [if_neg (fun h => c3 (h96.1 h)), if_neg c3]
  · rw [if_neg (fun h => c1 (hqe.1 h)), if_neg c1]
end Go.Proofs.YtnmofpefofkoeaaGreatDoor
namespace Go.Proofs.YtnmofpefofkoeaaGreatDoor
open Go Go.RowKit
variable {F : Fence} {n : Nat} {P : Program}

/-- The iterator's contract: over whatever the caller keeps (J) that abides St. -/
def SeqSteps {α : Type} (F : Fence) (n : Nat) (P : Program) (g : Nat) (lb : Array Value) (encs : α → Array Value) (Kp St : World → World → Prop) (S Sp : List α → Prop) (Al : List α → α → Prop) (w : World) : Prop :=
  ∀ (l : Nat) (J Jx : List α → World → Prop) (W : World), Below w.heap.size w W → (∀ s A B, J s A → St A B → J s B) → (∀ s A B, Jx s A → St A B → Jx s B) →
    (∀ pre x W1, J pre W1 → Al pre x → YieldAt F (n - 1) P l (encs x) W1 fun e W' =>
      (e = .returned (.bool true) ∧ J (pre ++ [x]) W' ∧ Kp W1 W') ∨ (e = .returned (.bool false) ∧ Jx (pre ++ [x]) W')) →
    J [] W →
    CallsIn F n P g (#[.func (.yield l) #[] #[]] ++ lb) W fun e W' => (∃ v, e = .returned v) ∧ ((∃ xs, S xs ∧ J xs W') ∨ (∃ pre, Sp pre ∧ Jx pre W'))

theorem wpIn_rangeSteps {α : Type} {g : Operand} {ps : Array Tmp} {assign body : Code} {Q : Exit → Act → World → Prop} {a : Act} {w : World}
    (hro : F.round = none) (h1 : 1 ≤ n) {gf : Nat} {lb : Array Value} (hg : a.eval g = .func (.func gf) #[] lb) (hFg : F.fn gf) (eg : ∀ args w, (callFunc gf args).run P w = .ok (.enter gf args) w)
    {encs : α → Array Value} {Kp St : World → World → Prop} {S Sp : List α → Prop} {Al : List α → α → Prop} {w0 : World} (hseq : SeqSteps F (n - 1) P gf lb encs Kp St S Sp Al w0)
    (hKt : ∀ {A B C : World}, Kp A B → Kp B C → Kp A C) (hKb : ∀ (W : World) (l : Nat) (o o' : Obj), w.heap.size ≤ l → W.heap[l]? = some o → o.isCells = false → o.isWalk = false → Kp W (W.putObj l o'))
    (hSt : ∀ A B, St A B → ∀ (k : Nat) (o : Obj), w.heap.size ≤ k → A.heap[k]? = some o → o.isCells = false → B.heap[k]? = some o)
    (hb0 : Below w0.heap.size w0 w) (hps : ∀ x, (encs x).size = ps.size)
    (I : List α → World → Prop) (Ix : Code → List α → World → Prop) (hI : OwnFrom w.heap.size I) (hIx : ∀ c, OwnFrom w.heap.size (Ix c))
    (hIS : ∀ s A B, I s A → St A B → I s B) (hIxS : ∀ c s A B, Ix c s A → St A B → Ix c s B) (h0 : I [] w) (a₁ : α → Act)
    (hassign : ∀ (l : Nat) (x : α) (W : World) (K : Act → World → Prop), K (a₁ x) W →
      assign.wpIn (F.inRound l) (n - 1 - 1) P (Exit.then K (fun _ _ _ => False)) { tmps := (ps.zip (encs x)).foldl (fun t (p, v) => t.setIfInBounds p v) a.tmps, defers := [] } W)
    (hbody : ∀ (l : Nat) (pre : List α) (x : α) (W : World), I pre W → Al pre x → body.wpIn (F.inRound l) (n - 1 - 1) P (ownPostG w.heap.size Kp I Ix (pre ++ [x]) W) (a₁ x) W)
    (hdone : ∀ (D : Nat) (xs : List α) (W : World), w.heap.size ≤ D → S xs → I xs W → W.heap[D]? = some (.deferred (some [])) → Q .normal { a with defers := { target := .collected D, args := #[] } :: a.defers } W)
    (hstop : ∀ (D : Nat) (c : Code) (pre : List α) (W : World), w.heap.size ≤ D → Sp pre → Ix c pre W → W.heap[D]? = some (.deferred (some [])) → c.wpIn F n P Q { a with defers := { target := .collected D, args := #[] } :: a.defers } W) :
    (Code.rangeFunc g ps assign body).wpIn F n P Q a w := by
  refine wpIn_rangeFunc ?_
  intro fn hfn
  rw [hro]
  obtain ⟨rec, hrec⟩ : ∃ rec : LoopState → Option Code → Loop, rec = fun st pe => { state := st, pending := pe, fn, tmps := a.tmps, params := ps, assign, body, defers := w.heap.size } := ⟨_, rfl⟩
  obtain ⟨W1, hW1⟩ : ∃ W1, (w.alloc (.deferred (some []))).alloc (.loop (rec .ready none)) = W1 := ⟨_, rfl⟩
  have hL1 : W1.heap[w.heap.size + 1]? = some (.loop (rec .ready none)) := by
    rw [← hW1]; have := World.alloc_heap_new (w.alloc (.deferred (some []))) (.loop (rec .ready none)); rwa [World.size_alloc] at this
  have hK1 : W1.heap[w.heap.size]? = some (.deferred (some [])) := by
    rw [← hW1]; exact (Below.heap_alloc _ _ _ (by simp)).trans (World.alloc_heap_new w _)
  have hI1 : I [] W1 := by rw [← hW1]; exact hI.alloc _ (hI.alloc _ h0)
  have hb1 : Below w0.heap.size w0 W1 := by
    rw [← hW1]; exact hb0.trans ((((Below.refl _ w).alloc (Nat.le_refl _) _).alloc (by simp) _).mono hb0.size)
  refine ⟨w.heap.size + 1, [{ target := .collected w.heap.size, args := #[] }], W1, { target := .fn (.func gf) lb, args := #[.func (.yield (w.heap.size + 1)) #[] #[]] }, W1, gf,
    #[.func (.yield (w.heap.size + 1)) #[] #[]] ++ lb, W1, ?_, ?_, ?_, ?_, fun _ => h1, ?_⟩
  · rw [← hW1, hrec]; exact run_enterLoop_outer _ _ _ _ _
  · simp only [resolve, hg]
    simp [go_sem]
  · intro f' hf'; simp [Target.leads] at hf'; subst hf'; exact hFg
  · simp [invoke, go_sem, eg]
  · refine (hseq (w.heap.size + 1)
      (fun pre W => I pre W ∧ W.heap[w.heap.size + 1]? = some (.loop (rec .ready none)) ∧ W.heap[w.heap.size]? = some (.deferred (some [])))
      (fun pre W => ∃ c, Ix c pre W ∧ W.heap[w.heap.size + 1]? = some (.loop (rec .done (some c))) ∧ W.heap[w.heap.size]? = some (.deferred (some [])))
      W1 hb1
      (fun s A B hs hst => ⟨hIS s A B hs.1 hst, hSt A B hst _ _ (by omega) hs.2.1 rfl, hSt A B hst _ _ (Nat.le_refl _) hs.2.2 rfl⟩)
      (fun s A B hs hst => by
        obtain ⟨c, hc, hl, hk⟩ := hs
        exact ⟨c, hIxS c s A B hc hst, hSt A B hst _ _ (by omega) hl rfl, hSt A B hst _ _ (Nat.le_refl _) hk rfl⟩)
      ?_ ⟨hI1, hL1, hK1⟩).mono ?_
    · rintro pre x W ⟨hi, hl, hk⟩ hlen
      have hlt : w.heap.size + 1 < W.heap.size := (Array.getElem?_eq_some_iff.1 hl).1
      have hy := run_yield (P := P) (args := encs x) hl (by rw [hrec]; exact hps x)
      rw [hrec] at hy
      refine ⟨fn, _, assign, body, hy, roundIn_of_wpIn hfn (hassign _ x W _ ⟨_, run_beginRound hl (by rw [hrec]), ?_⟩)⟩
      have hl2 : (W.putObj (w.heap.size + 1) (.loop { rec .ready none with state := .busy })).heap[w.heap.size + 1]? = some (.loop { rec .ready none with state := .busy }) := World.putObj_heap_same hlt
      have hk2 : (W.putObj (w.heap.size + 1) (.loop { rec .ready none with state := .busy })).heap[w.heap.size]? = some (.deferred (some [])) := (World.putObj_heap_other (by omega)).trans hk
      have hw2 : Kp W (W.putObj (w.heap.size + 1) (.loop { rec .ready none with state := .busy })) := hKb _ _ _ _ (by omega) hl rfl rfl
      refine wpIn_mono (hbody _ pre x _ (hI.putObj _ hi (by omega) hl rfl) hlen) ?_
      have fin : ∀ (jump : Option Code) (W3 : World), KeepsFrom w.heap.size (W.putObj (w.heap.size + 1) (.loop { rec .ready none with state := .busy })) W3 →
          (Instr.endRound (w.heap.size + 1) jump).run P W3 = .ok (.bool jump.isNone) (W3.putObj (w.heap.size + 1) (.loop (rec (if jump.isNone then .ready else .done) jump))) ∧
          W3.heap[w.heap.size + 1]? = some (.loop { rec .ready none with state := .busy }) ∧
          (W3.putObj (w.heap.size + 1) (.loop (rec (if jump.isNone then .ready else .done) jump))).heap[w.heap.size + 1]? = some (.loop (rec (if jump.isNone then .ready else .done) jump)) ∧
          (W3.putObj (w.heap.size + 1) (.loop (rec (if jump.isNone then .ready else .done) jump))).heap[w.heap.size]? = some (.deferred (some [])) := fun jump W3 hk3 => by
        have hl3 := hk3.same _ _ (by omega) hl2 rfl
        have := run_endRound (P := P) jump hl3
        rw [hrec] at this ⊢
        exact ⟨this, by rw [hrec] at hl3; exact hl3, World.putObj_heap_same (Array.getElem?_eq_some_iff.1 hl3).1, (World.putObj_heap_other (by omega)).trans (hk3.same _ _ (Nat.le_refl _) hk2 rfl)⟩
      rintro e a3 W3 hp
      cases e with
      | normal =>
        obtain ⟨hk3, hkp3, hi3⟩ := hp
        obtain ⟨hr, hl3, hl4, hk4⟩ := fin none W3 hk3
        exact ⟨_, _, hr, .inl ⟨rfl, ⟨hI.putObj _ hi3 (by omega) hl3 rfl, hl4, hk4⟩, hKt (hKt hw2 hkp3) (hKb _ _ _ _ (by omega) hl3 rfl rfl)⟩⟩
      | ret =>
        obtain ⟨hk3, hi3⟩ := hp
        obtain ⟨hr, hl3, hl4, hk4⟩ := fin (some .ret) W3 hk3
        exact ⟨_, _, hr, .inr ⟨rfl, .ret, (hIx _).putObj _ hi3 (by omega) hl3 rfl, hl4, hk4⟩⟩
      | exit id =>
        obtain ⟨hk3, hi3⟩ := hp
        obtain ⟨hr, hl3, hl4, hk4⟩ := fin (some (.exit id)) W3 hk3
        exact ⟨_, _, hr, .inr ⟨rfl, .exit id, (hIx _).putObj _ hi3 (by omega) hl3 rfl, hl4, hk4⟩⟩
      | goto t =>
        obtain ⟨hk3, hi3⟩ := hp
        obtain ⟨hr, hl3, hl4, hk4⟩ := fin (some (.goto t)) W3 hk3
        exact ⟨_, _, hr, .inr ⟨rfl, .goto t, (hIx _).putObj _ hi3 (by omega) hl3 rfl, hl4, hk4⟩⟩
      | panic ch => exact hp.elim
      | outgrown => exact hp.elim
    · rintro e W2 ⟨⟨v, rfl⟩, (⟨xs, hS, hi, hl, hk⟩ | ⟨pre, hSp, c, hi, hl, hk⟩)⟩
      · exact ⟨none, _, by have := run_endLoop (P := P) hl (by rw [hrec]; simp); rw [hrec] at this; exact this, hdone _ xs _ (Nat.le_refl _) hS (hI.putObj _ hi (by omega) hl rfl) ((World.putObj_heap_other (by omega)).trans hk)⟩
      · exact ⟨some c, _, by have := run_endLoop (P := P) hl (by rw [hrec]; simp); rw [hrec] at this; exact this, hstop _ c pre _ (Nat.le_refl _) hSp ((hIx c).putObj _ hi (by omega) hl rfl) ((World.putObj_heap_other (by omega)).trans hk)⟩

end Go.Proofs.YtnmofpefofkoeaaGreatDoor
namespace Go.Proofs.YtnmofpefofkoeaaGreatDoor
open Go
section
variable {F : Fence} {n : Nat} {P : Program} {ops : Array Oper} {Q : Exit → Act → World → Prop} {md : Region.Mode}

/-- No operation of the region is a 'defer'. -/
def NoDefer (ops : Array Oper) : Prop := ∀ (j : Nat) (o : Oper), ops[j]? = some o → ∀ c, o.op ≠ .defer c
def noDeferB (ops : Array Oper) : Bool := ops.all fun o => match o.op with
  | .defer _ => false
  | _ => true
theorem noDefer_of {ops : Array Oper} (h : noDeferB ops = true) : NoDefer ops := by
  intro j o hj c hc
  obtain ⟨hlt, he⟩ := Array.getElem?_eq_some_iff.1 hj
  have h2 := Array.all_eq_true.1 h j hlt
  rw [he] at h2
  simp [hc] at h2

theorem take_op {i : Nat} {o : Oper} {v : Value} {a : Act} (hnd : NoDefer ops) (hi : ops[i]? = some o) (hy : YieldsFenced P ops o v a)
    {K : Act → World → Prop} {w : World} (h : K (a.put o.dst v) w) : wpOpIn F n P ops Q i K a w := by
  unfold Go.wpOpIn
  simp only [hi]
  have hab : ∀ f, o.about P w a.eval = some f → F.fn f := fun f hf => by rw [hy.2 w] at hf; cases hf
  rcases hy.1 with ⟨hw, hv⟩ | ⟨hw, rfl⟩
  · simp only [hw, if_true, Oper.wpIn, Oper.semAt_eq F.round a.eval o (hnd i o hi), hv w, Oper.uponIn]; exact ⟨hab, h⟩
  · simp only [hw, Bool.false_eq_true, if_false]; exact ⟨hab, h⟩

theorem take_put {j : Nat} {oi oj : Oper} {v : Value} (hnd : NoDefer ops) (hj : ops[j]? = some oj) (hap : oi.apart ops oj = true)
    (hsi : ∀ cs b, oi.op ≠ .select cs b) (hsj : ∀ cs b, oj.op ≠ .select cs b)
    (hQ : ∀ c a w, Q (.panic c) (a.put oi.dst v) w → Q (.panic c) a w) {K : Act → World → Prop} {a : Act} {w : World}
    (hy : YieldsFenced P ops oi v a) (h : wpOpIn F n P ops Q j K (a.put oi.dst v) w) :
    wpOpIn F n P ops Q j (fun a' w' => YieldsFenced P ops oi v a' ∧ K (a'.put oi.dst v) w') a w := by
  obtain ⟨h1, h2, h3⟩ := Oper.apart_spec hap
  have keep : ∀ (a : Act), YieldsFenced P ops oi v a → ∀ u, YieldsFenced P ops oi v (a.put oj.dst u) := fun a hy u =>
    hy.of_same (execOp_put oi hsi a oj.dst u h3) (wanted_put oi a oj.dst u h3) (fun w => about_put oi w a oj.dst u h3)
  have keepD : ∀ d, YieldsFenced P ops oi v { a with defers := d :: a.defers } := fun d => hy.of_same rfl rfl (fun _ => rfl)
  have hndj := hnd j oj hj
  unfold wpOpIn at *
  simp only [hj] at *
  rw [wanted_put oj a oi.dst v h1, about_put oj w a oi.dst v h1] at h
  split
  · rename_i hw
    simp only [hw, if_true] at h
    unfold Oper.wpIn at *
    rw [about_put oj w a oi.dst v h1] at h
    refine ⟨h.1, ?_⟩
    have h := h.2
    rw [Oper.semAt_eq F.round _ oj hndj, execOp_put oj hsj a oi.dst v h1] at h
    rw [Oper.semAt_eq F.round _ oj hndj]
    generalize (execOp a.eval oj).run P w = r at *
    cases r with
    | ok x w' =>
      cases x <;> simp only [Oper.uponIn] at h ⊢
      case value u => exact ⟨keep a hy u, by rw [← Act.put_comm a v u h2]; exact h⟩
      case skip => exact ⟨keep a hy _, by rw [← Act.put_comm a v undef h2]; exact h⟩
      case defer d =>
        refine ⟨keep _ (keepD d) _, ?_⟩
        rw [← Act.put_comm _ v undef h2, ← Act.put_defers]
        exact h
      case enter f args =>
        refine ⟨h.1, CallsIn.mono h.2 fun e w'' he => ?_⟩
        cases e with
        | returned u => exact ⟨keep a hy u, by rw [← Act.put_comm a v u h2]; exact he⟩
        | panicked c => exact hQ _ _ _ he
        | outgrown => exact he
      case row row args => exact ⟨h.1, RowsIn.mono h.2 fun u w'' he => ⟨keep a hy u, by rw [← Act.put_comm a v u h2]; exact he⟩⟩
      case round l f tmps assign body =>
        refine ⟨h.1, RoundIn.mono h.2 fun e w'' he => ?_⟩
        cases e with
        | returned u => exact ⟨keep a hy u, by rw [← Act.put_comm a v u h2]; exact he⟩
        | panicked c => exact hQ _ _ _ he
        | outgrown => exact he
    | halt x w' =>
      cases x <;> simp only [Oper.uponIn] at h ⊢
      case panic u => exact hQ _ _ _ h
  · rename_i hw
    simp only [hw] at h
    exact ⟨h.1, keep a hy _, by rw [← Act.put_comm a v undef h2]; exact h.2⟩

theorem take_first {i : Nat} {oi : Oper} {v : Value} (hnd : NoDefer ops) (hi : ops[i]? = some oi) (hsel : ∀ (j : Nat) (o : Oper) cs b, ops[j]? = some o → o.op ≠ .select cs b)
    (hQ : ∀ c a w, Q (.panic c) (a.put oi.dst v) w → Q (.panic c) a w) :
    ∀ (fuel : Nat) (listed : Array Bool) (a : Act) (w : World),
      (∀ j oj, ops[j]? = some oj → j ≠ i → listed.getD j true = false → (∀ e ∈ oj.after, Region.binds md e = true → e.on ≠ i) → oi.apart ops oj = true) →
      i ∈ Region.ready md ops listed → YieldsFenced P ops oi v a →
      wpAnyIn F n P md ops Q fuel (listed.setIfInBounds i true) (a.put oi.dst v) w → wpAnyIn F n P md ops Q (fuel + 1) listed a w := by
  intro fuel
  induction fuel with
  | zero =>
    intro listed a w _ hr hy H
    refine ⟨fun h => (by rw [h] at hr; cases hr), fun j hj => ?_⟩
    by_cases hji : j = i
    · subst hji; exact take_op hnd hi hy H
    · have := ready_mono hj hji
      rw [H.1] at this
      cases this
  | succ fuel ih =>
    intro listed a w hfree hr hy H
    refine ⟨fun h => (by rw [h] at hr; cases hr), fun j hj => ?_⟩
    by_cases hji : j = i
    · subst hji; exact take_op hnd hi hy H
    · have h1 := H.2 j (ready_mono hj hji)
      obtain ⟨hjun, oj, hoj, hall⟩ := mem_ready.1 hj
      have hnot : ∀ e ∈ oj.after, Region.binds md e = true → e.on ≠ i := fun e he hb heq => by
        have h1 := hall e he hb
        have h0 := (mem_ready.1 hr).1
        rw [heq] at h1
        rcases Nat.lt_or_ge i listed.size with h' | h'
        · simp [h'] at h0 h1; rw [h0] at h1; cases h1
        · simp [Array.getElem?_eq_none h'] at h1
      have h2 := take_put hnd hoj (hfree j oj hoj hji hjun hnot) (fun cs b => hsel i oi cs b hi) (fun cs b => hsel j oj cs b hoj) hQ hy h1
      have hfree' : ∀ k ok, ops[k]? = some ok → k ≠ i → (listed.setIfInBounds j true).getD k true = false →
          (∀ e ∈ ok.after, Region.binds md e = true → e.on ≠ i) → oi.apart ops ok = true := fun k ok hk hki hun hno => by
        refine hfree k ok hk hki ?_ hno
        by_cases hjk : j = k
        · subst hjk; exact hjun
        · rw [getD_set_ne true hjk] at hun; exact hun
      refine wpOpIn_mono (fun a' w' h3 => ih (listed.setIfInBounds j true) a' w' hfree' (ready_mono hr (Ne.symm hji)) h3.1 ?_) h2
      rw [Array.setIfInBounds_comm _ _ hji]
      exact h3.2

theorem take_it {i : Nat} {oi : Oper} {v : Value} {fuel : Nat} {listed : Array Bool} {a : Act} {w : World} (hnd : noDeferB ops = true) (hi : ops[i]? = some oi)
    (hs : Region.noSelect ops = true) (hf : Region.free md ops listed i = true) (hr : (Region.ready md ops listed).contains i = true)
    (hQ : ∀ c a w, Q (.panic c) (a.put oi.dst v) w → Q (.panic c) a w) (hy : YieldsFenced P ops oi v a)
    (h : wpAnyIn F n P md ops Q fuel (listed.setIfInBounds i true) (a.put oi.dst v) w) : wpAnyIn F n P md ops Q (fuel + 1) listed a w :=
  take_first (noDefer_of hnd) hi (Region.noSelect_spec hs) hQ fuel listed a w (Region.free_spec hi hf) (by simpa using hr) hy h
end
end Go.Proofs.YtnmofpefofkoeaaGreatDoor
namespace Go.Proofs.YtnmofpefofkoeaaGreatDoor.P
open Go Go.RowKit Go.Proofs.YtnmofpefofkoeaaGreatDoorW.PrintWords

def utf8_DecodeRuneInString.f (a0 : ByteArray) : Option (Int × Int) := some (((Lib.decodeGo a0).1 : Int), ((Lib.decodeGo a0).2 : Int))

theorem utf8_DecodeRuneInString.calls (a0 : ByteArray) (r1 : Int) (r2 : Int) (w : World) (hG : Aside0 (G w)) (h : utf8_DecodeRuneInString.f a0 = some (r1, r2)) :
    Calls Tryz.prog 79 #[.string a0] w fun e w' => e = .returned (.tuple #[.int .i32 r1, .int .i64 r2]) ∧ Below w.heap.size w w' := by
  simp only [utf8_DecodeRuneInString.f, Option.some.injEq, Prod.mk.injEq] at h
  obtain ⟨rfl, rfl⟩ := h
  exact Tryz.utf8_DecodeRuneInString a0 w hG.out.utf8

end Go.Proofs.YtnmofpefofkoeaaGreatDoor.P
namespace Go.Proofs.YtnmofpefofkoeaaGreatDoor.P
open Go.RowKit Go.Proofs.YtnmofpefofkoeaaGreatDoorW.PrintWords Go.Proofs.YtnmofpefofkoeaaGreatDoorW.PrintLast Go.Proofs.YtnmofpefofkoeaaGreatDoorW.PrintMore
attribute [local go_sem] max2_int min2_int max_two min_two max_three min_three max_four min_four leq_str
set_option linter.unusedVariables false
set_option linter.unusedSimpArgs false

/-! ### quote_Decode: function 64 -/
def quote_Decode.f (a0 : ByteArray) : Option (Int × Int) := if a0.toList = ([] : List UInt8) then (some (0, 0)) else ((utf8_DecodeRuneInString.f a0).bind fun bt1 => (some (bt1.1, bt1.2)))
set_option maxHeartbeats 8000000 in
set_option maxRecDepth 100000 in
theorem quote_Decode.calls (a0 : ByteArray) (r1 : Int) (r2 : Int) (w : World) (hG : Aside0 (G w)) (h : quote_Decode.f a0 = some (r1, r2)) :
    Calls Tryz.prog 64 #[.string a0] w fun e w' => e = .returned (.tuple #[.int .i32 r1, .int .i64 r2]) ∧ Below w.heap.size w w' := by
  have HB := Aside0.mk (Below.refl w.heap.size w)
  have H : (if a0.toList = ([] : List UInt8) then (some (0, 0)) else ((utf8_DecodeRuneInString.f a0).bind fun bt1 => (some (bt1.1, bt1.2)))) = some (r1, r2) := h
  clear h
  by_cases c2 : a0.toList = ([] : List UInt8)
  · rw [if_pos c2] at H
    have c2b0 : (a0.toList == ([] : List UInt8)) = true := beq_iff_eq.mpr c2
    have c2b1 : (a0.toList != ([] : List UInt8)) = false := bne_eq_false_iff_eq.mpr c2
    clear c2
    simp only [Option.some.injEq, Prod.mk.injEq] at H
    obtain ⟨rfl, rfl⟩ := H
    go_enter Tryz.func64, Tryz.ntmps64
    go_wp2
    go_ret2
    exact ⟨by first | rfl | (simp [errW_none, errW_some] <;> rfl) | (simp [*, errW_none, errW_some] <;> rfl), by repeat (first | (with_reducible first | exact HB.out | apply below_alloc | apply pw_below_drewN | apply below_drew1) | exact HB.out)⟩
  · rw [if_neg c2] at H
    have c2b0 : (a0.toList == ([] : List UInt8)) = false := beq_eq_false_iff_ne.mpr c2
    have c2b1 : (a0.toList != ([] : List UInt8)) = true := bne_iff_ne.mpr c2
    replace H := Option.bind_eq_some_iff.mp H
    obtain ⟨⟨t1, t2⟩, A30, H⟩ := H
    replace H : (some (t1, t2)) = some (r1, r2) := H
    have A3 := Aside0.mk A30
    clear A30
    simp only [Option.some.injEq, Prod.mk.injEq] at H
    obtain ⟨rfl, rfl⟩ := H
    go_enter Tryz.func64, Tryz.ntmps64
    go_wp2_with (first | ((with_reducible refine gate_callee (f := 79) rfl ?_); refine goesL_ (some 7) rfl rfl Tryz.func79 (by kernel_rfl) rfl #[.string a0] rfl (by (try simp only [List.map_toArray, List.map_cons, List.map_nil]); first | done | rfl | (simp only [List.length_drop, List.length_take]; rfl)) ?_; (with_reducible refine (utf8_DecodeRuneInString.calls a0 t1 t2 _ ?side1 A3.out).mono ?_); (case side1 => exact G.at hG.out (by repeat (first | (with_reducible first | exact HB.out | apply below_alloc | apply pw_below_drewN | apply below_drew1) | exact HB.out))); rintro e w4 ⟨rfl, hb⟩; refine ⟨_, rfl, ?_⟩; have n0_ := Aside0.mk (below_step (by repeat (first | (with_reducible first | exact HB.out | apply below_alloc | apply pw_below_drewN | apply below_drew1) | exact HB.out)) hb); clear HB; have HB := n0_; clear n0_; (try clear hb); (try clear hb2); (try clear hk); (try clear hi)))
    go_ret2
    exact ⟨by first | rfl | (simp [errW_none, errW_some] <;> rfl) | (simp [*, errW_none, errW_some] <;> rfl), by repeat (first | (with_reducible first | exact HB.out | apply below_alloc | apply pw_below_drewN | apply below_drew1) | exact HB.out)⟩

end Go.Proofs.YtnmofpefofkoeaaGreatDoor.P
namespace Go.Proofs.YtnmofpefofkoeaaGreatDoor
open Go Go.RowKit Go.Shelf Go.Proofs.YtnmofpefofkoeaaGreatDoorW.PrintWords Go.Proofs.YtnmofpefofkoeaaGreatDoor.P
attribute [local go_sem] Oper.semAt_some

abbrev pieceVals (x : Int × ByteArray) : Array Value := #[.int .i32 x.1, .string x.2]

/-- What a round must keep for the iterator. -/
def EachKp (n₀ Bs : Nat) (W W' : World) : Prop :=
  Below n₀ W W' ∧ (∀ v, W.cell? ⟨Bs, 0, none⟩ = some v → W'.cell? ⟨Bs, 0, none⟩ = some v ∧ (W.frozen? ⟨Bs, 0, none⟩ = false → W'.frozen? ⟨Bs, 0, none⟩ = false))
/-- What the iterator may do between two rounds. -/
def EachSt (Bs : Nat) (A B : World) : Prop := Below A.heap.size A B ∨ ∃ v : ByteArray, B = A.setCell ⟨Bs, 0, none⟩ (.string v)

def leftAt (Bs : Nat) (W : World) : Nat := match W.cell? ⟨Bs, 0, none⟩ with
  | some (.string v) => v.size
  | _ => 0
theorem leftAt_eq {Bs : Nat} {W : World} {v : ByteArray} (h : W.cell? ⟨Bs, 0, none⟩ = some (.string v)) : leftAt Bs W = v.size := by simp [leftAt, h]

theorem frozen_below {w w' : World} (hb : Below w.heap.size w w') {g o : Nat} (hg : g < w.heap.size) (hf : w.frozen? ⟨g, o, none⟩ = false) : w'.frozen? ⟨g, o, none⟩ = false :=
  (hb.frozen (p := ⟨g, o, none⟩) hg).trans hf

theorem size_zero {s : ByteArray} (h : s.toList = []) : s.size = 0 := by
  rw [ByteArray.toList_eq] at h
  have := congrArg List.length h
  rw [Array.length_toList] at this
  exact this
theorem toList_nil {s : ByteArray} (h : s.size = 0) : s.toList = [] := by
  rw [ByteArray.toList_eq]
  exact List.eq_nil_of_length_eq_zero (by rw [Array.length_toList]; exact h)

theorem decode_some {s : ByteArray} (h : s.size ≠ 0) : quote_Decode.f s = some (((Lib.decodeGo s).1 : Int), ((Lib.decodeGo s).2 : Int)) := by
  unfold quote_Decode.f
  rw [if_neg (fun e => h (size_zero e))]
  rfl

set_option maxRecDepth 100000 in
theorem each_calls (s : ByteArray) (w : World) : Calls Tryz.prog 37 #[.string s] w fun e w' =>
    e = .returned (.func (.func 63) #[] #[.pointer (some ⟨w.heap.size, 0, none⟩)]) ∧ w' = w.alloc (.cells #[.string s] 9) := by
  go_enter Tryz.func37, Tryz.ntmps37
  go_wp2
  go_ret
  exact ⟨rfl, rfl⟩

set_option maxRecDepth 100000 in
set_option maxHeartbeats 2000000 in
theorem each1_steps (n : Nat) (hn : 1 ≤ n) (s : ByteArray) (hs : s.size ≤ 140737488351232) (Bs : Nat) (w0 w : World) (hG : Aside0 (G w0)) (hb : Below w0.heap.size w0 w) (hle : w0.heap.size ≤ Bs)
    (hc : w.cell? ⟨Bs, 0, none⟩ = some (.string s)) (hf : w.frozen? ⟨Bs, 0, none⟩ = false) :
    SeqSteps Fence.wide n Tryz.prog 63 #[.pointer (some ⟨Bs, 0, none⟩)] pieceVals (EachKp w0.heap.size Bs) (EachSt Bs) (fun xs => xs = piecesOf s) (fun _ => True) (fun pre x => pre ++ [x] <+: piecesOf s) w :=
  fun l J Jx W hW hJ hJx hY h0 => by
  have hcW : W.cell? ⟨Bs, 0, none⟩ = some (.string s) := cell_below hW hc
  have hfW : W.frozen? ⟨Bs, 0, none⟩ = false := frozen_below hW (cell_lt hc) hf
  have hbW : Below w0.heap.size w0 W := hb.trans (hW.mono hb.size)
  refine callsIn_of_wp Tryz.func63 rfl trivial ?_ rfl
  simp only [Tryz.ntmps63, List.size_toArray, List.length_cons, List.length_nil, Nat.reduceAdd, Nat.reduceSub, Array.replicate_succ, Array.replicate_zero, List.push_toArray, List.append_toArray, List.nil_append, List.cons_append]
  clear hc hf hb hW
  gi_wp2
  gi_loopw [3, 4] (fun _ _ wr => ∃ (pre : List (Int × ByteArray)) (rest : ByteArray), Aside0 (piecesOf s = pre ++ piecesOf rest) ∧ rest.size ≤ 140737488351232 ∧ wr.cell? ⟨Bs, 0, none⟩ = some (.string rest) ∧ wr.frozen? ⟨Bs, 0, none⟩ = false ∧ Aside0 (Below w0.heap.size w0 wr) ∧ J pre wr)
    (fun _ _ wr => leftAt Bs wr)
  case atStart => exact ⟨[], s, ⟨rfl⟩, hs, hcW, hfW, ⟨hbW⟩, h0⟩
  case round =>
    obtain ⟨pre, rest, hp, hrs, hcr, hfr, hbr, hJr⟩ := hrel
    clear hcW hfW hbW h0
    by_cases hz : rest.size = 0
    · have t0 : rest.toList = [] := toList_nil hz
      have t1 : (rest.toList == ([] : List UInt8)) = true := by rw [t0]; rfl
      have t2 : rest.toList.isEmpty = true := by rw [t0]; rfl
      have hp' : Aside0 (piecesOf s = pre) := ⟨by rw [hp.out, piecesOf_nil rest hz, List.append_nil]⟩
      clear hz hp
      gi_wp2
      go_end0
      exact ⟨⟨_, rfl⟩, .inl ⟨pre, hp'.out.symm, hJr⟩⟩
    · have hn0 : rest.toList ≠ [] := fun e => hz (size_zero e)
      have t1 : (rest.toList == ([] : List UInt8)) = false := beq_eq_false_iff_ne.mpr hn0
      have t2 : rest.toList.isEmpty = false := by cases h : rest.toList with | nil => exact absurd h hn0 | cons _ _ => rfl
      have hd := Aside0.mk (decode_some hz)
      have hcr0 := Aside0.mk hcr
      have hbd := decodeGo_bounds rest hz
      have hpc := Aside0.mk (piecesOf_cons rest hz)
      generalize Lib.decodeGo rest = dd at hd hbd hpc
      obtain ⟨dr, dn⟩ := dd
      obtain ⟨hb1, hb2, hb3, hb4⟩ := hbd
      have hb1' : 1 ≤ dn := hb1
      have hb2' : dn ≤ rest.size := hb2
      have hb4' : dr ≤ 1114111 := hb4
      clear hz hb1 hb2 hb3 hb4
      gi_wp2_with (refine ⟨trivial, ?_⟩; gi_at_call 64; refine (callsIn_wide.2 (quote_Decode.calls rest dr dn _ (G.at hG.out (by exact hbr.out)) hd.out)).mono ?_; rintro e w2 ⟨rfl, hb2⟩; have hc2 := cell_below hb2 hcr; have hf2 := frozen_below hb2 (cell_lt hcr) hfr; have hJ2 := hJ _ _ _ hJr (.inl hb2); have hb3 := Aside0.mk (hbr.out.trans (hb2.mono hbr.out.size)); clear hb2 hbr hcr hfr hJr; obtain ⟨fn, tmps, assign, body, hy, hR⟩ := hY pre ((dr : Int), rest.extract 0 dn) w2 hJ2 (by rw [hp.out, hpc.out]; exact ⟨piecesOf (rest.extract dn rest.size), by simp⟩); dsimp only [pieceVals] at hy; clear hY)
      refine hR.mono ?_
      rintro e W3 (⟨rfl, hJ3, hk3⟩ | ⟨rfl, hJx3⟩)
      · obtain ⟨hc3, hf3'⟩ := hk3.2 _ hc2
        have hf3 := hf3' hf2
        have hb4 := Aside0.mk (hb3.out.trans hk3.1)
        clear hc2 hf2 hf3' hk3 hb3 hJ2 hR hy
        gi_wp2
        go_roundw
        case rel => exact ⟨pre ++ [((dr : Int), rest.extract 0 dn)], rest.extract dn rest.size, ⟨by rw [hp.out, hpc.out]; simp⟩, by rw [extract_size]; omega, World.cell?_setCell_same' _ _ _ (by rw [hc3]; rfl), by rw [World.frozen?_setCell]; exact hf3, ⟨hb4.out.setCell (p := ⟨Bs, 0, none⟩) hle _⟩, hJ _ _ _ hJ3 (.inr ⟨_, rfl⟩)⟩
        case measure =>
          rw [leftAt_eq (World.cell?_setCell_same' _ _ _ (by rw [hc3]; rfl)), leftAt_eq hcr0.out, extract_size]
          omega
      · gi_wp2
        refine bodyPost_ret (results_none rfl _ _ _) rfl ?_
        exact ⟨⟨_, rfl⟩, .inr ⟨_, trivial, hJx3⟩⟩
end Go.Proofs.YtnmofpefofkoeaaGreatDoor
namespace Go.Proofs.YtnmofpefofkoeaaGreatDoor
open Go Go.RowKit Go.Shelf Go.Proofs.YtnmofpefofkoeaaGreatDoorW.PrintWords Go.Proofs.YtnmofpefofkoeaaGreatDoor.P
attribute [local go_sem] Oper.semAt_some


theorem EachKp.trans' {n₀ Bs : Nat} {A B C : World} (h : EachKp n₀ Bs A B) (k : EachKp n₀ Bs B C) : EachKp n₀ Bs A C :=
  ⟨h.1.trans k.1, fun v hv => ⟨(k.2 v (h.2 v hv).1).1, fun hf => (k.2 v (h.2 v hv).1).2 ((h.2 v hv).2 hf)⟩⟩
theorem EachKp.putObj' {n₀ Bs B : Nat} (hn : n₀ ≤ B) (W : World) (l : Nat) (o o' : Obj) (hl : B ≤ l) (ho : W.heap[l]? = some o) (hc : o.isCells = false) : EachKp n₀ Bs W (W.putObj l o') := by
  refine ⟨(Below.refl n₀ W).grown (grownBy_putObj' W l o') ?_ (fun k e => by cases e; omega), fun v hv => ?_⟩
  · have := (Array.getElem?_eq_some_iff.1 ho).1; omega
  · have hne : Bs ≠ l := by
      rintro rfl
      unfold World.cell? at hv
      rw [ho] at hv
      cases o <;> simp [Obj.isCells] at hc <;> simp at hv
    have hh : (W.putObj l o').heap[Bs]? = W.heap[Bs]? := World.putObj_heap_other hne
    constructor
    · unfold World.cell? at hv ⊢
      rw [hh]; exact hv
    · intro hf
      unfold World.frozen? at hf ⊢
      rw [hh]; exact hf

theorem EachSt.keeps {Bs B : Nat} (hB : Bs < B) : ∀ X Y, EachSt Bs X Y → ∀ (k : Nat) (o : Obj), B ≤ k → X.heap[k]? = some o → o.isCells = false → Y.heap[k]? = some o := by
  rintro X Y (h | ⟨v, rfl⟩) k o hk ho _
  · exact (h.block k (Array.getElem?_eq_some_iff.1 ho).1).trans ho
  · rw [Below.heap_setCell _ _ _ k (by show k ≠ Bs; omega)]; exact ho

theorem Boxed.below {W W' : World} {B : Nat} {t : TypeId} {v : Value} (h : Boxed W B t v) (hb : Below W.heap.size W W') : Boxed W' B t v := (hb.block B h.lt).trans h
theorem Boxed.other' {W : World} {B C : Nat} {t : TypeId} {v : Value} (h : Boxed W B t v) (hne : B ≠ C) (u : Value) : Boxed (W.setCell ⟨C, 0, none⟩ u) B t v := (Below.heap_setCell _ _ _ B hne).trans h

/-- What the body of a collecting loop over 'each' keeps. -/
def CollectI (w : World) (B0 Bs tB e tS : Nat) (f : List (Int × ByteArray) → List Value) (pre : List (Int × ByteArray)) (W : World) : Prop :=
  (∃ v, Boxed W B0 tB v ∧ W.ownsRow w.heap.size e 1 v (f pre).length (f pre)) ∧ (∃ sv : ByteArray, Boxed W Bs tS (.string sv)) ∧ Below w.heap.size w W

theorem CollectI.own {w : World} {B0 Bs tB e tS B : Nat} {f : List (Int × ByteArray) → List Value} (hB : w.heap.size ≤ B) : OwnFrom B (CollectI w B0 Bs tB e tS f) := by
  rintro s W W' row ⟨⟨v, hv, hr⟩, ⟨sv, hs⟩, hb⟩ hg hrow
  have hne : ∀ {C t : Nat} {u : Value}, Boxed W C t u → some C ≠ row := by
    intro C t u hC e'
    obtain ⟨_, o, ho, hc⟩ := hrow C e'.symm
    rw [show W.heap[C]? = _ from hC] at ho; cases ho; cases hc
  refine ⟨⟨v, hv.kept hg (hne hv), hr.kept hg ?_⟩, ⟨sv, hs.kept hg (hne hs)⟩, hb.grown hg hb.size (fun k e' => Nat.le_trans hB (hrow k e').1)⟩
  rcases hr.2 with ⟨rfl, _⟩ | ⟨g, cap, cur, rfl, _, hgb, _⟩
  · exact .inl rfl
  · refine .inr fun e' => ?_
    obtain ⟨_, o, ho, hc⟩ := hrow g (by simpa [Value.ownBlock] using e'.symm)
    rw [hgb] at ho; cases ho; cases hc

theorem CollectI.step {w : World} {B0 Bs tB e tS : Nat} {f : List (Int × ByteArray) → List Value} (hne : B0 ≠ Bs) (hts : tS ≠ e) (hle : w.heap.size ≤ Bs) : ∀ s X Y, CollectI w B0 Bs tB e tS f s X → EachSt Bs X Y → CollectI w B0 Bs tB e tS f s Y := by
  rintro s X Y ⟨⟨v, hv, hr⟩, ⟨sv, hs⟩, hb⟩ (h | ⟨u, rfl⟩)
  · exact ⟨⟨v, Boxed.below hv h, pw_own_below hr h⟩, ⟨sv, Boxed.below hs h⟩, hb.trans (h.mono hb.size)⟩
  · refine ⟨⟨v, Boxed.other' hv hne _, hr.kept (grownBy_setCell' X Bs _) (.inr (hs.not_row hts hr).symm)⟩, ⟨u, hs.set _⟩, hb.setCell (p := ⟨Bs, 0, none⟩) hle _⟩
end Go.Proofs.YtnmofpefofkoeaaGreatDoor
set_option linter.unusedVariables false
namespace Go.Proofs.YtnmofpefofkoeaaGreatDoor
open Go Go.RowKit Go.Shelf Go.Proofs.YtnmofpefofkoeaaGreatDoorW.PrintWords Go.Proofs.YtnmofpefofkoeaaGreatDoor.P
attribute [local go_sem] Oper.semAt_some

def hexByte (k : Nat) : UInt8 := if k < 10 then (48 + k).toUInt8 else (87 + k).toUInt8

/-- What stands in quotes for a rune. -/
def quotePiece (x : Int × ByteArray) : List UInt8 :=
  if x.1 = 34 then 92 :: x.2.data.toList
  else if x.1 = 92 then 92 :: x.2.data.toList
  else if x.1 = 10 then [92, 110]
  else if x.1 = 13 then [92, 114]
  else if x.1 = 9 then [92, 116]
  else if x.1 < 32 ∨ x.1 = 127 ∨ (x.1 = 65533 ∧ x.2.size = 1) then [92, 120, hexByte ((x.2.get! 0).toNat / 16), hexByte ((x.2.get! 0).toNat % 16)]
  else x.2.data.toList

def quoteBytes (s : ByteArray) : List UInt8 := 34 :: (piecesOf s).flatMap quotePiece ++ [34]

theorem quotePiece_length (x : Int × ByteArray) (h : PieceOk x) : (quotePiece x).length ≤ 5 := by
  obtain ⟨_, h4, _, _⟩ := h
  have e : x.2.data.toList.length = x.2.size := by rw [Array.length_toList]; rfl
  unfold quotePiece
  repeat' split
  all_goals (first | (simp only [List.length_cons, List.length_nil]; omega) | omega)

theorem flatMap_length (l : List (Int × ByteArray)) (h : ∀ x ∈ l, PieceOk x) : (l.flatMap quotePiece).length ≤ 5 * l.length := by
  induction l with
  | nil => simp
  | cons x l ih =>
    have h1 := quotePiece_length x (h x (by simp))
    have h2 := ih (fun y hy => h y (by simp [hy]))
    simp only [List.flatMap_cons, List.length_append, List.length_cons]
    omega

def hexDigits : ByteArray := { data := #[48, 49, 50, 51, 52, 53, 54, 55, 56, 57, 97, 98, 99, 100, 101, 102] }
theorem hex_get (k : Nat) (hk : k < 16) (h : (k : Int).toNat < hexDigits.size) : hexDigits[(k : Int).toNat]'h = hexByte k := by
  obtain rfl | rfl | rfl | rfl | rfl | rfl | rfl | rfl | rfl | rfl | rfl | rfl | rfl | rfl | rfl | rfl : k = 0 ∨ k = 1 ∨ k = 2 ∨ k = 3 ∨ k = 4 ∨ k = 5 ∨ k = 6 ∨ k = 7 ∨ k = 8 ∨ k = 9 ∨ k = 10 ∨ k = 11 ∨ k = 12 ∨ k = 13 ∨ k = 14 ∨ k = 15 := by omega
  all_goals rfl
theorem hex_encode (k : Nat) (hk : k < 16) : Utf8.encode ((hexByte k).toNat : Int) = { data := #[hexByte k] } := by
  obtain rfl | rfl | rfl | rfl | rfl | rfl | rfl | rfl | rfl | rfl | rfl | rfl | rfl | rfl | rfl | rfl : k = 0 ∨ k = 1 ∨ k = 2 ∨ k = 3 ∨ k = 4 ∨ k = 5 ∨ k = 6 ∨ k = 7 ∨ k = 8 ∨ k = 9 ∨ k = 10 ∨ k = 11 ∨ k = 12 ∨ k = 13 ∨ k = 14 ∨ k = 15 := by omega
  all_goals kernel_rfl
theorem hex_ok (k : Nat) (hk : k < 16) (P : Program) (w : World) (r : Sem Value) : ((if h : (k : Int) < 16 then Result.ok (Value.int .u8 ((hexDigits[(k : Int).toNat]'(by have : hexDigits.size = 16 := rfl; omega)).toNat : Int)) w else Sem.run P r w).andThen fun a w' => Result.ok (Next.value a) w') = Result.ok (Next.value (.int .u8 ((hexByte k).toNat : Int))) w := by
  rw [dif_pos (by omega), hex_get k hk]
  rfl

section
variable {x : Int × ByteArray}
theorem qp34 (h : (x.1 == 34) = true) : ({ data := #[92] } ++ x.2 : ByteArray).data.toList = quotePiece x := by
  have h := beq_iff_eq.1 h
  unfold quotePiece
  rw [if_pos h]; simp
theorem qp92 (h : (x.1 == 34) = false) (h2 : (x.1 == 92) = true) : ({ data := #[92] } ++ x.2 : ByteArray).data.toList = quotePiece x := by
  have h := beq_eq_false_iff_ne.1 h
  have h2 := beq_iff_eq.1 h2
  unfold quotePiece
  rw [if_neg h, if_pos h2]; simp
theorem qp10 (h : (x.1 == 10) = true) : ({ data := #[92, 110] } : ByteArray).data.toList = quotePiece x := by
  have h := beq_iff_eq.1 h
  unfold quotePiece
  rw [if_neg (by omega), if_neg (by omega), if_pos h]
theorem qp13 (h : (x.1 == 13) = true) : ({ data := #[92, 114] } : ByteArray).data.toList = quotePiece x := by
  have h := beq_iff_eq.1 h
  unfold quotePiece
  rw [if_neg (by omega), if_neg (by omega), if_neg (by omega), if_pos h]
theorem qp9 (h : (x.1 == 9) = true) : ({ data := #[92, 116] } : ByteArray).data.toList = quotePiece x := by
  have h := beq_iff_eq.1 h
  unfold quotePiece
  rw [if_neg (by omega), if_neg (by omega), if_neg (by omega), if_neg (by omega), if_pos h]
theorem qp_none (a : (x.1 == 34) = false) (b : (x.1 == 92) = false) (c : (x.1 == 10) = false) (d : (x.1 == 13) = false) (e : (x.1 == 9) = false) :
    quotePiece x = if x.1 < 32 ∨ x.1 = 127 ∨ (x.1 = 65533 ∧ x.2.size = 1) then [92, 120, hexByte ((x.2.get! 0).toNat / 16), hexByte ((x.2.get! 0).toNat % 16)] else x.2.data.toList := by
  have a := beq_eq_false_iff_ne.1 a
  have b := beq_eq_false_iff_ne.1 b
  have c := beq_eq_false_iff_ne.1 c
  have d := beq_eq_false_iff_ne.1 d
  have e := beq_eq_false_iff_ne.1 e
  unfold quotePiece
  rw [if_neg a, if_neg b, if_neg c, if_neg d, if_neg e]
theorem qp_self1 (a : (x.1 == 34) = false) (b : (x.1 == 92) = false) (c : (x.1 == 10) = false) (d : (x.1 == 13) = false) (e : (x.1 == 9) = false)
    (f : 32 ≤ x.1) (g : (x.1 == 127) = false) (h : ((x.2.size : Int) == 1) = false) : x.2.data.toList = quotePiece x := by
  have g := beq_eq_false_iff_ne.1 g
  have h := beq_eq_false_iff_ne.1 h
  rw [qp_none a b c d e, if_neg (by omega)]
theorem qp_self2 (a : (x.1 == 34) = false) (b : (x.1 == 92) = false) (c : (x.1 == 10) = false) (d : (x.1 == 13) = false) (e : (x.1 == 9) = false)
    (f : 32 ≤ x.1) (g : (x.1 == 127) = false) (h : ¬ x.1 = 65533) : x.2.data.toList = quotePiece x := by
  have g := beq_eq_false_iff_ne.1 g
  rw [qp_none a b c d e, if_neg (by omega)]
theorem qp_hex {k1 k2 cc : Nat} (hx : 0 < x.2.size) (hcc : (x.2[0]'hx).toNat = cc) (h1 : k1 = cc / 16) (h2 : k2 = cc % 16) (a : (x.1 == 34) = false) (b : (x.1 == 92) = false) (c : (x.1 == 10) = false) (d : (x.1 == 13) = false) (e : (x.1 == 9) = false)
    (f : x.1 < 32 ∨ x.1 = 127 ∨ (x.1 = 65533 ∧ x.2.size = 1)) : [92, 120, hexByte k1, hexByte k2] = quotePiece x := by
  have h0 : x.2.get! 0 = x.2[0]'hx := by
    show x.2.data[0]! = _
    exact getElem!_pos x.2.data 0 hx
  rw [qp_none a b c d e, if_pos f, h0, hcc, h1, h2]
end

/-- What the body keeps. -/
def QuoteI (w : World) (b Bs : Nat) (pre : List (Int × ByteArray)) (W : World) : Prop :=
  Bld w.heap.size b (34 :: pre.flatMap quotePiece) W ∧ (∃ sv : ByteArray, Boxed W Bs 9 (.string sv)) ∧ Below w.heap.size w W

theorem QuoteI.own {w : World} {b Bs B : Nat} (hB : w.heap.size ≤ B) : OwnFrom B (QuoteI w b Bs) := by
  rintro s W W' row ⟨hv, ⟨sv, hs⟩, hb⟩ hg hrow
  refine ⟨bldF_grown hv hg (fun r e => (hrow r e).2), ⟨sv, hs.kept hg fun e' => ?_⟩, hb.grown hg hb.size (fun k e' => Nat.le_trans hB (hrow k e').1)⟩
  obtain ⟨_, o, ho, hc⟩ := hrow Bs e'.symm
  rw [show W.heap[Bs]? = _ from hs] at ho; cases ho; cases hc

theorem QuoteI.step {w : World} {b Bs : Nat} (hle : w.heap.size ≤ Bs) : ∀ s X Y, QuoteI w b Bs s X → EachSt Bs X Y → QuoteI w b Bs s Y := by
  rintro s X Y ⟨hv, ⟨sv, hs⟩, hb⟩ (h | ⟨u, rfl⟩)
  · exact ⟨bldF_below hv h, ⟨sv, Boxed.below hs h⟩, hb.trans (h.mono hb.size)⟩
  · exact ⟨bldF_box hv hs (by decide) (by decide) _, ⟨u, hs.set _⟩, hb.setCell (p := ⟨Bs, 0, none⟩) hle _⟩

theorem quote_round {w W w3 : World} {b Bs B : Nat} {pre : List (Int × ByteArray)} {x : Int × ByteArray} {sv : ByteArray} {L : List UInt8} {Ix : Code → List (Int × ByteArray) → World → Prop} {a : Act}
    (h3 : Bld w.heap.size b (34 :: pre.flatMap quotePiece ++ L) w3) (hb3 : Below w.heap.size W w3) (hk3 : Lib.OthersKept 5 (some b) W w3) (hsv : Boxed W Bs 9 (.string sv)) (hB : Below w.heap.size w W)
    (hne : Bs ≠ b) (hbB : b < B) (e : L = quotePiece x) : ownPostG B (EachKp w.heap.size Bs) (QuoteI w b Bs) Ix (pre ++ [x]) W .normal a w3 := by
  have hs3 : Boxed w3 Bs 9 (.string sv) := Boxed.others hsv hk3 hne (by decide)
  refine ⟨⟨hb3.size, fun k o hk ho hc => hk3 k o ho (fun e' => by have := Option.some.inj e'; omega) (fun c fz e' => by rw [e'] at hc; cases hc)⟩, ⟨hb3, fun u hu => ?_⟩, ?_, ⟨sv, hs3⟩, hB.trans hb3⟩
  · rw [hsv.cell] at hu
    cases hu
    exact ⟨hs3.cell, fun _ => hs3.frozen⟩
  · rw [e] at h3
    simpa using h3

set_option maxRecDepth 100000 in
set_option maxHeartbeats 4000000 in
theorem quote_calls (s : ByteArray) (hs : s.size ≤ 17592186044416) (w : World) (hG : Aside0 (G w)) : Calls Tryz.prog 18 #[.string s] w fun e w' =>
    e = .returned (.string ⟨(quoteBytes s).toArray⟩) ∧ Below w.heap.size w w' := by
  refine (callsIn_wide (n := 5)).1 ?_
  refine callsIn_of_wp_marks Tryz.func18 rfl trivial ?_ rfl
  simp only [Tryz.ntmps18, List.size_toArray, List.length_cons, List.length_nil, Nat.reduceAdd, Nat.reduceSub, Array.replicate_succ, Array.replicate_zero, List.push_toArray, List.append_toArray, List.nil_append, List.cons_append]
  have hnew := bld_new w
  gi_wp2_with (refine ⟨trivial, ?_⟩; gi_at_call 36; refine (callsIn_wide.2 (bld_WriteByte w.heap.size w.heap.size [] 34 _ hnew (by simp) (by simp))).mono ?_; rintro e w1 ⟨rfl, h1, hb1, hk1⟩)
  have hb0 : Below w.heap.size w w1 := ((Below.refl _ w).alloc (Nat.le_refl _) _).trans hb1
  have hsz1 : w.heap.size + 1 ≤ w1.heap.size := by have := hb1.size; simp at this; exact this
  clear hb1 hk1 hnew
  gi_wp2_with (refine ⟨trivial, ?_⟩; gi_at_call 37; refine (callsIn_wide.2 (each_calls s _)).mono ?_; rintro e w2 ⟨rfl, rfl⟩)
  have hsz : (w1.alloc (.cells #[.string s] 9)).heap.size = w1.heap.size + 1 := by simp
  have hb2 : Below w.heap.size w (w1.alloc (.cells #[.string s] 9)) := hb0.alloc hb0.size _
  have bx1 : Boxed (w1.alloc (.cells #[.string s] 9)) w1.heap.size 9 (.string s) := Boxed.new w1 _ _
  have hbl : Bld w.heap.size w.heap.size [34] (w1.alloc (.cells #[.string s] 9)) := Lib.IsBuilderF.alloc h1 _
  refine wpIn_rangeSteps rfl (by omega) (gf := 63) (lb := #[.pointer (some ⟨w1.heap.size, 0, none⟩)]) rfl trivial (enters_of Tryz.func63 (by kernel_rfl) rfl)
    (each1_steps (5 - 1) (by omega) s (by omega) w1.heap.size w _ hG hb2 (by omega) bx1.cell bx1.frozen)
    (fun h k => h.trans' k) (fun W l o o' hl ho hc _ => EachKp.putObj' (Nat.le_refl _) W l o o' (by rw [hsz] at hl; omega) ho hc)
    (EachSt.keeps (by rw [hsz]; omega)) (Below.refl _ _) (fun _ => rfl)
    (QuoteI w w.heap.size w1.heap.size) (fun _ _ _ => False)
    (QuoteI.own (by rw [hsz]; omega)) (fun _ _ _ _ _ h => h.elim)
    (QuoteI.step (by omega)) (fun _ _ _ _ h => h.elim)
    ⟨hbl, ⟨s, bx1⟩, hb2⟩
    (fun x => { tmps := (#[.string s, undef, .string { data := #[] }, .pointer (some ⟨w.heap.size, 0, none⟩), .int .i32 x.1, .string x.2, undef, .nilIface, .string s, .func (.func 63) #[] #[.pointer (some ⟨w1.heap.size, 0, none⟩)], .int .i32 x.1, .string x.2] ++ Array.replicate 50 undef : Array Value), defers := [] }) ?assign ?body ?done ?stop
  case assign =>
    intro l x W K hK
    simp only [Array.replicate_succ, Array.replicate_zero, List.push_toArray, List.append_toArray, List.nil_append, List.cons_append] at hK
    gi_wp2
    exact hK
  case body =>
    rintro l pre x W ⟨hv, ⟨sv, hsv⟩, hB⟩ hal
    simp only [Array.replicate_succ, Array.replicate_zero, List.push_toArray, List.append_toArray, List.nil_append, List.cons_append]
    obtain ⟨hx1, hx2, hx3, hx4⟩ : PieceOk x := piecesOf_ok s x (hal.subset (by simp))
    have hlen : (34 :: pre.flatMap quotePiece).length ≤ 87960930222081 := by
      have h1 := hal.length_le
      have h2 := piecesOf_length s
      have h3 := flatMap_length pre (fun y hy => piecesOf_ok s y (hal.subset (by simp [hy])))
      simp at h1
      rw [List.length_cons]
      omega
    have HWS : Aside0 (∀ S : ByteArray, S.size ≤ 5 → Calls Tryz.prog 38 #[.pointer (some ⟨w.heap.size, 0, none⟩), .string S] W fun e w' => e = .returned (.tuple #[.int .i64 S.size, .nilIface]) ∧ Bld w.heap.size w.heap.size (34 :: pre.flatMap quotePiece ++ S.data.toList) w' ∧ Below w.heap.size W w' ∧ Lib.OthersKept 5 (some w.heap.size) W w') :=
      ⟨fun S hS => bld_WriteString w.heap.size w.heap.size (34 :: pre.flatMap quotePiece) S W hv (by omega) hB.size⟩
    have HWD : Aside0 (∀ k1 k2 : Nat, Calls Tryz.prog 38 #[.pointer (some ⟨w.heap.size, 0, none⟩), .string { data := #[92, 120, hexByte k1, hexByte k2] }] W.drew fun e w' => e = .returned (.tuple #[.int .i64 (({ data := #[92, 120, hexByte k1, hexByte k2] } : ByteArray).size), .nilIface]) ∧ Bld w.heap.size w.heap.size (34 :: pre.flatMap quotePiece ++ [92, 120, hexByte k1, hexByte k2]) w' ∧ Below w.heap.size W w' ∧ Lib.OthersKept 5 (some w.heap.size) W w') :=
      ⟨fun k1 k2 => (bld_WriteString w.heap.size w.heap.size (34 :: pre.flatMap quotePiece) { data := #[92, 120, hexByte k1, hexByte k2] } W.drew hv (by show _ + 4 ≤ _; omega) hB.size).mono (fun e w' h => ⟨h.1, h.2.1, ⟨h.2.2.1.os, h.2.2.1.tape, h.2.2.1.output, h.2.2.1.size, h.2.2.1.block⟩, h.2.2.2⟩)⟩
    gi_wp2_with fail
    rotate_left 5
    · generalize hcc : x.2[0].toNat = cc
      have hc256 : cc < 256 := by rw [← hcc]; exact UInt8.toNat_lt _
      have HCC := Aside0.mk hcc
      clear hcc
      obtain ⟨k1, hk1, ew1⟩ : ∃ k1 : Nat, k1 = cc / 16 ∧ IntKind.u8.wrap ((cc : Int) / 16) = (k1 : Int) := ⟨cc / 16, rfl, by rw [IntKind.wrap_u8]; omega⟩
      obtain ⟨k2, hk2, ew2⟩ : ∃ k2 : Nat, k2 = cc % 16 ∧ (cc : Int).tmod 16 = (k2 : Int) := ⟨cc % 16, rfl, by rw [Int.tmod_eq_emod_of_nonneg (by omega)]; omega⟩
      have l1 : k1 < 16 := by omega
      have l2 : k2 < 16 := by omega
      have EW1 := Aside0.mk ew1
      have EW2 := Aside0.mk ew2
      have EK1 := Aside0.mk hk1
      have EK2 := Aside0.mk hk2
      clear ew1 ew2 hk1 hk2
      refine wpIn_region_any (by kernel_rfl) ?_
      try (change wpAnyIn _ _ _ _ _ _ _ _ _ (World.drew _))
      refine take_it (i := 0) (v := ?_) (by kernel_rfl) rfl (by kernel_rfl) (by kernel_rfl) (by kernel_rfl) (fun _ _ _ h => h) ⟨Or.inl ⟨by rfl, ?hy0⟩, fun _ => rfl⟩ ?_
      case hy0 => intro w; go_simp; with_reducible rfl
      refine take_it (i := 1) (v := .int .u8 (k1 : Int)) (by kernel_rfl) rfl (by kernel_rfl) (by kernel_rfl) (by kernel_rfl) (fun _ _ _ h => h) ⟨Or.inl ⟨by rfl, ?hy1⟩, fun _ => rfl⟩ ?_
      case hy1 => intro w; go_simp; rw [EW1.out]
      refine take_it (i := 2) (v := .int .u8 ((hexByte k1).toNat : Int)) (by kernel_rfl) rfl (by kernel_rfl) (by kernel_rfl) (by kernel_rfl) (fun _ _ _ h => h) ⟨Or.inl ⟨by rfl, ?hy2⟩, fun _ => rfl⟩ ?_
      case hy2 => intro w; go_simp; exact hex_ok k1 l1 _ _ _
      refine take_it (i := 3) (v := .string { data := #[hexByte k1] }) (by kernel_rfl) rfl (by kernel_rfl) (by kernel_rfl) (by kernel_rfl) (fun _ _ _ h => h) ⟨Or.inl ⟨by rfl, ?hy3⟩, fun _ => rfl⟩ ?_
      case hy3 => intro w; go_simp; exact hex_encode k1 l1
      refine take_it (i := 4) (v := .string { data := #[92, 120, hexByte k1] }) (by kernel_rfl) rfl (by kernel_rfl) (by kernel_rfl) (by kernel_rfl) (fun _ _ _ h => h) ⟨Or.inl ⟨by rfl, ?hy4⟩, fun _ => rfl⟩ ?_
      case hy4 => intro w; go_simp; rfl
      refine take_it (i := 5) (v := ?_) (by kernel_rfl) rfl (by kernel_rfl) (by kernel_rfl) (by kernel_rfl) (fun _ _ _ h => h) ⟨Or.inl ⟨by rfl, ?hy5⟩, fun _ => rfl⟩ ?_
      case hy5 => intro w; go_simp; with_reducible rfl
      refine take_it (i := 6) (v := .int .u8 (k2 : Int)) (by kernel_rfl) rfl (by kernel_rfl) (by kernel_rfl) (by kernel_rfl) (fun _ _ _ h => h) ⟨Or.inl ⟨by rfl, ?hy6⟩, fun _ => rfl⟩ ?_
      case hy6 => intro w; go_simp; rw [EW2.out]
      refine take_it (i := 7) (v := .int .u8 ((hexByte k2).toNat : Int)) (by kernel_rfl) rfl (by kernel_rfl) (by kernel_rfl) (by kernel_rfl) (fun _ _ _ h => h) ⟨Or.inl ⟨by rfl, ?hy7⟩, fun _ => rfl⟩ ?_
      case hy7 => intro w; go_simp; exact hex_ok k2 l2 _ _ _
      refine take_it (i := 8) (v := .string { data := #[hexByte k2] }) (by kernel_rfl) rfl (by kernel_rfl) (by kernel_rfl) (by kernel_rfl) (fun _ _ _ h => h) ⟨Or.inl ⟨by rfl, ?hy8⟩, fun _ => rfl⟩ ?_
      case hy8 => intro w; go_simp; exact hex_encode k2 l2
      refine take_it (i := 9) (v := .string { data := #[92, 120, hexByte k1, hexByte k2] }) (by kernel_rfl) rfl (by kernel_rfl) (by kernel_rfl) (by kernel_rfl) (fun _ _ _ h => h) ⟨Or.inl ⟨by rfl, ?hy9⟩, fun _ => rfl⟩ ?_
      case hy9 => intro w; go_simp; rfl
      refine wpAnyIn_ready (rs := [10]) (by kernel_rfl) (by simp) ?_
      refine AllReadyIn.cons rfl (fun K hK => ?_) AllReadyIn.nil
      go_simp
      refine ⟨trivial, (CallsIn.inRound l (callsIn_wide.2 (HWD.out k1 k2))).mono ?_⟩
      rintro e w3 ⟨rfl, h3, hb3, hk3⟩
      refine hK _ _ ?_
      clear hK K
      refine wpAnyIn_done (by kernel_rfl) ?_ _
      gi_wp2
      exact quote_round h3 hb3 hk3 hsv hB (by omega) (by rw [hsz]; omega) (qp_hex hx1 HCC.out EK1.out EK2.out ‹_› ‹_› ‹_› ‹_› ‹_› (by first | exact .inl ‹_› | exact .inr (.inl (beq_iff_eq.1 ‹(x.1 == 127) = true›)) | exact .inr (.inr ⟨‹_›, by have := beq_iff_eq.1 ‹((x.2.size : Int) == 1) = true›; omega⟩)))
    · generalize hcc : x.2[0].toNat = cc
      have hc256 : cc < 256 := by rw [← hcc]; exact UInt8.toNat_lt _
      have HCC := Aside0.mk hcc
      clear hcc
      obtain ⟨k1, hk1, ew1⟩ : ∃ k1 : Nat, k1 = cc / 16 ∧ IntKind.u8.wrap ((cc : Int) / 16) = (k1 : Int) := ⟨cc / 16, rfl, by rw [IntKind.wrap_u8]; omega⟩
      obtain ⟨k2, hk2, ew2⟩ : ∃ k2 : Nat, k2 = cc % 16 ∧ (cc : Int).tmod 16 = (k2 : Int) := ⟨cc % 16, rfl, by rw [Int.tmod_eq_emod_of_nonneg (by omega)]; omega⟩
      have l1 : k1 < 16 := by omega
      have l2 : k2 < 16 := by omega
      have EW1 := Aside0.mk ew1
      have EW2 := Aside0.mk ew2
      have EK1 := Aside0.mk hk1
      have EK2 := Aside0.mk hk2
      clear ew1 ew2 hk1 hk2
      refine wpIn_region_any (by kernel_rfl) ?_
      try (change wpAnyIn _ _ _ _ _ _ _ _ _ (World.drew _))
      refine take_it (i := 0) (v := ?_) (by kernel_rfl) rfl (by kernel_rfl) (by kernel_rfl) (by kernel_rfl) (fun _ _ _ h => h) ⟨Or.inl ⟨by rfl, ?hy0⟩, fun _ => rfl⟩ ?_
      case hy0 => intro w; go_simp; with_reducible rfl
      refine take_it (i := 1) (v := .int .u8 (k1 : Int)) (by kernel_rfl) rfl (by kernel_rfl) (by kernel_rfl) (by kernel_rfl) (fun _ _ _ h => h) ⟨Or.inl ⟨by rfl, ?hy1⟩, fun _ => rfl⟩ ?_
      case hy1 => intro w; go_simp; rw [EW1.out]
      refine take_it (i := 2) (v := .int .u8 ((hexByte k1).toNat : Int)) (by kernel_rfl) rfl (by kernel_rfl) (by kernel_rfl) (by kernel_rfl) (fun _ _ _ h => h) ⟨Or.inl ⟨by rfl, ?hy2⟩, fun _ => rfl⟩ ?_
      case hy2 => intro w; go_simp; exact hex_ok k1 l1 _ _ _
      refine take_it (i := 3) (v := .string { data := #[hexByte k1] }) (by kernel_rfl) rfl (by kernel_rfl) (by kernel_rfl) (by kernel_rfl) (fun _ _ _ h => h) ⟨Or.inl ⟨by rfl, ?hy3⟩, fun _ => rfl⟩ ?_
      case hy3 => intro w; go_simp; exact hex_encode k1 l1
      refine take_it (i := 4) (v := .string { data := #[92, 120, hexByte k1] }) (by kernel_rfl) rfl (by kernel_rfl) (by kernel_rfl) (by kernel_rfl) (fun _ _ _ h => h) ⟨Or.inl ⟨by rfl, ?hy4⟩, fun _ => rfl⟩ ?_
      case hy4 => intro w; go_simp; rfl
      refine take_it (i := 5) (v := ?_) (by kernel_rfl) rfl (by kernel_rfl) (by kernel_rfl) (by kernel_rfl) (fun _ _ _ h => h) ⟨Or.inl ⟨by rfl, ?hy5⟩, fun _ => rfl⟩ ?_
      case hy5 => intro w; go_simp; with_reducible rfl
      refine take_it (i := 6) (v := .int .u8 (k2 : Int)) (by kernel_rfl) rfl (by kernel_rfl) (by kernel_rfl) (by kernel_rfl) (fun _ _ _ h => h) ⟨Or.inl ⟨by rfl, ?hy6⟩, fun _ => rfl⟩ ?_
      case hy6 => intro w; go_simp; rw [EW2.out]
      refine take_it (i := 7) (v := .int .u8 ((hexByte k2).toNat : Int)) (by kernel_rfl) rfl (by kernel_rfl) (by kernel_rfl) (by kernel_rfl) (fun _ _ _ h => h) ⟨Or.inl ⟨by rfl, ?hy7⟩, fun _ => rfl⟩ ?_
      case hy7 => intro w; go_simp; exact hex_ok k2 l2 _ _ _
      refine take_it (i := 8) (v := .string { data := #[hexByte k2] }) (by kernel_rfl) rfl (by kernel_rfl) (by kernel_rfl) (by kernel_rfl) (fun _ _ _ h => h) ⟨Or.inl ⟨by rfl, ?hy8⟩, fun _ => rfl⟩ ?_
      case hy8 => intro w; go_simp; exact hex_encode k2 l2
      refine take_it (i := 9) (v := .string { data := #[92, 120, hexByte k1, hexByte k2] }) (by kernel_rfl) rfl (by kernel_rfl) (by kernel_rfl) (by kernel_rfl) (fun _ _ _ h => h) ⟨Or.inl ⟨by rfl, ?hy9⟩, fun _ => rfl⟩ ?_
      case hy9 => intro w; go_simp; rfl
      refine wpAnyIn_ready (rs := [10]) (by kernel_rfl) (by simp) ?_
      refine AllReadyIn.cons rfl (fun K hK => ?_) AllReadyIn.nil
      go_simp
      refine ⟨trivial, (CallsIn.inRound l (callsIn_wide.2 (HWD.out k1 k2))).mono ?_⟩
      rintro e w3 ⟨rfl, h3, hb3, hk3⟩
      refine hK _ _ ?_
      clear hK K
      refine wpAnyIn_done (by kernel_rfl) ?_ _
      gi_wp2
      exact quote_round h3 hb3 hk3 hsv hB (by omega) (by rw [hsz]; omega) (qp_hex hx1 HCC.out EK1.out EK2.out ‹_› ‹_› ‹_› ‹_› ‹_› (by first | exact .inl ‹_› | exact .inr (.inl (beq_iff_eq.1 ‹(x.1 == 127) = true›)) | exact .inr (.inr ⟨‹_›, by have := beq_iff_eq.1 ‹((x.2.size : Int) == 1) = true›; omega⟩)))
    · generalize hcc : x.2[0].toNat = cc
      have hc256 : cc < 256 := by rw [← hcc]; exact UInt8.toNat_lt _
      have HCC := Aside0.mk hcc
      clear hcc
      obtain ⟨k1, hk1, ew1⟩ : ∃ k1 : Nat, k1 = cc / 16 ∧ IntKind.u8.wrap ((cc : Int) / 16) = (k1 : Int) := ⟨cc / 16, rfl, by rw [IntKind.wrap_u8]; omega⟩
      obtain ⟨k2, hk2, ew2⟩ : ∃ k2 : Nat, k2 = cc % 16 ∧ (cc : Int).tmod 16 = (k2 : Int) := ⟨cc % 16, rfl, by rw [Int.tmod_eq_emod_of_nonneg (by omega)]; omega⟩
      have l1 : k1 < 16 := by omega
      have l2 : k2 < 16 := by omega
      have EW1 := Aside0.mk ew1
      have EW2 := Aside0.mk ew2
      have EK1 := Aside0.mk hk1
      have EK2 := Aside0.mk hk2
      clear ew1 ew2 hk1 hk2
      refine wpIn_region_any (by kernel_rfl) ?_
      try (change wpAnyIn _ _ _ _ _ _ _ _ _ (World.drew _))
      refine take_it (i := 0) (v := ?_) (by kernel_rfl) rfl (by kernel_rfl) (by kernel_rfl) (by kernel_rfl) (fun _ _ _ h => h) ⟨Or.inl ⟨by rfl, ?hy0⟩, fun _ => rfl⟩ ?_
      case hy0 => intro w; go_simp; with_reducible rfl
      refine take_it (i := 1) (v := .int .u8 (k1 : Int)) (by kernel_rfl) rfl (by kernel_rfl) (by kernel_rfl) (by kernel_rfl) (fun _ _ _ h => h) ⟨Or.inl ⟨by rfl, ?hy1⟩, fun _ => rfl⟩ ?_
      case hy1 => intro w; go_simp; rw [EW1.out]
      refine take_it (i := 2) (v := .int .u8 ((hexByte k1).toNat : Int)) (by kernel_rfl) rfl (by kernel_rfl) (by kernel_rfl) (by kernel_rfl) (fun _ _ _ h => h) ⟨Or.inl ⟨by rfl, ?hy2⟩, fun _ => rfl⟩ ?_
      case hy2 => intro w; go_simp; exact hex_ok k1 l1 _ _ _
      refine take_it (i := 3) (v := .string { data := #[hexByte k1] }) (by kernel_rfl) rfl (by kernel_rfl) (by kernel_rfl) (by kernel_rfl) (fun _ _ _ h => h) ⟨Or.inl ⟨by rfl, ?hy3⟩, fun _ => rfl⟩ ?_
      case hy3 => intro w; go_simp; exact hex_encode k1 l1
      refine take_it (i := 4) (v := .string { data := #[92, 120, hexByte k1] }) (by kernel_rfl) rfl (by kernel_rfl) (by kernel_rfl) (by kernel_rfl) (fun _ _ _ h => h) ⟨Or.inl ⟨by rfl, ?hy4⟩, fun _ => rfl⟩ ?_
      case hy4 => intro w; go_simp; rfl
      refine take_it (i := 5) (v := ?_) (by kernel_rfl) rfl (by kernel_rfl) (by kernel_rfl) (by kernel_rfl) (fun _ _ _ h => h) ⟨Or.inl ⟨by rfl, ?hy5⟩, fun _ => rfl⟩ ?_
      case hy5 => intro w; go_simp; with_reducible rfl
      refine take_it (i := 6) (v := .int .u8 (k2 : Int)) (by kernel_rfl) rfl (by kernel_rfl) (by kernel_rfl) (by kernel_rfl) (fun _ _ _ h => h) ⟨Or.inl ⟨by rfl, ?hy6⟩, fun _ => rfl⟩ ?_
      case hy6 => intro w; go_simp; rw [EW2.out]
      refine take_it (i := 7) (v := .int .u8 ((hexByte k2).toNat : Int)) (by kernel_rfl) rfl (by kernel_rfl) (by kernel_rfl) (by kernel_rfl) (fun _ _ _ h => h) ⟨Or.inl ⟨by rfl, ?hy7⟩, fun _ => rfl⟩ ?_
      case hy7 => intro w; go_simp; exact hex_ok k2 l2 _ _ _
      refine take_it (i := 8) (v := .string { data := #[hexByte k2] }) (by kernel_rfl) rfl (by kernel_rfl) (by kernel_rfl) (by kernel_rfl) (fun _ _ _ h => h) ⟨Or.inl ⟨by rfl, ?hy8⟩, fun _ => rfl⟩ ?_
      case hy8 => intro w; go_simp; exact hex_encode k2 l2
      refine take_it (i := 9) (v := .string { data := #[92, 120, hexByte k1, hexByte k2] }) (by kernel_rfl) rfl (by kernel_rfl) (by kernel_rfl) (by kernel_rfl) (fun _ _ _ h => h) ⟨Or.inl ⟨by rfl, ?hy9⟩, fun _ => rfl⟩ ?_
      case hy9 => intro w; go_simp; rfl
      refine wpAnyIn_ready (rs := [10]) (by kernel_rfl) (by simp) ?_
      refine AllReadyIn.cons rfl (fun K hK => ?_) AllReadyIn.nil
      go_simp
      refine ⟨trivial, (CallsIn.inRound l (callsIn_wide.2 (HWD.out k1 k2))).mono ?_⟩
      rintro e w3 ⟨rfl, h3, hb3, hk3⟩
      refine hK _ _ ?_
      clear hK K
      refine wpAnyIn_done (by kernel_rfl) ?_ _
      gi_wp2
      exact quote_round h3 hb3 hk3 hsv hB (by omega) (by rw [hsz]; omega) (qp_hex hx1 HCC.out EK1.out EK2.out ‹_› ‹_› ‹_› ‹_› ‹_› (by first | exact .inl ‹_› | exact .inr (.inl (beq_iff_eq.1 ‹(x.1 == 127) = true›)) | exact .inr (.inr ⟨‹_›, by have := beq_iff_eq.1 ‹((x.2.size : Int) == 1) = true›; omega⟩)))
    all_goals
      refine ⟨trivial, (CallsIn.inRound l (callsIn_wide.2 (HWS.out _ ?_))).mono ?_⟩
      · first | (simp only [ByteArray.size_append]; show 1 + _ ≤ 5; omega) | decide | omega
      · rintro e w3 ⟨rfl, h3, hb3, hk3⟩
        gi_wp2
        exact quote_round h3 hb3 hk3 hsv hB (by omega) (by rw [hsz]; omega) (by first | exact qp34 ‹_› | exact qp92 ‹_› ‹_› | exact qp10 ‹_› | exact qp13 ‹_› | exact qp9 ‹_› | exact qp_self1 ‹_› ‹_› ‹_› ‹_› ‹_› ‹_› ‹_› ‹_› | exact qp_self2 ‹_› ‹_› ‹_› ‹_› ‹_› ‹_› ‹_› ‹_›)
  case done =>
    rintro D ys W hD rfl ⟨hv, ⟨sv, hsv⟩, hB⟩ hK
    have hD' : w.heap.size + 2 ≤ D := by rw [hsz] at hD; omega
    have hlen : (34 :: (piecesOf s).flatMap quotePiece).length ≤ 87960930222081 := by
      have h2 := piecesOf_length s
      have h3 := flatMap_length (piecesOf s) (piecesOf_ok s)
      rw [List.length_cons]
      omega
    gi_wp2_with fail
    refine ⟨trivial, (callsIn_wide.2 (bld_WriteByte w.heap.size w.heap.size (34 :: (piecesOf s).flatMap quotePiece) 34 W hv (by omega) hB.size)).mono ?_⟩
    rintro e w3 ⟨rfl, h3, hb3, hk3⟩
    have hK3 := hk3 D _ hK (fun e' => by have := Option.some.inj e'; omega) (fun c fz e' => by cases e')
    have hB3 := hB.trans hb3
    clear hb3 hk3 hK hB hv hsv
    gi_wp2_with fail
    refine ⟨trivial, (callsIn_wide.2 (bld_String w.heap.size w.heap.size _ w3 h3 hB3.size)).mono ?_⟩
    rintro e w4 ⟨rfl, h4, hb4, hk4⟩
    have hK4 := hk4 D _ hK3 (fun e' => by have := Option.some.inj e'; omega) (fun c fz e' => by cases e')
    gi_wp2
    refine ⟨by simp, .inl ⟨_, _, rfl, run_takeDeferred hK4, ?_⟩⟩
    exact ⟨_, results_tmp rfl _ _ _, rfl, (hB3.trans hb4).trans (belowK_b (w := w) (Nat.le_refl _) _ D _ _ (by omega) hK4 rfl rfl)⟩
  case stop =>
    rintro D c pre W _ _ h _
    exact h.elim
end Go.Proofs.YtnmofpefofkoeaaGreatDoor
namespace Go.Proofs.YtnmofpefofkoeaaGreatDoor.P
open Go Go.RowKit Go.Proofs.YtnmofpefofkoeaaGreatDoorW.PrintWords

def quote_Quote.f (a0 : ByteArray) : Option ByteArray := if a0.size ≤ 17592186044416 then some ⟨(quoteBytes a0).toArray⟩ else none

theorem quote_Quote.calls (a0 : ByteArray) (r : ByteArray) (w : World) (hG : Aside0 (G w)) (h : quote_Quote.f a0 = some r) :
    Calls Tryz.prog 18 #[.string a0] w fun e w' => e = .returned (.string r) ∧ Below w.heap.size w w' := by
  unfold quote_Quote.f at h
  split at h
  · cases h
    exact quote_calls a0 ‹_› w hG
  · cases h
end Go.Proofs.YtnmofpefofkoeaaGreatDoor.P
set_option linter.unusedVariables false
namespace Go.Proofs.YtnmofpefofkoeaaGreatDoor
open Go Go.Proofs.YtnmofpefofkoeaaGreatDoorW.PrintWords Go.Lib

/-- A rune of a text with its bytes: below 128; more bytes than one, each from 128 on; a byte that is none's. -/
inductive Kind : Int → List UInt8 → Prop
  | ascii (c : UInt8) (h : c.toNat < 128) : Kind c.toNat [c]
  | multi (r : Nat) (l : List UInt8) (h1 : 128 ≤ r) (h2 : r ≤ 1114111) (hs : r < 55296 ∨ 57343 < r) (he : l = encodeRune (r : Int)) (hb : ∀ c ∈ l, 128 ≤ c.toNat) (hl : 2 ≤ l.length ∧ l.length ≤ 4) : Kind r l
  | bad (c : UInt8) (h : 128 ≤ c.toNat) : Kind 65533 [c]

theorem decodeGo_list (l : List UInt8) (h : l ≠ []) : decodeGo ⟨l.toArray⟩ = decodeL l := by
  unfold decodeGo
  rw [if_neg (by show ¬ l.length = 0; simpa using h)]
  rfl

theorem len2 : ∀ (a : UInt8) (t : List UInt8), 1 < (a :: t).length → ∃ b t', t = b :: t'
  | _, [], h => absurd h (by simp)
  | _, b :: t', _ => ⟨b, t', rfl⟩
theorem len3 : ∀ (a : UInt8) (t : List UInt8), 2 < (a :: t).length → ∃ b d t', t = b :: d :: t'
  | _, [], h => absurd h (by simp)
  | _, [_], h => absurd h (by simp)
  | _, b :: d :: t', _ => ⟨b, d, t', rfl⟩
theorem len4 : ∀ (a : UInt8) (t : List UInt8), 3 < (a :: t).length → ∃ b d f t', t = b :: d :: f :: t'
  | _, [], h => absurd h (by simp)
  | _, [_], h => absurd h (by simp)
  | _, [_, _], h => absurd h (by simp)
  | _, b :: d :: f :: t', _ => ⟨b, d, f, t', rfl⟩
theorem head_kind (l : List UInt8) (hne : l ≠ []) : Kind ((decodeL l).1 : Nat) (l.take (decodeL l).2) := by
  have hed := encode_decode l hne
  obtain ⟨a, t, rfl⟩ : ∃ a t, l = a :: t := by cases l with | nil => exact absurd rfl hne | cons a t => exact ⟨a, t, rfl⟩
  rw [decodeL_N] at hed ⊢
  have k0 := a.toNat_lt
  rcases decodeN_shape (a :: t).length ((a :: t).getD 0 0).toNat ((a :: t).getD 1 0).toNat ((a :: t).getD 2 0).toNat ((a :: t).getD 3 0).toNat with ⟨c, e⟩ | ⟨c1, c2, c3, cv, e⟩ | ⟨c1, c2, c3, c4, cv, cs, e⟩ | ⟨c1, c2, c3, c4, c5, cv, cw, e⟩ | e
  · rw [e]
    exact Kind.ascii a c
  · rw [e] at hed ⊢
    simp only at hed ⊢
    obtain ⟨b, t, rfl⟩ : ∃ b t', t = b :: t' := len2 a t c2
    simp only [List.getD_cons_zero, List.getD_cons_succ] at c1 c3 cv hed ⊢
    refine Kind.multi _ _ cv (by omega) (by omega) (hed (by omega)).symm ?_ (by simp)
    intro c hc
    simp at hc
    rcases hc with rfl | rfl <;> omega
  · rw [e] at hed ⊢
    simp only at hed ⊢
    obtain ⟨b, d, t, rfl⟩ : ∃ b d t', t = b :: d :: t' := len3 a t c2
    simp only [List.getD_cons_zero, List.getD_cons_succ] at c1 c3 c4 cv cs hed ⊢
    refine Kind.multi _ _ (by omega) (by omega) (by omega) (hed (by omega)).symm ?_ (by simp)
    intro c hc
    simp at hc
    rcases hc with rfl | rfl | rfl <;> omega
  · rw [e] at hed ⊢
    simp only at hed ⊢
    obtain ⟨b, d, f, t, rfl⟩ : ∃ b d f t', t = b :: d :: f :: t' := len4 a t c2
    simp only [List.getD_cons_zero, List.getD_cons_succ] at c1 c3 c4 c5 cv cw hed ⊢
    refine Kind.multi _ _ (by omega) (by omega) (by omega) (hed (by omega)).symm ?_ (by simp)
    intro c hc
    simp at hc
    rcases hc with rfl | rfl | rfl | rfl <;> omega
  · rw [e]
    refine Kind.bad a ?_
    rcases Nat.lt_or_ge a.toNat 128 with h | h
    · have := decodeN_ascii (a :: t).length ((a :: t).getD 0 0).toNat ((a :: t).getD 1 0).toNat ((a :: t).getD 2 0).toNat ((a :: t).getD 3 0).toNat h
      rw [e] at this
      have h2 := congrArg Prod.fst this
      simp only at h2
      have h3 : (a :: t).getD 0 0 = a := rfl
      rw [h3] at h2
      omega
    · exact h

theorem kinds_flat : ∀ (n : Nat) (s : ByteArray), s.size ≤ n → (∀ x ∈ piecesOf s, Kind x.1 x.2.data.toList) ∧ ((piecesOf s).flatMap fun x => x.2.data.toList) = s.data.toList
  | n, s, hn => by
    by_cases h0 : s.size = 0
    · rw [piecesOf_nil s h0]
      refine ⟨fun x hx => (by cases hx), ?_⟩
      have : s.data.toList.length = 0 := by rw [ba_len, h0]
      rw [List.eq_nil_of_length_eq_zero this]; rfl
    · have hb := decodeGo_bounds s h0
      cases n with
      | zero => omega
      | succ n =>
        have ih := kinds_flat n (s.extract (decodeGo s).2 s.size) (by rw [extract_size]; omega)
        rw [piecesOf_cons s h0]
        have hl : s.data.toList ≠ [] := fun h => by have := ba_len s; rw [h] at this; simp at this; omega
        have hs : s = ⟨s.data.toList.toArray⟩ := ba_ext rfl
        have hd : decodeGo s = decodeL s.data.toList := by
          have := decodeGo_list s.data.toList hl
          rw [← hs] at this
          exact this
        have e1 : (s.extract 0 (decodeGo s).2).data.toList = s.data.toList.take (decodeL s.data.toList).2 := by rw [ba_extract, hd, List.drop_zero]
        have e2 : (s.extract (decodeGo s).2 s.size).data.toList = s.data.toList.drop (decodeL s.data.toList).2 := by
          rw [ba_extract, hd, List.take_of_length_le (by rw [ba_len]; exact Nat.le_refl _)]
        constructor
        · intro x hx
          rcases List.mem_cons.1 hx with rfl | hx
          · simp only
            rw [e1, hd]
            exact head_kind _ hl
          · exact ih.1 x hx
        · rw [List.flatMap_cons, ih.2]
          simp only
          rw [e1, e2, List.take_append_drop]
theorem kinds (s : ByteArray) : ∀ x ∈ piecesOf s, Kind x.1 x.2.data.toList := (kinds_flat s.size s (Nat.le_refl _)).1
theorem flat (s : ByteArray) : ((piecesOf s).flatMap fun x => x.2.data.toList) = s.data.toList := (kinds_flat s.size s (Nat.le_refl _)).2

/-- What stands in quotes for a rune, of its bytes as a list. -/
def qp (r : Int) (l : List UInt8) : List UInt8 :=
  if r = 34 then 92 :: l else if r = 92 then 92 :: l else if r = 10 then [92, 110] else if r = 13 then [92, 114] else if r = 9 then [92, 116]
  else if r < 32 ∨ r = 127 ∨ (r = 65533 ∧ l.length = 1) then [92, 120, hexByte ((l.getD 0 0).toNat / 16), hexByte ((l.getD 0 0).toNat % 16)] else l
theorem quotePiece_qp (x : Int × ByteArray) : quotePiece x = qp x.1 x.2.data.toList := by
  unfold quotePiece qp
  have e : x.2.get! 0 = x.2.data.toList.getD 0 0 := by
    obtain ⟨r, b⟩ := x
    cases b with | mk d => cases d with | mk l => cases l <;> rfl
  rw [e, ba_len]

theorem hex_read : ∀ c : Fin 256, allHex [hexByte (c.val / 16), hexByte (c.val % 16)] = true ∧ hexVal [hexByte (c.val / 16), hexByte (c.val % 16)] = c.val := by decide +kernel

theorem unq_esc (c : UInt8) (b : Nat) (h : escOf c.toNat = some b) (rest acc : List UInt8) : unq true (92 :: c :: rest) acc = unq true rest (acc ++ [UInt8.ofNat b]) := by
  rw [unq_cons, if_neg (by decide), if_pos (by decide), escL, h]
theorem unq_hex (c : UInt8) (rest acc : List UInt8) : unq true (92 :: 120 :: hexByte (c.toNat / 16) :: hexByte (c.toNat % 16) :: rest) acc = unq true rest (acc ++ [c]) := by
  obtain ⟨h1, h2⟩ := hex_read ⟨c.toNat, c.toNat_lt⟩
  simp only at h1 h2
  rw [unq_cons, if_neg (by decide), if_pos (by decide), escL, show escOf (120 : UInt8).toNat = none from rfl, show codOf (120 : UInt8).toNat = some 2 from rfl]
  simp only
  rw [if_neg (by simp)]
  simp only [List.take_succ_cons, List.take_zero, List.drop_succ_cons, List.drop_zero]
  rw [if_pos h1, h2]
  simp
theorem unq_plain (dq : Bool) (c : UInt8) (h1 : c.toNat ≠ markOf dq) (h2 : c.toNat ≠ 10) (h3 : c.toNat ≠ 92) (rest acc : List UInt8) : unq dq (c :: rest) acc = unq dq rest (acc ++ [c]) := by
  rw [unq_cons, if_neg (by rintro (h | ⟨_, h⟩); exact h1 h; exact h2 h), if_neg (by rintro ⟨_, h⟩; exact h3 h)]
theorem unq_high (dq : Bool) : ∀ (l rest acc : List UInt8), (∀ c ∈ l, 128 ≤ c.toNat) → unq dq (l ++ rest) acc = unq dq rest (acc ++ l)
  | [], rest, acc, _ => by simp
  | c :: l, rest, acc, h => by
    have hc := h c (by simp)
    rw [List.cons_append, unq_plain dq c (by unfold markOf; split <;> omega) (by omega) (by omega), unq_high dq l rest _ (fun x hx => h x (by simp [hx]))]
    simp

theorem qp_read {r : Int} {l : List UInt8} (h : Kind r l) (rest acc : List UInt8) : unq true (qp r l ++ rest) acc = unq true rest (acc ++ l) := by
  cases h with
  | ascii c hc =>
    have u : ∀ n : Nat, n < 256 → c.toNat = n → c = UInt8.ofNat n := fun n hn h => by rw [← h]; simp
    unfold qp
    by_cases h34 : c.toNat = 34
    · rw [if_pos (by omega), u 34 (by omega) h34]; exact unq_esc 34 34 rfl rest acc
    · rw [if_neg (by omega)]
      by_cases h92 : c.toNat = 92
      · rw [if_pos (by omega), u 92 (by omega) h92]; exact unq_esc 92 92 rfl rest acc
      · rw [if_neg (by omega)]
        by_cases h10 : c.toNat = 10
        · rw [if_pos (by omega), u 10 (by omega) h10]; exact unq_esc 110 10 rfl rest acc
        · rw [if_neg (by omega)]
          by_cases h13 : c.toNat = 13
          · rw [if_pos (by omega), u 13 (by omega) h13]; exact unq_esc 114 13 rfl rest acc
          · rw [if_neg (by omega)]
            by_cases h9 : c.toNat = 9
            · rw [if_pos (by omega), u 9 (by omega) h9]; exact unq_esc 116 9 rfl rest acc
            · rw [if_neg (by omega)]
              by_cases hh : c.toNat < 32 ∨ c.toNat = 127
              · rw [if_pos (by omega)]; exact unq_hex c rest acc
              · rw [if_neg (by omega)]
                exact unq_plain true c (by unfold markOf; simpa using h34) h10 h92 rest acc
  | multi r l h1 h2 hs he hb hl =>
    unfold qp
    rw [if_neg (by omega), if_neg (by omega), if_neg (by omega), if_neg (by omega), if_neg (by omega), if_neg (by omega)]
    exact unq_high true l rest acc hb
  | bad c hc =>
    unfold qp
    rw [if_neg (by decide), if_neg (by decide), if_neg (by decide), if_neg (by decide), if_neg (by decide), if_pos (by right; right; exact ⟨rfl, rfl⟩)]
    exact unq_hex c rest acc

theorem pieces_read : ∀ (ps : List (Int × ByteArray)), (∀ x ∈ ps, Kind x.1 x.2.data.toList) → ∀ (rest acc : List UInt8), unq true (ps.flatMap quotePiece ++ rest) acc = unq true rest (acc ++ ps.flatMap fun x => x.2.data.toList)
  | [], _, rest, acc => by simp
  | x :: ps, h, rest, acc => by
    rw [List.flatMap_cons, List.append_assoc, quotePiece_qp, qp_read (h x (by simp)), pieces_read ps (fun y hy => h y (by simp [hy])), List.flatMap_cons, List.append_assoc]

/-- What was put in quotes is read as it was. -/
theorem unquote_quote (s : ByteArray) : unquoteP ⟨(quoteBytes s).toArray⟩ = some s.data.toList := by
  unfold quoteBytes
  rw [show (34 : UInt8) :: (piecesOf s).flatMap quotePiece ++ [34] = 34 :: ((piecesOf s).flatMap quotePiece ++ [34]) from rfl, unquoteP_mk, if_pos rfl, if_pos rfl]
  have := pieces_read (piecesOf s) (kinds s) [] []
  rw [List.append_nil] at this
  rw [this, unq_nil, flat]
  rfl
end Go.Proofs.YtnmofpefofkoeaaGreatDoor
set_option linter.unusedVariables false
namespace Go.Proofs.YtnmofpefofkoeaaGreatDoor
open Go Go.Lib

def validR (v : Nat) : Prop := v < 55296 ∨ 57343 < v ∧ v ≤ 1114111
/-- The rune whose bytes are written for a number. -/
def vr (r : Int) : Nat := if 0 ≤ r ∧ r ≤ 1114111 ∧ (r < 55296 ∨ 57343 < r) then r.toNat else 65533
theorem enc_vr (r : Int) : encodeRune r = encodeRune (vr r : Nat) := by
  unfold vr
  split
  · rw [show ((r.toNat : Nat) : Int) = r by omega]
  · have : encodeRuneZ r = [239, 191, 189] := by
      unfold encodeRuneZ
      rw [if_neg (by omega), if_neg (by omega), if_neg (by omega), if_neg (by omega)]
    unfold encodeRune
    rw [this]
    decide

theorem enc1 (v : Nat) (h : v < 128) : encodeRune (v : Int) = [v.toUInt8] := by
  unfold encodeRune; rw [encodeRuneZ_one (by omega) (by omega)]; rfl
theorem enc2 (v : Nat) (h : 128 ≤ v) (h2 : v < 2048) : encodeRune (v : Int) = [(192 + v / 64).toUInt8, (128 + v % 64).toUInt8] := by
  unfold encodeRune; rw [encodeRuneZ_two (by omega) (by omega)]
  simp only [List.map_cons, List.map_nil]
  rw [show (192 + (v : Int) / 64).toNat = 192 + v / 64 by omega, show (128 + (v : Int) % 64).toNat = 128 + v % 64 by omega]
theorem enc3 (v : Nat) (h : 2048 ≤ v) (h2 : v < 65536) (hs : v < 55296 ∨ 57343 < v) : encodeRune (v : Int) = [(224 + v / 4096).toUInt8, (128 + v / 64 % 64).toUInt8, (128 + v % 64).toUInt8] := by
  unfold encodeRune; rw [encodeRuneZ_three (by omega)]
  simp only [List.map_cons, List.map_nil]
  rw [show (224 + (v : Int) / 4096).toNat = 224 + v / 4096 by omega, show (128 + (v : Int) / 64 % 64).toNat = 128 + v / 64 % 64 by omega, show (128 + (v : Int) % 64).toNat = 128 + v % 64 by omega]
theorem enc4 (v : Nat) (h : 65536 ≤ v) (h2 : v ≤ 1114111) : encodeRune (v : Int) = [(240 + v / 262144).toUInt8, (128 + v / 4096 % 64).toUInt8, (128 + v / 64 % 64).toUInt8, (128 + v % 64).toUInt8] := by
  unfold encodeRune; rw [encodeRuneZ_four (by omega) (by omega)]
  simp only [List.map_cons, List.map_nil]
  rw [show (240 + (v : Int) / 262144).toNat = 240 + v / 262144 by omega, show (128 + (v : Int) / 4096 % 64).toNat = 128 + v / 4096 % 64 by omega, show (128 + (v : Int) / 64 % 64).toNat = 128 + v / 64 % 64 by omega, show (128 + (v : Int) % 64).toNat = 128 + v % 64 by omega]

end Go.Proofs.YtnmofpefofkoeaaGreatDoor

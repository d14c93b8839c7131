/- Unquote and the pieces of a text as plain lists of bytes. No program in sight. -/
import Derived.Test.YtcpknkdnboiecaaDoorUnquote
import Derived.Test.YtcpknkdnboiecaaDoorPieces
import Derived.Lib.MapLaws
set_option linter.unusedVariables false
namespace Go.Proofs.YtcpknkdnboiecaaDoor
open Go Go.Proofs.YtcpknkdnboiecaaDoorW.PrintWords

theorem ba_ext {s t : ByteArray} (h : s.data.toList = t.data.toList) : s = t := by
  cases s with | mk a => cases t with | mk b => cases a with | mk l => cases b with | mk m => simp only at h; rw [h]
theorem ba_len (s : ByteArray) : s.data.toList.length = s.size := (Lib.size_eq s).symm
theorem ba_extract (s : ByteArray) (a b : Nat) : (s.extract a b).data.toList = (s.data.toList.take b).drop a := by
  rw [ByteArray.data_extract, Array.toList_extract, List.extract_eq_take_drop, List.drop_take]

def escL : List UInt8 → Option (List UInt8 × List UInt8)
  | [] => none
  | c :: t => match escOf c.toNat with
    | some b => some ([UInt8.ofNat b], t)
    | none => match codOf c.toNat with
      | none => none
      | some n => if t.length < n then none else
        if allHex (t.take n) then
          if n = 2 then some ([UInt8.ofNat (hexVal (t.take n))], t.drop n)
          else if validN (hexVal (t.take n)) then some (Lib.encodeRune (hexVal (t.take n) : Nat), t.drop n) else none
        else none
def ofL (x : List UInt8 × List UInt8) : ByteArray × ByteArray := (⟨x.1.toArray⟩, ⟨x.2.toArray⟩)

theorem escapeP_list (l : List UInt8) : escapeP ⟨l.toArray⟩ = (escL l).map ofL := by
  have hsz : (⟨l.toArray⟩ : ByteArray).size = l.length := rfl
  cases l with
  | nil => rfl
  | cons c t =>
    unfold escapeP
    rw [if_neg (by rw [hsz]; simp)]
    have hg : ((⟨(c :: t).toArray⟩ : ByteArray).data.toList.getD 0 0) = c := rfl
    rw [hg, escL]
    cases escOf c.toNat with
    | some b =>
      simp only [Option.map_some, ofL]
      congr 2
      refine ba_ext ?_
      rw [ba_extract, hsz]; simp
    | none =>
      simp only
      cases codOf c.toNat with
      | none => rfl
      | some n =>
        simp only
        have e1 : ((⟨(c :: t).toArray⟩ : ByteArray).extract 1 (1 + n)).data.toList = t.take n := by
          rw [ba_extract, Nat.add_comm]; simp
        have e2 : (⟨(c :: t).toArray⟩ : ByteArray).extract (1 + n) (⟨(c :: t).toArray⟩ : ByteArray).size = ⟨(t.drop n).toArray⟩ := by
          refine ba_ext ?_
          rw [ba_extract, hsz, Nat.add_comm]; simp
        rw [e1, e2, hsz, List.length_cons]
        by_cases h : t.length < n
        · rw [if_pos (by omega), if_pos h]; rfl
        · rw [if_neg (by omega), if_neg h]
          split
          · split
            · rfl
            · split <;> rfl
          · rfl

theorem escL_len {t u r : List UInt8} (h : escL t = some (u, r)) : r.length < t.length := by
  unfold escL at h
  split at h
  · cases h
  · split at h
    · cases h; simp
    · split at h
      · cases h
      · split at h
        · cases h
        · rename_i c t' _ _ _ n _ _
          split at h
          · split at h
            · cases h; simp [List.length_drop]; omega
            · split at h
              · cases h; simp [List.length_drop]; omega
              · cases h
          · cases h

def markOf (dq : Bool) : Nat := if dq = true then 34 else 96
def unqL (dq : Bool) : Nat → List UInt8 → List UInt8 → Option (List UInt8)
  | 0, _, _ => none
  | _ + 1, [], acc => some acc
  | k + 1, c :: t, acc => if c.toNat = markOf dq ∨ dq = true ∧ c.toNat = 10 then none
    else if dq = true ∧ c.toNat = 92 then
      match escL t with
      | none => none
      | some x => unqL dq k x.2 (acc ++ x.1)
    else unqL dq k t (acc ++ [c])

theorem unqLoop_list (dq : Bool) : ∀ (k : Nat) (l acc : List UInt8), unqLoop dq k ⟨l.toArray⟩ acc = unqL dq k l acc
  | 0, _, _ => by simp [unqLoop, unqL]
  | k + 1, [], acc => by
    rw [unqLoop, unqL, if_pos (show (⟨([] : List UInt8).toArray⟩ : ByteArray).size = 0 from rfl)]
  | k + 1, c :: t, acc => by
    have hsz : (⟨(c :: t).toArray⟩ : ByteArray).size = t.length + 1 := rfl
    have e1 : (⟨(c :: t).toArray⟩ : ByteArray).extract 1 (⟨(c :: t).toArray⟩ : ByteArray).size = ⟨t.toArray⟩ := by
      refine ba_ext ?_
      rw [ba_extract, hsz]; simp
    have hg : ((⟨(c :: t).toArray⟩ : ByteArray).data.toList.getD 0 0) = c := rfl
    have hm : ((c.toNat : Int) = if dq = true then 34 else 96) ↔ c.toNat = markOf dq := by
      unfold markOf; cases dq <;> simp <;> omega
    rw [unqLoop, unqL, if_neg (by rw [hsz]; omega), e1, hg]
    by_cases h1 : c.toNat = markOf dq ∨ dq = true ∧ c.toNat = 10
    · rw [if_pos h1, if_pos (by rcases h1 with h | h; exact Or.inl (hm.2 h); exact Or.inr h)]
    · rw [if_neg h1, if_neg (by intro h; exact h1 (by rcases h with h | h; exact Or.inl (hm.1 h); exact Or.inr h))]
      by_cases h2 : dq = true ∧ c.toNat = 92
      · rw [if_pos h2, if_pos h2, escapeP_list]
        cases hE : escL t with
        | none => rfl
        | some x =>
          simp only [Option.map_some, ofL]
          exact unqLoop_list dq k x.2 _
      · rw [if_neg h2, if_neg h2]
        exact unqLoop_list dq k t _

/-- More rounds than bytes change nothing. -/
theorem unqL_mono (dq : Bool) : ∀ (k m : Nat) (l acc : List UInt8), l.length < k → l.length < m → unqL dq k l acc = unqL dq m l acc
  | 0, _, _, _, h, _ => absurd h (by omega)
  | k + 1, 0, _, _, _, h => absurd h (by omega)
  | k + 1, m + 1, [], acc, _, _ => by rw [unqL, unqL]
  | k + 1, m + 1, c :: t, acc, h, h' => by
    rw [List.length_cons] at h h'
    rw [unqL, unqL]
    split
    · rfl
    · split
      · cases hE : escL t with
        | none => rfl
        | some x =>
          have := escL_len (u := x.1) (r := x.2) hE
          exact unqL_mono dq k m x.2 _ (by omega) (by omega)
      · exact unqL_mono dq k m t _ (by omega) (by omega)

def unq (dq : Bool) (l acc : List UInt8) : Option (List UInt8) := unqL dq (l.length + 1) l acc
theorem unq_nil (dq : Bool) (acc : List UInt8) : unq dq [] acc = some acc := by unfold unq; rw [List.length_nil, unqL]
theorem unq_cons (dq : Bool) (c : UInt8) (t acc : List UInt8) : unq dq (c :: t) acc = if c.toNat = markOf dq ∨ dq = true ∧ c.toNat = 10 then none
    else if dq = true ∧ c.toNat = 92 then
      match escL t with
      | none => none
      | some x => unq dq x.2 (acc ++ x.1)
    else unq dq t (acc ++ [c]) := by
  unfold unq
  rw [List.length_cons, unqL]
  split
  · rfl
  · split
    · cases hE : escL t with
      | none => rfl
      | some x =>
        have := escL_len (u := x.1) (r := x.2) hE
        exact unqL_mono dq _ _ x.2 _ (by omega) (by omega)
    · rfl

theorem bt_zero (q : UInt8) (m : List UInt8) : bt ⟨(q :: m).toArray⟩ 0 = q.toNat := by
  have h : (0 : Int).toNat < (⟨(q :: m).toArray⟩ : ByteArray).size := by show 0 < m.length + 1; omega
  rw [← bt_at _ 0 h]; rfl
theorem bt_last (q e : UInt8) (m : List UInt8) : bt ⟨(q :: (m ++ [e])).toArray⟩ (((⟨(q :: (m ++ [e])).toArray⟩ : ByteArray).size : Int) - 1) = e.toNat := by
  have hs : (⟨(q :: (m ++ [e])).toArray⟩ : ByteArray).size = m.length + 2 := by show (q :: (m ++ [e])).length = _; simp
  have hn : (((⟨(q :: (m ++ [e])).toArray⟩ : ByteArray).size : Int) - 1).toNat = m.length + 1 := by rw [hs]; omega
  have h : (((⟨(q :: (m ++ [e])).toArray⟩ : ByteArray).size : Int) - 1).toNat < (⟨(q :: (m ++ [e])).toArray⟩ : ByteArray).size := by rw [hn, hs]; omega
  rw [← bt_at _ _ h]
  have : (⟨(q :: (m ++ [e])).toArray⟩ : ByteArray)[(((⟨(q :: (m ++ [e])).toArray⟩ : ByteArray).size : Int) - 1).toNat]'h = e := by
    have h2 : m.length + 1 < (⟨(q :: (m ++ [e])).toArray⟩ : ByteArray).size := by rw [hs]; omega
    have : ∀ (k : Nat) (hk : k < (⟨(q :: (m ++ [e])).toArray⟩ : ByteArray).size), k = m.length + 1 → (⟨(q :: (m ++ [e])).toArray⟩ : ByteArray)[k]'hk = e := by
      intro k hk hk2
      subst hk2
      show (q :: (m ++ [e]))[m.length + 1]'(by simp) = e
      simp
    exact this _ h hn
  rw [this]

theorem unquoteP_short (l : List UInt8) (h : l.length < 2) : unquoteP ⟨l.toArray⟩ = none := by
  unfold unquoteP
  rw [if_pos (show (⟨l.toArray⟩ : ByteArray).size < 2 from h)]
theorem unquoteP_mk (q e : UInt8) (m : List UInt8) : unquoteP ⟨(q :: (m ++ [e])).toArray⟩ =
    if q = e then if q = 34 then unq true m [] else if q = 96 then unq false m [] else none else none := by
  have hs : (⟨(q :: (m ++ [e])).toArray⟩ : ByteArray).size = m.length + 2 := by show (q :: (m ++ [e])).length = _; simp
  have hx : (⟨(q :: (m ++ [e])).toArray⟩ : ByteArray).extract 1 ((⟨(q :: (m ++ [e])).toArray⟩ : ByteArray).size - 1) = ⟨m.toArray⟩ := by
    refine ba_ext ?_
    rw [ba_extract, hs]
    simp
  have hq : ∀ n : Nat, n < 256 → (((q.toNat : Int) = n) ↔ q = UInt8.ofNat n) := fun n hn => by
    constructor
    · intro h
      have : q.toNat = n := by omega
      rw [← this]; simp
    · intro h; rw [h]; simp; omega
  unfold unquoteP
  rw [if_neg (by rw [hs]; omega), bt_zero, bt_last, hx, unqLoop_list, unqLoop_list]
  have hqe : ((q.toNat : Int) = e.toNat) ↔ q = e := by
    constructor
    · intro h; exact UInt8.toNat_inj.1 (by omega)
    · intro h; rw [h]
  have hm : ∀ dq, unqL dq (⟨(q :: (m ++ [e])).toArray⟩ : ByteArray).size m [] = unq dq m [] := fun dq => unqL_mono dq _ _ m [] (by rw [hs]; omega) (by omega)
  rw [hm, hm]
  have h34 : ((q.toNat : Int) = 34) ↔ q = 34 := hq 34 (by omega)
  have h96 : ((q.toNat : Int) = 96) ↔ q = 96 := hq 96 (by omega)
  by_cases c1 : q = e
  · rw [if_pos (hqe.2 c1), if_pos c1]
    by_cases c2 : q = 34
    · rw [if_pos (h34.2 c2), if_pos c2]
    · rw [if_neg (fun h => c2 (h34.1 h)), if_neg c2]
      by_cases c3 : q = 96
      · rw [if_pos (h96.2 c3), if_pos c3]
      · rw [if_neg (fun h => c3 (h96.1 h)), if_neg c3]
  · rw [if_neg (fun h => c1 (hqe.1 h)), if_neg c1]
end Go.Proofs.YtcpknkdnboiecaaDoor

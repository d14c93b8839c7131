/- Parts of the proof: the walks and laws that the last text of this claim rests on. No condition beyond each one's own. -/
import Derived.Test.YtioofhilohmfbaaGreatDoorZBack1
set_option linter.unusedVariables false
set_option linter.unusedSimpArgs false
set_option maxRecDepth 100000
set_option maxHeartbeats 8000000
open Go.Proofs Go.Proofs.YtioofhilohmfbaaGreatDoorW
section
open Go.RowKit
namespace Go.Proofs.YtioofhilohmfbaaGreatDoorW.PrintWords
section
variable {P : Program} {ops : Array Oper} {rest : List Oper} {o : Oper} {a : Act} {Q : Exit → Act → World → Prop} {W : World}
theorem zcD (hw : Region.wanted o (yielded ops a.tmps) = true) (h : wpList P ops Q ({ o with guard := none } :: rest) a W) : wpList P ops Q (o :: rest) a W := by
 have h1 : Region.wanted { o with guard := none } (yielded ops a.tmps) = true := rfl
 unfold wpList at h ⊢
 rw [if_pos h1] at h
 rw [if_pos hw]
 exact h
end
end Go.Proofs.YtioofhilohmfbaaGreatDoorW.PrintWords
end
section
open Go.RowKit PrintWords PrintLast PrintMore
namespace Go.Proofs.YtioofhilohmfbaaGreatDoor.P
attribute [local go_sem] za3 za4 zbh zbi zaT zaU za5 za6 zbn
def zq8 : Option Int → Value
 | none => .nilIface
 | some c => .iface 0 (.int .i64 c)
theorem zaf : zq8 none = .nilIface := rfl
theorem zag (c : Int) : zq8 (some c) = .iface 0 (.int .i64 c) := rfl
theorem zqd : (Tryz.prog.info? 32).map (fun i => (i.zero, i.size, i.bytes)) = some (some (.agg #[(.int .i64 0), (.string ⟨#[]⟩), (.int .i64 0)]), 3, 32) := by kernel_rfl
theorem zme : (Tryz.prog.info? 33).map (fun i => (i.zero, i.size, i.bytes)) = some (some (.agg #[(.int .i64 0), (.string ⟨#[]⟩), (.int .i64 0)]), 3, 32) := by kernel_rfl
theorem zcS : (Tryz.prog.info? 109).map (fun i => (i.zero, i.size, i.bytes)) = some (some (.int .u32 0), 1, 4) := by kernel_rfl
-- the values' own types
structure S32 where
 f0 : Int
 f1 : ByteArray
 f2 : Int
def z32 : S32 := ⟨(0 : Int), (⟨#[]⟩ : ByteArray), (0 : Int)⟩
def k32 : Kd S32 := Kd.iso (Kd.pair (Kd.int .i64) (Kd.pair Kd.string (Kd.int .i64))) (fun x : S32 => (x.f0, x.f1, x.f2))
theorem zny {w : World} {x : S32} {cs : List Value} (h : k32.K w x cs) : cs = [.int .i64 x.f0, .string x.f1, .int .i64 x.f2] := by
 obtain ⟨_, _, rfl, rfl, ⟨_, _, rfl, rfl, rfl⟩⟩ := h
 exact rfl
theorem zph (w : World) (base : Nat) (ok : Nat → Prop) (x : S32)  : k32.M w base ok x [.int .i64 x.f0, .string x.f1, .int .i64 x.f2] := ⟨[.int .i64 x.f0], [.string x.f1, .int .i64 x.f2], rfl, rfl, ⟨[.string x.f1], [.int .i64 x.f2], rfl, rfl, rfl⟩⟩
def zbB (xs : List S32) (i : Int) : S32 := xs.getD i.toNat z32
theorem zgG {w : World} {A : Option Addr} {n : Nat} {xs : List S32} (h : Kd.C k32 w A n xs) (i : Int) (h0 : 0 ≤ i) (h1 : i < n) : ∃ ad , A = some ad ∧ w.cell? (ad.add (i.toNat * 3)) = some (.int .i64 (zbB xs i).f0) ∧ w.cell? ⟨(ad.add (i.toNat * 3)).block, (ad.add (i.toNat * 3)).off + 1, none⟩ = some (.string (zbB xs i).f1) ∧ w.cell? ⟨(ad.add (i.toNat * 3)).block, (ad.add (i.toNat * 3)).off + 2, none⟩ = some (.int .i64 (zbB xs i).f2) := by
 obtain ⟨ad, c, e, _, hK, hc0⟩ := Kd.znf h z32 i h0 h1
 have hc : ∀ j u, c[j]? = some u → w.cell? (ad.add (i.toNat * 3 + j)) = some u := hc0
 obtain rfl := zny hK
 exact ⟨ad, e, hc 0 _ rfl, by rw [← zdL _ _ 1 (by omega)]; exact hc 1 _ rfl, by rw [← zdL _ _ 2 (by omega)]; exact hc 2 _ rfl⟩
structure S33 where
 f0 : Int
 f1 : ByteArray
 f2 : Int
def z33 : S33 := ⟨(0 : Int), (⟨#[]⟩ : ByteArray), (0 : Int)⟩
def k33 : Kd S33 := Kd.iso (Kd.pair (Kd.int .i64) (Kd.pair Kd.string (Kd.int .i64))) (fun x : S33 => (x.f0, x.f1, x.f2))
theorem znz {w : World} {x : S33} {cs : List Value} (h : k33.K w x cs) : cs = [.int .i64 x.f0, .string x.f1, .int .i64 x.f2] := by
 obtain ⟨_, _, rfl, rfl, ⟨_, _, rfl, rfl, rfl⟩⟩ := h
 exact rfl
theorem zjF (w : World) (base : Nat) (ok : Nat → Prop) (x : S33)  : k33.M w base ok x [.int .i64 x.f0, .string x.f1, .int .i64 x.f2] := ⟨[.int .i64 x.f0], [.string x.f1, .int .i64 x.f2], rfl, rfl, ⟨[.string x.f1], [.int .i64 x.f2], rfl, rfl, rfl⟩⟩
def zbV (xs : List S33) (i : Int) : S33 := xs.getD i.toNat z33
theorem zea {w : World} {A : Option Addr} {n : Nat} {xs : List S33} (h : Kd.C k33 w A n xs) (i : Int) (h0 : 0 ≤ i) (h1 : i < n) : ∃ ad , A = some ad ∧ w.cell? (ad.add (i.toNat * 3)) = some (.int .i64 (zbV xs i).f0) ∧ w.cell? ⟨(ad.add (i.toNat * 3)).block, (ad.add (i.toNat * 3)).off + 1, none⟩ = some (.string (zbV xs i).f1) ∧ w.cell? ⟨(ad.add (i.toNat * 3)).block, (ad.add (i.toNat * 3)).off + 2, none⟩ = some (.int .i64 (zbV xs i).f2) := by
 obtain ⟨ad, c, e, _, hK, hc0⟩ := Kd.znf h z33 i h0 h1
 have hc : ∀ j u, c[j]? = some u → w.cell? (ad.add (i.toNat * 3 + j)) = some u := hc0
 obtain rfl := znz hK
 exact ⟨ad, e, hc 0 _ rfl, by rw [← zdL _ _ 1 (by omega)]; exact hc 1 _ rfl, by rw [← zdL _ _ 2 (by omega)]; exact hc 2 _ rfl⟩
structure S51 where
 f0 : Int
 f1 : ByteArray
 f2 : Int
def z51 : S51 := ⟨(0 : Int), (⟨#[]⟩ : ByteArray), (0 : Int)⟩
def k51 : Kd S51 := Kd.iso (Kd.pair (Kd.int .i64) (Kd.pair Kd.string (Kd.int .i64))) (fun x : S51 => (x.f0, x.f1, x.f2))
theorem znA {w : World} {x : S51} {cs : List Value} (h : k51.K w x cs) : cs = [.int .i64 x.f0, .string x.f1, .int .i64 x.f2] := by
 obtain ⟨_, _, rfl, rfl, ⟨_, _, rfl, rfl, rfl⟩⟩ := h
 exact rfl
theorem zqe (w : World) (x : S51)  : k51.K w x [.int .i64 x.f0, .string x.f1, .int .i64 x.f2] := ⟨[.int .i64 x.f0], [.string x.f1, .int .i64 x.f2], rfl, rfl, ⟨[.string x.f1], [.int .i64 x.f2], rfl, rfl, rfl⟩⟩
def zcI (xs : List S51) (i : Int) : S51 := xs.getD i.toNat z51
theorem zox {w : World} {A : Option Addr} {n : Nat} {xs : List S51} (h : Kd.C k51 w A n xs) (i : Int) (h0 : 0 ≤ i) (h1 : i < n) : ∃ ad , A = some ad ∧ w.cell? (ad.add (i.toNat * 3)) = some (.int .i64 (zcI xs i).f0) ∧ w.cell? ⟨(ad.add (i.toNat * 3)).block, (ad.add (i.toNat * 3)).off + 1, none⟩ = some (.string (zcI xs i).f1) ∧ w.cell? ⟨(ad.add (i.toNat * 3)).block, (ad.add (i.toNat * 3)).off + 2, none⟩ = some (.int .i64 (zcI xs i).f2) := by
 obtain ⟨ad, c, e, _, hK, hc0⟩ := Kd.znf h z51 i h0 h1
 have hc : ∀ j u, c[j]? = some u → w.cell? (ad.add (i.toNat * 3 + j)) = some u := hc0
 obtain rfl := znA hK
 exact ⟨ad, e, hc 0 _ rfl, by rw [← zdL _ _ 1 (by omega)]; exact hc 1 _ rfl, by rw [← zdL _ _ 2 (by omega)]; exact hc 2 _ rfl⟩
def zjG (xs : List (List Int)) (i : Int) : (List Int) := xs.getD i.toNat ([] : List Int)
theorem zqf {w : World} {A : Option Addr} {n : Nat} {xs : List (List Int)} (h : Kd.C (Kd.slice 109 (Kd.int .u32)) w A n xs) (i : Int) (h0 : 0 ≤ i) (h1 : i < n) : ∃ ad A0 c0, A = some ad ∧ w.cell? (ad.add i.toNat) = some (.slice A0 (zjG xs i).length c0) ∧ (zjG xs i).length ≤ c0 ∧ (Kd.int .u32).C w A0 (zjG xs i).length (zjG xs i) := by
 obtain ⟨ad, c, e, _, hK, hc0⟩ := Kd.znf h ([] : List Int) i h0 h1
 have hc : ∀ j u, c[j]? = some u → w.cell? (ad.add (i.toNat * 1 + j)) = some u := hc0
 obtain ⟨A0, c0, rfl, l0, g0⟩ := hK
 exact ⟨ad, A0, c0, e, by have hq := hc 0 _ rfl; rwa [Nat.mul_one, Nat.add_zero] at hq, l0, g0⟩
end Go.Proofs.YtioofhilohmfbaaGreatDoor.P
end
section
open Go Go.RowKit PrintWords
namespace Go.Proofs.YtioofhilohmfbaaGreatDoor.P
def lv : List Int → Int
 | [] => 0
 | x :: t => x + 4294967296 * lv t
def lim : Nat → Int → List Int
 | 0, _ => []
 | k + 1, n => if n = 0 then [] else n % 4294967296 :: lim k (n / 4294967296)
def U (l : List Int) : Prop := ∀ x ∈ l, 0 ≤ x ∧ x < 4294967296
instance (l : List Int) : Decidable (U l) := inferInstanceAs (Decidable (∀ x ∈ l, 0 ≤ x ∧ x < 4294967296))
def Tr (l : List Int) : Prop := l.getLast? ≠ some 0
instance (l : List Int) : Decidable (Tr l) := inferInstanceAs (Decidable (_ ≠ _))
theorem zpi : U [] := fun _ h => by cases h
theorem zeK {x : Int} {t : List Int} : U (x :: t) ↔ (0 ≤ x ∧ x < 4294967296) ∧ U t := by
 unfold U; simp
theorem zpj {a b : List Int} : U (a ++ b) ↔ U a ∧ U b := by
 unfold U; simp only [List.mem_append]
 exact ⟨fun h => ⟨fun x hx => h x (.inl hx), fun x hx => h x (.inr hx)⟩, fun h x hx => hx.elim (h.1 x) (h.2 x)⟩
theorem zda {l : List Int} (h : U l) (i : Nat) : 0 ≤ l.getD i 0 ∧ l.getD i 0 < 4294967296 := by
 rw [List.getD_eq_getElem?_getD]
 cases e : l[i]? with
 | none => simp
 | some x => exact h x (List.mem_of_getElem? e)
theorem zq9 {l : List Int} (h : U l) (i : Int) : 0 ≤ rd l i ∧ rd l i < 4294967296 := zda h _
theorem zhb {l : List Int} (h : U l) (i : Nat) (x : Int) (h0 : 0 ≤ x) (h1 : x < 4294967296) : U (l.set i x) := fun y hy => by
 rcases List.mem_or_eq_of_mem_set hy with h2 | h2
 ·exact h y h2
 ·subst h2; exact ⟨h0, h1⟩
theorem ziH (n : Nat) : U (List.replicate n 0) := fun x hx => by
 rw [List.eq_of_mem_replicate hx]; omega
theorem zcT {l : List Int} (h : U l) (n : Nat) : U (l.take n) := fun x hx => h x (List.mem_of_mem_take hx)
theorem zht {l : List Int} (h : U l) (n : Nat) : U (l.drop n) := fun x hx => h x (List.mem_of_mem_drop hx)
theorem zbD : ∀ {l : List Int}, U l → 0 ≤ lv l
 | [], _ => Int.le_refl _
 | x :: t, h => by
  have h1 := zeK.1 h
  have := zbD h1.2
  rw [lv]; omega
theorem zdP : ∀ {l : List Int}, U l → lv l < 4294967296 ^ l.length
 | [], _ => by decide
 | x :: t, h => by
  have h1 := zeK.1 h
  have := zdP h1.2
  rw [lv, List.length_cons, Int.pow_succ]
  omega
theorem zhu : ∀ (a b : List Int), lv (a ++ b) = lv a + 4294967296 ^ a.length * lv b
 | [], b => by simp [lv]
 | x :: t, b => by
  rw [List.cons_append, lv, lv, zhu t b, List.length_cons, Int.pow_succ, Int.mul_add, Int.mul_comm (4294967296 ^ t.length) 4294967296, Int.mul_assoc]
  omega
theorem zfd : ∀ n, lv (List.replicate n 0) = 0
 | 0 => rfl
 | n + 1 => by rw [List.replicate_succ, lv, zfd n]; rfl
theorem zk8 (l : List Int) (n : Nat) : lv (l ++ List.replicate n 0) = lv l := by
 rw [zhu, zfd, Int.mul_zero, Int.add_zero]
theorem pow_pos (n : Nat) : (0 : Int) < 4294967296 ^ n := Int.pow_pos (by decide)
theorem zfT {m n : Nat} (h : m ≤ n) : (4294967296 : Int) ^ m ≤ 4294967296 ^ n := by
 obtain ⟨d, rfl⟩ := Nat.exists_eq_add_of_le h
 rw [Int.pow_add]
 have := pow_pos m
 have h2 := pow_pos d
 have h3 := Int.mul_le_mul_of_nonneg_left (show (1 : Int) ≤ 4294967296 ^ d by omega) (Int.le_of_lt this)
 rwa [Int.mul_one] at h3
theorem zen (l : List Int) (i : Nat) (h : i ≤ l.length) : lv l = lv (l.take i) + 4294967296 ^ i * lv (l.drop i) := by
 have := zhu (l.take i) (l.drop i)
 rwa [List.take_append_drop, List.length_take, Nat.min_eq_left h] at this
theorem zdy (l : List Int) (i : Nat) (h : i < l.length) : lv (l.drop i) = l.getD i 0 + 4294967296 * lv (l.drop (i + 1)) := by
 rw [List.drop_eq_getElem_cons h, lv, List.getD_eq_getElem?_getD, List.getElem?_eq_getElem h]
 rfl
theorem zcp (l : List Int) (i : Nat) (h : i < l.length) : lv (l.take (i + 1)) = lv (l.take i) + 4294967296 ^ i * l.getD i 0 := by
 rw [List.take_succ_eq_append_getElem h, zhu, List.length_take, Nat.min_eq_left (by omega), List.getD_eq_getElem?_getD, List.getElem?_eq_getElem h]
 simp [lv]
theorem zeL (l : List Int) (i : Nat) (x : Int) (h : i < l.length) : lv (l.set i x) = lv l + 4294967296 ^ i * (x - l.getD i 0) := by
 induction l generalizing i with
 | nil => cases h
 | cons y t ih =>
  cases i with
  | zero => rw [List.set_cons_zero, lv, lv]; simp; omega
  | succ i =>
   rw [List.set_cons_succ, lv, lv, ih i (by simpa using h), List.getD_cons_succ, Int.pow_succ, Int.mul_add, Int.mul_comm (4294967296 ^ i) 4294967296, Int.mul_assoc]
   omega
theorem zh9 (k : Nat) : lim k 0 = [] := by cases k <;> simp [lim]
theorem zhc : ∀ (k : Nat) (n : Int), U (lim k n)
 | 0, _ => zpi
 | k + 1, n => by
  rw [lim]
  split
  ·exact zpi
  ·exact zeK.2 ⟨⟨by omega, by omega⟩, zhc k _⟩
theorem zeR : ∀ (k : Nat) (n : Int), (lim k n).length ≤ k
 | 0, _ => Nat.le_refl _
 | k + 1, n => by
  rw [lim]
  split
  ·simp
  ·rw [List.length_cons]; have := zeR k (n / 4294967296); omega
theorem zeM : ∀ (k : Nat) (n : Int), 0 ≤ n → n < 4294967296 ^ k → lv (lim k n) = n
 | 0, n, h0, h1 => by rw [lim, lv]; simp at h1; omega
 | k + 1, n, h0, h1 => by
  rw [lim]
  split
  ·rename_i h; rw [h]; rfl
  ·rw [Int.pow_succ] at h1
   rw [lv, zeM k (n / 4294967296) (by omega) (by omega)]
   omega
theorem zmf : Tr [] := by unfold Tr; simp
theorem zia {x y : Int} {t : List Int} : Tr (x :: y :: t) ↔ Tr (y :: t) := by
 unfold Tr; rw [List.getLast?_cons_cons]
theorem zmg {x : Int} : Tr [x] ↔ x ≠ 0 := by unfold Tr; simp
theorem zmh : ∀ {l : List Int}, U l → Tr l → lv l = 0 → l = []
 | [], _, _, _ => rfl
 | [x], h, ht, he => by
  have := zmg.1 ht
  rw [lv, lv] at he
  omega
 | x :: y :: t, h, ht, he => by
  have h1 := zeK.1 h
  have hn := zbD h1.2
  rw [lv] at he
  have := zmh h1.2 (zia.1 ht) (by omega)
  cases this
theorem zgH : ∀ (k : Nat) (n : Int), 0 ≤ n → n < 4294967296 ^ k → Tr (lim k n)
 | 0, n, _, _ => zmf
 | k + 1, n, h0, h1 => by
  rw [lim]
  split
  ·exact zmf
  ·rename_i hn
   rw [Int.pow_succ] at h1
   have ih := zgH k (n / 4294967296) (by omega) (by omega)
   have hl := zeM k (n / 4294967296) (by omega) (by omega)
   cases e : lim k (n / 4294967296) with
   | nil =>
    rw [e, lv] at hl
    exact zmg.2 (by omega)
   | cons y t =>
    rw [e] at ih
    exact zia.2 ih
theorem zeB : ∀ {l : List Int}, U l → Tr l → l ≠ [] → 4294967296 ^ (l.length - 1) ≤ lv l
 | [], _, _, h => absurd rfl h
 | [x], h, ht, _ => by
  have := zmg.1 ht
  have h1 := zeK.1 h
  simp [lv]; omega
 | x :: y :: t, h, ht, _ => by
  have h1 := zeK.1 h
  have := zeB h1.2 (zia.1 ht) (by simp)
  rw [lv, List.length_cons, List.length_cons, Nat.add_sub_cancel, Int.pow_succ]
  rw [List.length_cons, Nat.add_sub_cancel] at this
  omega
theorem ziI : ∀ {l : List Int} (k : Nat), U l → Tr l → l.length ≤ k → lim k (lv l) = l
 | [], k, _, _, _ => zh9 k
 | x :: t, 0, _, _, h => by simp at h
 | x :: t, k + 1, h, ht, hk => by
  have h1 := zeK.1 h
  have h2 : Tr t := by
   cases t with
   | nil => exact zmf
   | cons y t => exact zia.1 ht
  have hn := zbD h1.2
  have hz : ¬ lv (x :: t) = 0 := fun e => by have := zmh h ht e; cases this
  rw [lim, if_neg hz, lv, show (x + 4294967296 * lv t) % 4294967296 = x by omega, show (x + 4294967296 * lv t) / 4294967296 = lv t by omega, ziI k h1.2 h2 (by simpa using hk)]
theorem zqg {a b : List Int} (ha : U a) (ta : Tr a) (hb : U b) (tb : Tr b) (h : lv a = lv b) : a = b := by
 rw [← ziI (max a.length b.length) ha ta (by omega), h, ziI _ hb tb (by omega)]
theorem zeC {k m : Nat} {n : Int} (h0 : 0 ≤ n) (h1 : n < 4294967296 ^ k) (h2 : n < 4294967296 ^ m) : lim k n = lim m n :=
 zqg (zhc _ _) (zgH _ _ h0 h1) (zhc _ _) (zgH _ _ h0 h2) (by rw [zeM _ _ h0 h1, zeM _ _ h0 h2])
theorem zfC {k m : Nat} {n : Int} (h0 : 0 ≤ n) (h1 : n < 4294967296 ^ k) (h2 : n < 4294967296 ^ m) : (lim k n).length ≤ m := by
 rw [zeC h0 h1 h2]; exact zeR _ _
theorem zgI {a b : List Int} (ha : U a) (hb : U b) (tb : Tr b) (h : a.length < b.length) : lv a < lv b := by
 have h1 := zdP ha
 have h2 := zeB hb tb (fun e => by rw [e] at h; simp at h)
 have h3 := zfT (show a.length ≤ b.length - 1 by omega)
 omega
end Go.Proofs.YtioofhilohmfbaaGreatDoor.P
end
section
open Go.RowKit PrintWords PrintLast PrintMore
namespace Go.Proofs.YtioofhilohmfbaaGreatDoor.P
attribute [local go_sem] za3 za4 zbh zbi zaT zaU za5 za6 zbn
def zaI.l0 : Nat → List Int → List Int → Int → Int → Option (Int)
 | 0, _, _, _, _ => none
 | k + 1, x0, x1, x24, x25 => if x25 < x24 then (if 0 ≤ (wrap64 ((wrap64 ((x0.length : Int) - 1)) - x25)) then (if (wrap64 ((wrap64 ((x0.length : Int) - 1)) - x25)) < (x0.length : Int) then (if 0 ≤ (wrap64 ((wrap64 ((x1.length : Int) - 1)) - x25)) then (if (wrap64 ((wrap64 ((x1.length : Int) - 1)) - x25)) < (x1.length : Int) then (if (rd x0 (wrap64 ((wrap64 ((x0.length : Int) - 1)) - x25))) = (rd x1 (wrap64 ((wrap64 ((x1.length : Int) - 1)) - x25))) then (zaI.l0 k x0 x1 x24 (wrap64 (x25 + 1))) else (if (rd x0 (wrap64 ((wrap64 ((x0.length : Int) - 1)) - x25))) < (rd x1 (wrap64 ((wrap64 ((x1.length : Int) - 1)) - x25))) then (some (-1)) else (some 1))) else (none)) else (none)) else (none)) else (none)) else (some 0)
def zaI.f (k : Nat) (l0 : List Int) (l1 : List Int) : Option (Int) := if (l0.length : Int) = (l1.length : Int) then (zaI.l0 k l0 l1 (l0.length : Int) 0) else (some ((2 * (mn (mx (wrap64 ((wrap64 ((l0.length : Int) - (l1.length : Int))) + 1)) 0) 1)) - 1))
theorem zaI.zbp : ∀ k, (∀ y0 y1 y2 y3, LeO (zaI.l0 k y0 y1 y2 y3) (zaI.l0 (k + 1) y0 y1 y2 y3))
 | 0 => fun _ _ _ _ r h => by simp [zaI.l0] at h
 | k + 1 => by
  have ih0 := zaI.zbp k
  ·intro y0 y1 y2 y3
   unfold zaI.l0
   repeat' with_reducible first | exact ih0 _ _ _ _ | exact LeO.refl _ | exact LeO.none _ | refine LeO.ite ?_ ?_ | refine LeO.bind ?_ (fun _ => ?_)
theorem zaI.mono : ∀ a0 a1 k, LeO (zaI.f k a0 a1) (zaI.f (k + 1) a0 a1) := by
 intro a0 a1 k
 have ih0 := zaI.zbp k
 unfold zaI.f
 repeat' with_reducible first | exact ih0 _ _ _ _ | exact LeO.refl _ | exact LeO.none _ | refine LeO.ite ?_ ?_ | refine LeO.bind ?_ (fun _ => ?_)
theorem zaI.calls (k : Nat) (A0 : Option Addr) (c0 : Nat) (l0 : List Int) (A1 : Option Addr) (c1 : Nat) (l1 : List Int) (r : Int) (w : World) (hr0 : Kd.C (Kd.int .u32) w A0 l0.length l0) (hc0 : l0.length ≤ c0) (hr1 : Kd.C (Kd.int .u32) w A1 l1.length l1) (hc1 : l1.length ≤ c1) (h : zaI.f k l0 l1 = some r) :
  Calls Tryz.prog 187 #[.slice A0 l0.length c0, .slice A1 l1.length c1] w fun e w' => e = .returned (.int .i64 r) ∧ Below w.heap.size w w' := by
 have HR0 := zaa.mk hr0
 have HC0 := zaa.mk hc0
 clear hr0 hc0
 have HR1 := zaa.mk hr1
 have HC1 := zaa.mk hc1
 clear hr1 hc1
 have HB := zaa.mk (Below.refl w.heap.size w)
 have H : (if (l0.length : Int) = (l1.length : Int) then (zaI.l0 k l0 l1 (l0.length : Int) 0) else (some ((2 * (mn (mx (wrap64 ((wrap64 ((l0.length : Int) - (l1.length : Int))) + 1)) 0) 1)) - 1))) = some r := h
 clear h
 by_cases c3 : (l0.length : Int) = (l1.length : Int)
 ·rw [if_pos c3] at H
  have c3b0 : ((l0.length : Int) == (l1.length : Int)) = true := beq_iff_eq.mpr c3
  have c3b1 : ((l0.length : Int) != (l1.length : Int)) = false := bne_eq_false_iff_eq.mpr c3
  have c3b2 : (l0.length == l1.length) = true := by first | simpa using c3 | (simp at c3 ⊢; omega)
  clear c3
  have H' := zaa.mk H
  clear H
  go_enter Tryz.func187, Tryz.ntmps187
  go_wp2
  repeat (go_quiet (fail); try go_wp2)
  go_loopg [25] k (fun kq v25 w' => ∃ (x25_1 : Int), v25 = .int .i64 x25_1 ∧ zaa (zaI.l0 kq l0 l1 (l0.length : Int) x25_1 = some r) ∧ zaa (kq ≤ k) ∧ zaa (Below w.heap.size w w'))
  case atStart => exact ⟨(0), rs, H', ⟨Nat.le_refl _⟩, ⟨lb⟩⟩
  case round =>
   clear H'
   try clear c1
   try clear p2
   try clear c3
   try clear c3b0
   try clear c3b1
   try clear c3b2
   obtain ⟨x25_1, rfl, HA, HK1, HB⟩ := hrel
   cases gk with
   | zero => exact absurd HA.out (by simp [zaI.l0])
   | succ k1 =>
    have H := HA.out
    clear HA
    simp only [zaI.l0] at H
    by_cases c4 : x25_1 < (l0.length : Int)
    ·rw [if_pos c4] at H
     have c4b0 : decide (x25_1 < (l0.length : Int)) = true := zDT c4
     clear c4
     obtain ⟨ji5, hji5⟩ : ∃ j_ : Int, (wrap64 ((wrap64 ((l0.length : Int) - 1)) - x25_1)) = j_ := ⟨_, rfl⟩
     replace H : (if 0 ≤ (ji5) then (if (ji5) < (l0.length : Int) then (if 0 ≤ (wrap64 ((wrap64 ((l1.length : Int) - 1)) - x25_1)) then (if (wrap64 ((wrap64 ((l1.length : Int) - 1)) - x25_1)) < (l1.length : Int) then (if (rd l0 (ji5)) = (rd l1 (wrap64 ((wrap64 ((l1.length : Int) - 1)) - x25_1))) then (zaI.l0 k1 l0 l1 (l0.length : Int) (wrap64 (x25_1 + 1))) else (if (rd l0 (ji5)) < (rd l1 (wrap64 ((wrap64 ((l1.length : Int) - 1)) - x25_1))) then (some (-1)) else (some 1))) else (none)) else (none)) else (none)) else (none)) = some r := by first | (rw [hji5] at H; exact H) | (simp only [hji5] at H ⊢; exact H)
     have hji5w : (IntKind.i64.wrap ((wrap64 ((l0.length : Int) - 1)) - x25_1)) = ji5 := (zbs _).trans hji5
     by_cases c6 : 0 ≤ (ji5)
     ·rw [if_pos c6] at H
      have c6b0 : decide (0 ≤ (ji5)) = true := zDT c6
      clear c6
      by_cases c7 : (ji5) < (l0.length : Int)
      ·rw [if_pos c7] at H
       have c7b0 : decide ((ji5) < (l0.length : Int)) = true := zDT c7
       clear c7
       obtain ⟨ji8, hji8⟩ : ∃ j_ : Int, (wrap64 ((wrap64 ((l1.length : Int) - 1)) - x25_1)) = j_ := ⟨_, rfl⟩
       replace H : (if 0 ≤ (ji8) then (if (ji8) < (l1.length : Int) then (if (rd l0 (ji5)) = (rd l1 (ji8)) then (zaI.l0 k1 l0 l1 (l0.length : Int) (wrap64 (x25_1 + 1))) else (if (rd l0 (ji5)) < (rd l1 (ji8)) then (some (-1)) else (some 1))) else (none)) else (none)) = some r := by first | (rw [hji8] at H; exact H) | (simp only [hji8] at H ⊢; exact H)
       have hji8w : (IntKind.i64.wrap ((wrap64 ((l1.length : Int) - 1)) - x25_1)) = ji8 := (zbs _).trans hji8
       by_cases c9 : 0 ≤ (ji8)
       ·rw [if_pos c9] at H
        have c9b0 : decide (0 ≤ (ji8)) = true := zDT c9
        clear c9
        by_cases c10 : (ji8) < (l1.length : Int)
        ·rw [if_pos c10] at H
         have c10b0 : decide ((ji8) < (l1.length : Int)) = true := zDT c10
         clear c10
         by_cases c11 : (rd l0 (ji5)) = (rd l1 (ji8))
         ·rw [if_pos c11] at H
          have c11b0 : ((rd l0 (ji5)) == (rd l1 (ji8))) = true := beq_iff_eq.mpr c11
          have c11b1 : ((rd l0 (ji5)) != (rd l1 (ji8))) = false := bne_eq_false_iff_eq.mpr c11
          clear c11
          have H' := zaa.mk H
          clear H
          have p1 : 0 ≤ ((ji5) : Int) := zDO (by first | (with_reducible assumption) | assumption)
          have q1 : (ji5) < (l0.length : Int) := zDO (by first | (with_reducible assumption) | assumption)
          obtain ⟨ad1, e1, hx1_0⟩ := Kd.zbT HR0.out (ji5) p1 q1
          cases e1
          replace hx1_0 := (HB.out.cell (World.block_lt_of_cell? w _ hx1_0)).trans hx1_0
          replace p1 := eq_true p1
          replace q1 := eq_true q1
          have p2 : 0 ≤ ((ji8) : Int) := zDO (by first | (with_reducible assumption) | assumption)
          have q2 : (ji8) < (l1.length : Int) := zDO (by first | (with_reducible assumption) | assumption)
          obtain ⟨ad2, e2, hx2_0⟩ := Kd.zbT HR1.out (ji8) p2 q2
          cases e2
          replace hx2_0 := (HB.out.cell (World.block_lt_of_cell? w _ hx2_0)).trans hx2_0
          replace p2 := eq_true p2
          replace q2 := eq_true q2
          go_wp2
          repeat (go_quiet (fail); try go_wp2)
          go_roundg k1
          case measure => have := HK1.out; omega
          case rel => exact ⟨(wrap64 (x25_1 + 1)), rs, H', ⟨by have := HK1.out; omega⟩, ⟨lb⟩⟩
         ·rw [if_neg c11] at H
          have c11b0 : ((rd l0 (ji5)) == (rd l1 (ji8))) = false := beq_eq_false_iff_ne.mpr c11
          have c11b1 : ((rd l0 (ji5)) != (rd l1 (ji8))) = true := bne_iff_ne.mpr c11
          by_cases c12 : (rd l0 (ji5)) < (rd l1 (ji8))
          ·rw [if_pos c12] at H
           have c12b0 : decide ((rd l0 (ji5)) < (rd l1 (ji8))) = true := zDT c12
           clear c12
           obtain rfl := Option.some.inj H
           have p1 : 0 ≤ ((ji5) : Int) := zDO (by first | (with_reducible assumption) | assumption)
           have q1 : (ji5) < (l0.length : Int) := zDO (by first | (with_reducible assumption) | assumption)
           obtain ⟨ad1, e1, hx1_0⟩ := Kd.zbT HR0.out (ji5) p1 q1
           cases e1
           replace hx1_0 := (HB.out.cell (World.block_lt_of_cell? w _ hx1_0)).trans hx1_0
           replace p1 := eq_true p1
           replace q1 := eq_true q1
           have p2 : 0 ≤ ((ji8) : Int) := zDO (by first | (with_reducible assumption) | assumption)
           have q2 : (ji8) < (l1.length : Int) := zDO (by first | (with_reducible assumption) | assumption)
           obtain ⟨ad2, e2, hx2_0⟩ := Kd.zbT HR1.out (ji8) p2 q2
           cases e2
           replace hx2_0 := (HB.out.cell (World.block_lt_of_cell? w _ hx2_0)).trans hx2_0
           replace p2 := eq_true p2
           replace q2 := eq_true q2
           go_wp2
           repeat (go_quiet (fail); try go_wp2)
           go_ret
           exact ⟨by first | rfl | (simp [zaf, zag] <;> rfl) | (simp only [← hji5, ← hji8]; first | rfl | (simp [zaf, zag] <;> rfl)) | (simp [*, zaf, zag] <;> rfl), lb⟩
          ·rw [if_neg c12] at H
           have c12b0 : decide ((rd l0 (ji5)) < (rd l1 (ji8))) = false := zDF c12
           clear c12
           obtain rfl := Option.some.inj H
           have p1 : 0 ≤ ((ji5) : Int) := zDO (by first | (with_reducible assumption) | assumption)
           have q1 : (ji5) < (l0.length : Int) := zDO (by first | (with_reducible assumption) | assumption)
           obtain ⟨ad1, e1, hx1_0⟩ := Kd.zbT HR0.out (ji5) p1 q1
           cases e1
           replace hx1_0 := (HB.out.cell (World.block_lt_of_cell? w _ hx1_0)).trans hx1_0
           replace p1 := eq_true p1
           replace q1 := eq_true q1
           have p2 : 0 ≤ ((ji8) : Int) := zDO (by first | (with_reducible assumption) | assumption)
           have q2 : (ji8) < (l1.length : Int) := zDO (by first | (with_reducible assumption) | assumption)
           obtain ⟨ad2, e2, hx2_0⟩ := Kd.zbT HR1.out (ji8) p2 q2
           cases e2
           replace hx2_0 := (HB.out.cell (World.block_lt_of_cell? w _ hx2_0)).trans hx2_0
           replace p2 := eq_true p2
           replace q2 := eq_true q2
           go_wp2
           repeat (go_quiet (fail); try go_wp2)
           go_ret
           exact ⟨by first | rfl | (simp [zaf, zag] <;> rfl) | (simp only [← hji5, ← hji8]; first | rfl | (simp [zaf, zag] <;> rfl)) | (simp [*, zaf, zag] <;> rfl), lb⟩
        ·rw [if_neg c10] at H
         exact absurd H (by simp)
       ·rw [if_neg c9] at H
        exact absurd H (by simp)
      ·rw [if_neg c7] at H
       exact absurd H (by simp)
     ·rw [if_neg c6] at H
      exact absurd H (by simp)
    ·rw [if_neg c4] at H
     have c4b0 : decide (x25_1 < (l0.length : Int)) = false := zDF c4
     clear c4
     obtain rfl := Option.some.inj H
     go_wp2
     repeat (go_quiet (fail); try go_wp2)
     go_ret
     exact ⟨by first | rfl | (simp [zaf, zag] <;> rfl) | (simp [*, zaf, zag] <;> rfl), lb⟩
 ·rw [if_neg c3] at H
  have c3b0 : ((l0.length : Int) == (l1.length : Int)) = false := beq_eq_false_iff_ne.mpr c3
  have c3b1 : ((l0.length : Int) != (l1.length : Int)) = true := bne_iff_ne.mpr c3
  have c3b2 : (l0.length == l1.length) = false := by first | simpa using c3 | (simp at c3 ⊢; omega)
  obtain ⟨ji13, hji13⟩ : ∃ j_ : Int, (mx (wrap64 ((wrap64 ((l0.length : Int) - (l1.length : Int))) + 1)) 0) = j_ := ⟨_, rfl⟩
  replace H : (some ((2 * (mn (ji13) 1)) - 1)) = some r := by first | (rw [hji13] at H; exact H) | (simp only [hji13] at H ⊢; exact H)
  (try (have hji13l : 0 ≤ ji13 := by (rw [← hji13]; unfold mx; (repeat' split) <;> omega)))
  (try (have hji13m : 0 ≤ ji13 := by omega))
  have hji13_ : (if (wrap64 ((wrap64 ((l0.length : Int) - (l1.length : Int))) + 1)) < 0 then 0 else (wrap64 ((wrap64 ((l0.length : Int) - (l1.length : Int))) + 1))) = ji13 := hji13
  obtain ⟨ji14, hji14⟩ : ∃ j_ : Int, (mn (ji13) 1) = j_ := ⟨_, rfl⟩
  replace H : (some ((2 * (ji14)) - 1)) = some r := by first | (rw [hji14] at H; exact H) | (simp only [hji14] at H ⊢; exact H)
  have hji14_ : (if 1 < (ji13) then 1 else (ji13)) = ji14 := hji14
  obtain rfl := Option.some.inj H
  go_enter Tryz.func187, Tryz.ntmps187
  go_wp2
  repeat (go_quiet (fail); try go_wp2)
  go_ret
  exact ⟨by first | rfl | (simp [zaf, zag] <;> rfl) | (simp only [← hji13, ← hji14]; first | rfl | (simp [zaf, zag] <;> rfl)) | (simp [*, zaf, zag] <;> rfl), lb⟩
def zaM.l0 : Nat → List Int → Option (List Int)
 | 0, _ => none
 | k + 1, x0 => if (x0.length : Int) > 0 then (if 0 ≤ (wrap64 ((x0.length : Int) - 1)) then (if (wrap64 ((x0.length : Int) - 1)) < (x0.length : Int) then (if (rd x0 (wrap64 ((x0.length : Int) - 1))) = 0 then (if (wrap64 ((x0.length : Int) - 1)) ≤ (x0.length : Int) then (zaM.l0 k (x0.take ((wrap64 ((x0.length : Int) - 1)) : Int).toNat)) else (none)) else (some x0)) else (none)) else (none)) else (some x0)
def zaM.f (k : Nat) (l0 : List Int) : Option (List Int) := zaM.l0 k l0
theorem zaM.zbp : ∀ k, (∀ y0, LeO (zaM.l0 k y0) (zaM.l0 (k + 1) y0))
 | 0 => fun _ r h => by simp [zaM.l0] at h
 | k + 1 => by
  have ih0 := zaM.zbp k
  ·intro y0
   unfold zaM.l0
   repeat' with_reducible first | exact ih0 _ | exact LeO.refl _ | exact LeO.none _ | refine LeO.ite ?_ ?_ | refine LeO.bind ?_ (fun _ => ?_)
theorem zaM.mono : ∀ a0 k, LeO (zaM.f k a0) (zaM.f (k + 1) a0) := by
 intro a0 k
 have ih0 := zaM.zbp k
 unfold zaM.f
 repeat' with_reducible first | exact ih0 _ | exact LeO.refl _ | exact LeO.none _ | refine LeO.ite ?_ ?_ | refine LeO.bind ?_ (fun _ => ?_)
theorem zaM.calls (k : Nat) (P0_ : Nat → Prop) (A0 : Option Addr) (c0 : Nat) (l0 : List Int) (r : List Int) (w : World) (hs0 : Kd.V (Kd.int .u32) 109 w w.heap.size (fun k_ => P0_ k_) (.slice A0 l0.length c0) l0) (h : zaM.f k l0 = some r) :
  Calls Tryz.prog 167 #[.slice A0 l0.length c0] w fun e w' => ∃ v0_ : Value, e = .returned (v0_) ∧ Kd.V (Kd.int .u32) 109 w' w.heap.size (fun k_ => (P0_ k_ ∨ w.heap.size ≤ k_)) v0_ r ∧ Below w.heap.size w w' := by
 have HO0 := zaa.mk (show Kd.V (Kd.int .u32) 109 w w.heap.size (fun k_ => (P0_ k_ ∨ w.heap.size ≤ k_)) (.slice A0 l0.length c0) l0 from Kd.zbH hs0 (fun k_ hk => .inl hk))
 have HB := zaa.mk (Below.refl w.heap.size w)
 have H : (zaM.l0 k l0) = some r := h
 clear h
 have H' := zaa.mk H
 clear H
 go_enter Tryz.func167, Tryz.ntmps167
 go_wp2
 go_loopg [0] k (fun kq v0 w' => ∃ (x0_1 : List Int), zaa (zaM.l0 kq x0_1 = some r) ∧ zaa (kq ≤ k) ∧ zaa (Kd.V (Kd.int .u32) 109 w' w.heap.size (fun k_ => (P0_ k_ ∨ w.heap.size ≤ k_)) v0 x0_1) ∧ zaa (Below w.heap.size w w'))
 case atStart => exact ⟨(l0), H', ⟨Nat.le_refl _⟩, ⟨by (with_reducible repeat (first | apply Kd.zaZ | apply Kd.zbr | apply Kd.zbI)); exact HO0.out⟩, ⟨lb⟩⟩
 case round =>
  clear H'
  try clear c1
  obtain ⟨x0_1, HA, HK1, HO_0, HB⟩ := hrel
  cases gk with
  | zero => exact absurd HA.out (by simp [zaM.l0])
  | succ k1 =>
   have H := HA.out
   clear HA
   simp only [zaM.l0] at H
   by_cases c2 : (x0_1.length : Int) > 0
   ·rw [if_pos c2] at H
    have c2b0 : decide (0 < (x0_1.length : Int)) = true := zDT c2
    have c2b1 : decide (0 < x0_1.length) = true := decide_eq_true (by omega)
    clear c2
    obtain ⟨ji3, hji3⟩ : ∃ j_ : Int, (wrap64 ((x0_1.length : Int) - 1)) = j_ := ⟨_, rfl⟩
    replace H : (if 0 ≤ (ji3) then (if (ji3) < (x0_1.length : Int) then (if (rd x0_1 (ji3)) = 0 then (if (ji3) ≤ (x0_1.length : Int) then (zaM.l0 k1 (x0_1.take ((ji3) : Int).toNat)) else (none)) else (some x0_1)) else (none)) else (none)) = some r := by first | (rw [hji3] at H; exact H) | (simp only [hji3] at H ⊢; exact H)
    have hji3w : (IntKind.i64.wrap ((x0_1.length : Int) - 1)) = ji3 := (zbs _).trans hji3
    by_cases c4 : 0 ≤ (ji3)
    ·rw [if_pos c4] at H
     have c4b0 : decide (0 ≤ (ji3)) = true := zDT c4
     clear c4
     by_cases c5 : (ji3) < (x0_1.length : Int)
     ·rw [if_pos c5] at H
      have c5b0 : decide ((ji3) < (x0_1.length : Int)) = true := zDT c5
      clear c5
      by_cases c6 : (rd x0_1 (ji3)) = 0
      ·rw [if_pos c6] at H
       have c6b0 : ((rd x0_1 (ji3)) == 0) = true := beq_iff_eq.mpr c6
       have c6b1 : ((rd x0_1 (ji3)) != 0) = false := bne_eq_false_iff_eq.mpr c6
       clear c6
       have c7b0 := eq_true (zDO (by first | (with_reducible assumption) | assumption) : 0 ≤ (ji3))
       by_cases c8 : (ji3) ≤ (x0_1.length : Int)
       ·rw [if_pos c8] at H
        have c8b0 := eq_true c8
        have c8b1 : decide ((ji3) ≤ (x0_1.length : Int)) = true := zDT c8
        clear c8
        obtain ⟨y2, hy2⟩ : ∃ y_ : List Int, y_ = (x0_1.take ((ji3) : Int).toNat) := ⟨_, rfl⟩
        replace H : (zaM.l0 k1 y2) = some r := by first | (rw [hy2]; with_reducible exact H) | (have H2_ := (Option.bind_some _ _).symm.trans H; rw [hy2]; with_reducible exact H2_) | (have H2_ := (Option.bind_some _ _).symm.trans H; with_reducible exact H2_) | with_reducible exact H | (rw [hy2]; exact H) | exact H
        have Ny2 := zaa.mk hy2
        clear hy2
        have H' := zaa.mk H
        clear H
        obtain ⟨Ao9, co9, eo9⟩ := Kd.zbe HO_0.out
        subst eo9
        have p1 : 0 ≤ ((ji3) : Int) := zDO (by first | (with_reducible assumption) | assumption)
        have q1 : (ji3) < (x0_1.length : Int) := zDO (by first | (with_reducible assumption) | assumption)
        obtain ⟨ad1, e1, hx1_0⟩ := Kd.zbT (Kd.zaq HO_0.out).2.2 (ji3) p1 q1
        cases e1
        replace p1 := eq_true p1
        replace q1 := eq_true q1
        have q10 : ((ji3) : Int) ≤ ((x0_1.length : Int) : Int) := zDO (by first | (with_reducible assumption) | assumption)
        obtain ⟨i010, hi010, _, hsz10, _⟩ := info_parts zcS
        have hroom10 : x0_1.length ≤ co9 := (Kd.zaq HO_0.out).2.1
        have hC10 : Kd.F (Kd.int .u32) _ _ (some ad1) x0_1.length x0_1 := (Kd.zqE (base := w.heap.size) HO_0.out).2.2
        have hcut10 := zon (P := Tryz.prog) 39 109 .i64 Tryz.underlying39 hi010 (some ad1) x0_1.length co9 (ji3) (zDO (by first | (with_reducible assumption) | assumption)) q10 hroom10
        have hr10 := Kd.zqb (m := ((ji3) : Int).toNat) hC10 (by omega)
        have hy10 : y2.length = ((ji3) : Int).toNat := (by rw [Ny2.out, List.length_take]; omega)
        rw [← Ny2.out] at hr10
        rw [← hy10] at hcut10
        have HO6 := zaa.mk (show Kd.V (Kd.int .u32) 109 _ w.heap.size _ (.slice (some ad1) y2.length co9) y2 from Kd.zri (by omega) hr10)
        have HC6 := zaa.mk (show y2.length ≤ co9 from by omega)
        clear hr10 hC10 hroom10 hi010 hsz10
        have KY10 := zaa.mk hy10
        clear hy10
        replace q10 := eq_true q10
        go_wp2
        go_roundg k1
        case measure => have := HK1.out; omega
        case rel => exact ⟨(y2), H', ⟨by have := HK1.out; omega⟩, ⟨by (with_reducible repeat (first | apply Kd.zaZ | apply Kd.zbr | apply Kd.zbI)); exact HO6.out⟩, ⟨lb⟩⟩
       ·rw [if_neg c8] at H
        exact absurd H (by simp)
      ·rw [if_neg c6] at H
       have c6b0 : ((rd x0_1 (ji3)) == 0) = false := beq_eq_false_iff_ne.mpr c6
       have c6b1 : ((rd x0_1 (ji3)) != 0) = true := bne_iff_ne.mpr c6
       obtain rfl := Option.some.inj H
       obtain ⟨Ao11, co11, eo11⟩ := Kd.zbe HO_0.out
       subst eo11
       have p1 : 0 ≤ ((ji3) : Int) := zDO (by first | (with_reducible assumption) | assumption)
       have q1 : (ji3) < (x0_1.length : Int) := zDO (by first | (with_reducible assumption) | assumption)
       obtain ⟨ad1, e1, hx1_0⟩ := Kd.zbT (Kd.zaq HO_0.out).2.2 (ji3) p1 q1
       cases e1
       replace p1 := eq_true p1
       replace q1 := eq_true q1
       go_wp2
       go_ret
       exact ⟨_, by first | rfl | (simp [zaf, zag] <;> rfl) | (simp only [← hji3]; first | rfl | (simp [zaf, zag] <;> rfl)) | (simp [*, zaf, zag] <;> rfl), by (with_reducible repeat (first | apply Kd.zaZ | apply Kd.zbr | apply Kd.zbI)); exact HO_0.out, lb⟩
     ·rw [if_neg c5] at H
      exact absurd H (by simp)
    ·rw [if_neg c4] at H
     exact absurd H (by simp)
   ·rw [if_neg c2] at H
    have c2b0 : decide (0 < (x0_1.length : Int)) = false := zDF c2
    have c2b1 : decide (0 < x0_1.length) = false := decide_eq_false (by omega)
    clear c2
    obtain rfl := Option.some.inj H
    obtain ⟨Ao12, co12, eo12⟩ := Kd.zbe HO_0.out
    subst eo12
    go_wp2
    go_ret
    exact ⟨_, by first | rfl | (simp [zaf, zag] <;> rfl) | (simp [*, zaf, zag] <;> rfl), by (with_reducible repeat (first | apply Kd.zaZ | apply Kd.zbr | apply Kd.zbI)); exact HO_0.out, lb⟩
def zbJ.f (k : Nat) (a0 : Int) : Option (List Int) := (zaM.f k (([(a0) % 4294967296, (a0 / 4294967296) % 4294967296] : List Int))).bind fun t4 => (some t4)
theorem zbJ.mono : ∀ a0 k, LeO (zbJ.f k a0) (zbJ.f (k + 1) a0) := by
 intro a0 k
 unfold zbJ.f
 repeat' with_reducible first | exact zaM.mono _ _ | exact LeO.refl _ | exact LeO.none _ | refine LeO.ite ?_ ?_ | refine LeO.bind ?_ (fun _ => ?_)
theorem zbJ.calls (k : Nat) (a0 : Int) (r : List Int) (w : World) (h : zbJ.f k a0 = some r) :
  Calls Tryz.prog 137 #[.int .u64 a0] w fun e w' => ∃ v0_ : Value, e = .returned (v0_) ∧ Kd.V (Kd.int .u32) 109 w' w.heap.size (fun k_ => (w.heap.size ≤ k_)) v0_ r ∧ Below w.heap.size w w' := by
 have HB := zaa.mk (Below.refl w.heap.size w)
 have H : ((zaM.f k (([(a0) % 4294967296, (a0 / 4294967296) % 4294967296] : List Int))).bind fun t4 => (some t4)) = some r := h
 clear h
 obtain ⟨y1, hy1⟩ : ∃ y_ : List Int, y_ = (([(a0) % 4294967296, (a0 / 4294967296) % 4294967296] : List Int)) := ⟨_, rfl⟩
 replace H : ((zaM.f k y1).bind fun t4 => (some t4)) = some r := by first | (rw [hy1]; with_reducible exact H) | (have H2_ := (Option.bind_some _ _).symm.trans H; rw [hy1]; with_reducible exact H2_) | (have H2_ := (Option.bind_some _ _).symm.trans H; with_reducible exact H2_) | with_reducible exact H | (rw [hy1]; exact H) | exact H
 have Ny1 := zaa.mk hy1
 clear hy1
 replace H := zBE H
 obtain ⟨t4, A20, H⟩ := H
 replace H : (some t4) = some r := H
 have A2 := zaa.mk A20
 clear A20
 obtain rfl := Option.some.inj H
 go_enter Tryz.func137, Tryz.ntmps137
 go_wp2_with (first | ((with_reducible refine zaA (N := 8) rfl ?_); refine Kd.zf2 (Kd.int .u32) _ 109 ?hg (N := 8) ?hd (xs := ([(a0) % 4294967296, (a0 / 4294967296) % 4294967296] : List Int)) (inner := [.int .u32 ((a0) % 4294967296), .int .u32 ((a0 / 4294967296) % 4294967296)]) (ok := fun _ => True) (okp := fun _ => True) ?hr ?hp (fun _ hk => hk) trivial (Below.refl _ _) (Nat.le_refl _) (by simp) ?_; (case hd => rfl); (case hg => rfl); (case hr => first | (go_simp; done) | (go_simp; rfl)); (case hp => repeat (first | exact zb5.none _ _ | refine zb5.one rfl ?_)); intro v2 w3 ho4 hb hg_ hnew_; clear hg_ hnew_; (first | rw [← Ny1.out] at ho4 | (simp only [Int.reduceToNat] at ho4; rw [← Ny1.out] at ho4)); have n0_ := zaa.mk (Kd.zaz (Kd.zfS (M := fun k_ => (w.heap.size ≤ k_)) ho4 (zad (lc HB.out)) (fun k_ h_ => h_)) (zad (lc HB.out))); have n1_ := zaa.mk (zab (lc HB.out) hb); clear HB; have HO3 := n0_; have HB := n1_; clear n0_ n1_; clear hb ho4; obtain ⟨Ao5, co5, eo5⟩ := Kd.zaC HO3.out; subst eo5) | (go_at_call 167; (with_reducible refine (zaM.calls k (fun k_ => some k_ = (.slice Ao5 y1.length co5 : Value).ownBlock) _ _ y1 t4 _ ?side1 A2.out).mono ?_); (case side1 => exact Kd.R_V (Kd.zel rfl (HO3.out))); rintro e w6 ⟨v5, rfl, ho0, hb⟩; have n0_ := zaa.mk (Kd.zaS (rc HO3.out) hb); have n1_ := zaa.mk (Kd.zbU (Kd.zbH (ok' := fun k_ => (w.heap.size ≤ k_)) ho0 (fun k_ hk_ => Or.elim hk_ (fun hs_ => ((HO3.out).1 k_ hs_.symm).1) (fun hn_ => (Nat.le_trans (zad (lc HB.out)) hn_)))) (zad (lc HB.out))); have n2_ := zaa.mk (zab (lc HB.out) hb); clear HO3; clear HB; have HO3 := n0_; have HO6 := n1_; have HB := n2_; clear n0_ n1_ n2_; (try clear hb); (try clear hb2); (try clear hk); (try clear hi); (try clear ho0)))
 go_ret
 exact ⟨_, by first | rfl | (simp [zaf, zag] <;> rfl) | (simp [*, zaf, zag] <;> rfl), by (with_reducible repeat (first | apply Kd.zaZ | apply Kd.zbr | apply Kd.zbI)); exact HO6.out, lb⟩
def zaX.l0 : Nat → Int → List Int → List Int → Int → Int → Option (List Int)
 | 0, _, _, _, _, _ => none
 | k + 1, x1, x5, x13, x14, x15 => if x15 < x14 then (if 0 ≤ x15 then (if x15 < (x13.length : Int) then (if 0 ≤ x1 then (if x15 < (x5.length : Int) then (if 0 ≤ (wrap64 (x15 + 1)) then (if (wrap64 (x15 + 1)) < (x5.length : Int) then (zaX.l0 k x1 ((x5.set (x15 : Int).toNat (Go.bits .or .u32 (rd x5 x15) ((shl .u64 (IntKind.u64.wrap (rd x13 x15)) x1) % 4294967296))).set ((wrap64 (x15 + 1)) : Int).toNat (((shl .u64 (IntKind.u64.wrap (rd x13 x15)) x1) / 4294967296) % 4294967296)) x13 x14 (wrap64 (x15 + 1))) else (none)) else (none)) else (none)) else (none)) else (none)) else (none)) else (some x5)
def zaX.f (k : Nat) (l0 : List Int) (a1 : Int) : Option (List Int) := if 0 ≤ (wrap64 ((l0.length : Int) + 1)) then (if (wrap64 ((l0.length : Int) + 1) : Int).toNat ≤ 70368744177664 then (zaX.l0 k a1 (List.replicate (wrap64 ((l0.length : Int) + 1) : Int).toNat 0) l0 (l0.length : Int) 0) else (none)) else (none)
theorem zaX.zbp : ∀ k, (∀ y0 y1 y2 y3 y4, LeO (zaX.l0 k y0 y1 y2 y3 y4) (zaX.l0 (k + 1) y0 y1 y2 y3 y4))
 | 0 => fun _ _ _ _ _ r h => by simp [zaX.l0] at h
 | k + 1 => by
  have ih0 := zaX.zbp k
  ·intro y0 y1 y2 y3 y4
   unfold zaX.l0
   repeat' with_reducible first | exact ih0 _ _ _ _ _ | exact LeO.refl _ | exact LeO.none _ | refine LeO.ite ?_ ?_ | refine LeO.bind ?_ (fun _ => ?_)
theorem zaX.mono : ∀ a0 a1 k, LeO (zaX.f k a0 a1) (zaX.f (k + 1) a0 a1) := by
 intro a0 a1 k
 have ih0 := zaX.zbp k
 unfold zaX.f
 repeat' with_reducible first | exact ih0 _ _ _ _ _ | exact LeO.refl _ | exact LeO.none _ | refine LeO.ite ?_ ?_ | refine LeO.bind ?_ (fun _ => ?_)
theorem zaX.calls (k : Nat) (A0 : Option Addr) (c0 : Nat) (l0 : List Int) (a1 : Int) (r : List Int) (w : World) (hr0 : Kd.C (Kd.int .u32) w A0 l0.length l0) (hc0 : l0.length ≤ c0) (h : zaX.f k l0 a1 = some r) :
  Calls Tryz.prog 190 #[.slice A0 l0.length c0, .int .i64 a1] w fun e w' => ∃ v0_ : Value, e = .returned (v0_) ∧ Kd.R (Kd.int .u32) 109 w' w.heap.size (fun _ => True) v0_ r ∧ Below w.heap.size w w' := by
 have HR0 := zaa.mk hr0
 have HC0 := zaa.mk hc0
 clear hr0 hc0
 have HB := zaa.mk (Below.refl w.heap.size w)
 have H : (if 0 ≤ (wrap64 ((l0.length : Int) + 1)) then (if (wrap64 ((l0.length : Int) + 1) : Int).toNat ≤ 70368744177664 then (zaX.l0 k a1 (List.replicate (wrap64 ((l0.length : Int) + 1) : Int).toNat 0) l0 (l0.length : Int) 0) else (none)) else (none)) = some r := h
 clear h
 obtain ⟨ji3, hji3⟩ : ∃ j_ : Int, (wrap64 ((l0.length : Int) + 1)) = j_ := ⟨_, rfl⟩
 replace H : (if 0 ≤ (ji3) then (if (ji3 : Int).toNat ≤ 70368744177664 then (zaX.l0 k a1 (List.replicate (ji3 : Int).toNat 0) l0 (l0.length : Int) 0) else (none)) else (none)) = some r := by first | (rw [hji3] at H; exact H) | (simp only [hji3] at H ⊢; exact H)
 have hji3w : (IntKind.i64.wrap ((l0.length : Int) + 1)) = ji3 := (zbs _).trans hji3
 by_cases c4 : 0 ≤ (ji3)
 ·rw [if_pos c4] at H
  have c4b0 := eq_true c4
  have c4b1 : decide (0 ≤ (ji3)) = true := zDT c4
  clear c4
  by_cases c5 : (ji3 : Int).toNat ≤ 70368744177664
  ·rw [if_pos c5] at H
   have c5b0 := eq_true c5
   have c5b1 : decide ((ji3 : Int).toNat ≤ 70368744177664) = true := zDT c5
   clear c5
   obtain ⟨y1, hy1⟩ : ∃ y_ : List Int, y_ = (List.replicate (ji3 : Int).toNat 0) := ⟨_, rfl⟩
   replace H : (zaX.l0 k a1 y1 l0 (l0.length : Int) 0) = some r := by first | (rw [hy1]; with_reducible exact H) | (have H2_ := (Option.bind_some _ _).symm.trans H; rw [hy1]; with_reducible exact H2_) | (have H2_ := (Option.bind_some _ _).symm.trans H; with_reducible exact H2_) | with_reducible exact H | (rw [hy1]; exact H) | exact H
   have Ny1 := zaa.mk hy1
   clear hy1
   have H' := zaa.mk H
   clear H
   go_enter Tryz.func190, Tryz.ntmps190
   go_wp2_with (first | ((with_reducible refine zaA (N := 12) rfl ?_); refine Kd.zeH (Kd.int .u32) _ 109 rfl (N := 12) rfl 39 _ _ rfl ji3 rfl rfl Tryz.underlying39 (.int .u32 0) 4 zcS rfl (by decide) (by omega) 0 (ok := fun _ => True) (okp := fun _ => True) rfl (fun _ hk => hk) trivial (zDO (by first | (with_reducible assumption) | assumption)) (Nat.le_trans (Nat.mul_le_mul_right _ (zDO (by first | (with_reducible assumption) | assumption) : ji3.toNat ≤ 70368744177664)) (by omega)) (Below.refl _ _) (Nat.le_refl _) ?_; intro v2 w6 ho7 hb hg_ hnew_; clear hg_ hnew_; (first | rw [← Ny1.out] at ho7 | (simp only [Int.reduceToNat] at ho7; rw [← Ny1.out] at ho7)); have n0_ := zaa.mk (Kd.zaz ho7 (zad (lc HB.out))); have n1_ := zaa.mk (zab (lc HB.out) hb); clear HB; have HO3 := n0_; have HB := n1_; clear n0_ n1_; clear hb ho7))
   go_loopg [15] k (fun kq v15 w' => ∃ (x5_1 : List Int) (x15_1 : Int), v15 = .int .i64 x15_1 ∧ zaa (zaX.l0 kq a1 x5_1 l0 (l0.length : Int) x15_1 = some r) ∧ zaa (kq ≤ k) ∧ zaa (Kd.R (Kd.int .u32) 109 w' w.heap.size (fun _ => True) v2 x5_1) ∧ zaa (Below w.heap.size w w'))
   case atStart => exact ⟨(y1), (0), rs, H', ⟨Nat.le_refl _⟩, ⟨by (with_reducible repeat (first | apply Kd.zaQ | apply Kd.zaR | apply Kd.zbb)); exact HO3.out⟩, ⟨lb⟩⟩
   case round =>
    clear H'
    try clear c1
    try clear p2
    try clear c4
    try clear c4b0
    try clear c4b1
    try clear c5
    try clear c5b0
    try clear c5b1
    try clear p6
    obtain ⟨x5_1, x15_1, rfl, HA, HK1, HO_5, HB⟩ := hrel
    cases gk with
    | zero => exact absurd HA.out (by simp [zaX.l0])
    | succ k1 =>
     have H := HA.out
     clear HA
     simp only [zaX.l0] at H
     by_cases c8 : x15_1 < (l0.length : Int)
     ·rw [if_pos c8] at H
      have c8b0 : decide (x15_1 < (l0.length : Int)) = true := zDT c8
      clear c8
      by_cases c9 : 0 ≤ x15_1
      ·rw [if_pos c9] at H
       have c9b0 : decide (0 ≤ x15_1) = true := zDT c9
       clear c9
       by_cases c10 : x15_1 < (l0.length : Int)
       ·rw [if_pos c10] at H
        have c10b0 : decide (x15_1 < (l0.length : Int)) = true := zDT c10
        clear c10
        by_cases c11 : 0 ≤ a1
        ·rw [if_pos c11] at H
         have c11b0 := eq_true c11
         have c11b1 : decide (0 ≤ a1) = true := zDT c11
         clear c11
         obtain ⟨ji12, hji12⟩ : ∃ j_ : Int, (shl .u64 (IntKind.u64.wrap (rd l0 x15_1)) a1) = j_ := ⟨_, rfl⟩
         replace H : (if x15_1 < (x5_1.length : Int) then (if 0 ≤ (wrap64 (x15_1 + 1)) then (if (wrap64 (x15_1 + 1)) < (x5_1.length : Int) then (zaX.l0 k1 a1 ((x5_1.set (x15_1 : Int).toNat (Go.bits .or .u32 (rd x5_1 x15_1) ((ji12) % 4294967296))).set ((wrap64 (x15_1 + 1)) : Int).toNat (((ji12) / 4294967296) % 4294967296)) l0 (l0.length : Int) (wrap64 (x15_1 + 1))) else (none)) else (none)) else (none)) = some r := by first | (rw [hji12] at H; exact H) | (simp only [hji12] at H ⊢; exact H)
         have hji12_ : (IntKind.u64.wrap ((IntKind.u64.wrap (rd l0 x15_1)) * 2 ^ min a1.toNat 64)) = ji12 := hji12
         have hji12z : a1 ≤ 64 → (IntKind.u64.wrap ((IntKind.u64.wrap (rd l0 x15_1)) * 2 ^ a1.toNat)) = ji12 := zl7 hji12
         by_cases c13 : x15_1 < (x5_1.length : Int)
         ·rw [if_pos c13] at H
          have c13b0 : decide (x15_1 < (x5_1.length : Int)) = true := zDT c13
          clear c13
          obtain ⟨y6, hy6⟩ : ∃ y_ : List Int, y_ = (x5_1.set (x15_1 : Int).toNat (Go.bits .or .u32 (rd x5_1 x15_1) ((ji12) % 4294967296))) := ⟨_, rfl⟩
          replace H : (if 0 ≤ (wrap64 (x15_1 + 1)) then (if (wrap64 (x15_1 + 1)) < (x5_1.length : Int) then (zaX.l0 k1 a1 (y6.set ((wrap64 (x15_1 + 1)) : Int).toNat (((ji12) / 4294967296) % 4294967296)) l0 (l0.length : Int) (wrap64 (x15_1 + 1))) else (none)) else (none)) = some r := by first | (rw [hy6]; with_reducible exact H) | (have H2_ := (Option.bind_some _ _).symm.trans H; rw [hy6]; with_reducible exact H2_) | (have H2_ := (Option.bind_some _ _).symm.trans H; with_reducible exact H2_) | with_reducible exact H | (rw [hy6]; exact H) | exact H
          have Ny6 := zaa.mk hy6
          clear hy6
          obtain ⟨ji15, hji15⟩ : ∃ j_ : Int, (wrap64 (x15_1 + 1)) = j_ := ⟨_, rfl⟩
          replace H : (if 0 ≤ (ji15) then (if (ji15) < (x5_1.length : Int) then (zaX.l0 k1 a1 (y6.set ((ji15) : Int).toNat (((ji12) / 4294967296) % 4294967296)) l0 (l0.length : Int) ji15) else (none)) else (none)) = some r := by first | (rw [hji15] at H; exact H) | (simp only [hji15] at H ⊢; exact H)
          have hji15w : (IntKind.i64.wrap (x15_1 + 1)) = ji15 := (zbs _).trans hji15
          by_cases c16 : 0 ≤ (ji15)
          ·rw [if_pos c16] at H
           have c16b0 : decide (0 ≤ (ji15)) = true := zDT c16
           clear c16
           by_cases c17 : (ji15) < (x5_1.length : Int)
           ·rw [if_pos c17] at H
            have c17b0 : decide ((ji15) < (x5_1.length : Int)) = true := zDT c17
            clear c17
            obtain ⟨y7, hy7⟩ : ∃ y_ : List Int, y_ = (y6.set ((ji15) : Int).toNat (((ji12) / 4294967296) % 4294967296)) := ⟨_, rfl⟩
            replace H : (zaX.l0 k1 a1 y7 l0 (l0.length : Int) ji15) = some r := by first | (rw [hy7]; with_reducible exact H) | (have H2_ := (Option.bind_some _ _).symm.trans H; rw [hy7]; with_reducible exact H2_) | (have H2_ := (Option.bind_some _ _).symm.trans H; with_reducible exact H2_) | with_reducible exact H | (rw [hy7]; exact H) | exact H
            have Ny7 := zaa.mk hy7
            clear hy7
            have H' := zaa.mk H
            clear H
            have p4 : 0 ≤ (x15_1 : Int) := zDO (by first | (with_reducible assumption) | assumption)
            have q4 : x15_1 < (l0.length : Int) := zDO (by first | (with_reducible assumption) | assumption)
            obtain ⟨ad4, e4, hx4_0⟩ := Kd.zbT HR0.out x15_1 p4 q4
            cases e4
            replace hx4_0 := (HB.out.cell (World.block_lt_of_cell? w _ hx4_0)).trans hx4_0
            replace p4 := eq_true p4
            replace q4 := eq_true q4
            obtain ⟨Ao19, co19, eo19⟩ := Kd.zaC HO_5.out
            subst eo19
            have p5 : 0 ≤ (x15_1 : Int) := zDO (by first | (with_reducible assumption) | assumption)
            have q5 : x15_1 < (x5_1.length : Int) := zDO (by first | (with_reducible assumption) | assumption)
            obtain ⟨ad5, e5, hx5_0⟩ := Kd.zbT (Kd.zax HO_5.out).2.2 x15_1 p5 q5
            cases e5
            replace p5 := eq_true p5
            replace q5 := eq_true q5
            have p14 : 0 ≤ (x15_1 : Int) := zDO (by first | (with_reducible assumption) | assumption)
            have q14 : (x15_1 : Int) < ((x5_1.length : Int) : Int) := zDO (by first | (with_reducible assumption) | assumption)
            obtain ⟨go14, co14, eo14, gb14, gl14, cl14, HG14⟩ := Kd.zc4 HO_5.out (by omega)
            (first | cases eo14 | (injection eo14 with ea_ en_ ec_; (first | subst ea_ | (injection ea_ with ea_; subst ea_)); subst ec_; clear en_))
            have GB14 := zaa.mk gb14
            have GG14 := zaa.mk HG14
            clear gb14 gl14 HG14
            (first | simp only [add_plain] at hx5_0 | skip)
            obtain ⟨hx14_0, hf14_0⟩ := Kd.zbK 0 HO_5.out (x15_1 : Int) p14 q14
            replace p14 := eq_true p14
            replace q14 := eq_true q14
            have HP20 := Kd.zde HO_5.out (x15_1 : Int) (Go.bits .or .u32 (rd x5_1 x15_1) ((ji12) % 4294967296))
            go_wp2_with (first | ((with_reducible refine zbX (t := 109) (p := 31) rfl ?_); refine zbQ (t := 109) (p := 31) (v := ?vo_w21) (w1 := (wr.setCell ⟨go14, (x15_1 : Int).toNat, none⟩ (.int .u32 (Go.bits .or .u32 (rd x5_1 x15_1) ((ji12) % 4294967296))))) ?hg ?ho ?hn ?hr ?_; (case ho => rfl); (case hg => rfl); (case hn => rfl); (case hr => first | (go_simp; done) | (go_simp; rfl)); intro w21 hw; have hg : wr.grownBy w21 (some go14) := (by rw [hw]; exact HP20.2); have hp_ : Kd.R (Kd.int .u32) 109 w21 w.heap.size (fun _ => True) (.slice (some ⟨go14, 0, none⟩) x5_1.length co19) y6 := (by rw [hw, Ny6.out]; exact HP20.1); clear HP20; have n0_ := zaa.mk (hp_); have n1_ := zaa.mk ((by rw [hw]; exact zbo (HB.out) GB14.out : Below w.heap.size w w21)); clear HO_5; clear HB; have HO_5 := n0_; have HB := n1_; clear n0_ n1_; clear hg hw hp_; have p18 : 0 ≤ ((ji15) : Int) := zDO (by first | (with_reducible assumption) | assumption); have q18 : ((ji15) : Int) < ((x5_1.length : Int) : Int) := zDO (by first | (with_reducible assumption) | assumption); obtain ⟨hx18_0, hf18_0⟩ := Kd.zbK 0 HO_5.out ((ji15) : Int) p18 q18; replace p18 := eq_true p18; replace q18 := eq_true q18; obtain ⟨hy22_, hz22_⟩ := Kd.zbK 0 HO_5.out ((ji15) : Int) (zDO (by first | (with_reducible assumption) | assumption)) (zDO (by first | (with_reducible assumption) | assumption)); have HP22 := Kd.zde HO_5.out ((ji15) : Int) (((ji12) / 4294967296) % 4294967296)) | ((with_reducible refine zbX (t := 109) (p := 38) rfl ?_); refine zbQ (t := 109) (p := 38) (v := ?vo_w23) (w1 := (w21.setCell ⟨go14, ((ji15) : Int).toNat, none⟩ (.int .u32 (((ji12) / 4294967296) % 4294967296)))) ?hg ?ho ?hn ?hr ?_; (case ho => rfl); (case hg => rfl); (case hn => rfl); (case hr => first | (go_simp; done) | (go_simp; rfl)); intro w23 hw; have hg : w21.grownBy w23 (some go14) := (by rw [hw]; exact HP22.2); have hp_ : Kd.R (Kd.int .u32) 109 w23 w.heap.size (fun _ => True) (.slice (some ⟨go14, 0, none⟩) x5_1.length co19) y7 := (by rw [hw, Ny7.out]; exact HP22.1); clear HP22; have n0_ := zaa.mk (hp_); have n1_ := zaa.mk ((by rw [hw]; exact zbo (HB.out) GB14.out : Below w.heap.size w w23)); clear HO_5; clear HB; have HO_5 := n0_; have HB := n1_; clear n0_ n1_; clear hg hw hp_))
            go_roundg k1
            case measure => have := HK1.out; omega
            case rel => exact ⟨(y7), (ji15), (by first | rfl | (simp; done) | (simp only [← hji15] <;> (first | rfl | simp)) | (simp [*]; done)), H', ⟨by have := HK1.out; omega⟩, ⟨by (with_reducible repeat (first | apply Kd.zaQ | apply Kd.zaR | apply Kd.zbb)); exact HO_5.out⟩, ⟨lb⟩⟩
           ·rw [if_neg c17] at H
            exact absurd H (by simp)
          ·rw [if_neg c16] at H
           exact absurd H (by simp)
         ·rw [if_neg c13] at H
          exact absurd H (by simp)
        ·rw [if_neg c11] at H
         exact absurd H (by simp)
       ·rw [if_neg c10] at H
        exact absurd H (by simp)
      ·rw [if_neg c9] at H
       exact absurd H (by simp)
     ·rw [if_neg c8] at H
      have c8b0 : decide (x15_1 < (l0.length : Int)) = false := zDF c8
      clear c8
      obtain rfl := Option.some.inj H
      go_wp2
      go_ret
      exact ⟨_, by first | rfl | (simp [zaf, zag] <;> rfl) | (simp only [← hji3]; first | rfl | (simp [zaf, zag] <;> rfl)) | (simp [*, zaf, zag] <;> rfl), by (with_reducible repeat (first | apply Kd.zaQ | apply Kd.zaR | apply Kd.zbb)); exact HO_5.out, lb⟩
  ·rw [if_neg c5] at H
   exact absurd H (by simp)
 ·rw [if_neg c4] at H
  exact absurd H (by simp)
mutual
def zaG.l0 : Nat → List Int → List Int → List Int → Int → Int → Option (List Int)
 | 0, _, _, _, _, _ => none
 | k + 1, x1, x5, x17, x18, x19 => if x19 < x18 then (if 0 ≤ x19 then (if x19 < (x17.length : Int) then (zaG.l1 k x1 x5 x19 (rd x17 x19) 0 x17 x18 x19 x1 (x1.length : Int) 0) else (none)) else (none)) else ((zaM.f k x5).bind fun t4 => (some t4))
def zaG.l1 : Nat → List Int → List Int → Int → Int → Int → List Int → Int → Int → List Int → Int → Int → Option (List Int)
 | 0, _, _, _, _, _, _, _, _, _, _, _ => none
 | k + 1, x1, x5, x6, x7, x8, x17, x18, x19, x24, x25, x26 => if x26 < x25 then (if 0 ≤ x26 then (if x26 < (x24.length : Int) then (if 0 ≤ (wrap64 (x6 + x26)) then (if (wrap64 (x6 + x26)) < (x5.length : Int) then (zaG.l1 k x1 (x5.set ((wrap64 (x6 + x26)) : Int).toNat ((IntKind.u64.wrap (x8 + (IntKind.u64.wrap ((IntKind.u64.wrap (rd x5 (wrap64 (x6 + x26)))) + (IntKind.u64.wrap ((IntKind.u64.wrap (x7)) * (IntKind.u64.wrap (rd x24 x26)))))))) % 4294967296)) x6 x7 ((IntKind.u64.wrap (x8 + (IntKind.u64.wrap ((IntKind.u64.wrap (rd x5 (wrap64 (x6 + x26)))) + (IntKind.u64.wrap ((IntKind.u64.wrap (x7)) * (IntKind.u64.wrap (rd x24 x26)))))))) / 4294967296) x17 x18 x19 x24 x25 (wrap64 (x26 + 1))) else (none)) else (none)) else (none)) else (none)) else (if 0 ≤ (wrap64 (x6 + (x1.length : Int))) then (if (wrap64 (x6 + (x1.length : Int))) < (x5.length : Int) then (zaG.l0 k x1 (x5.set ((wrap64 (x6 + (x1.length : Int))) : Int).toNat ((x8) % 4294967296)) x17 x18 (wrap64 (x19 + 1))) else (none)) else (none))
end
def zaG.f (k : Nat) (l0 : List Int) (l1 : List Int) : Option (List Int) := if 0 ≤ (wrap64 ((l0.length : Int) + (l1.length : Int))) then (if (wrap64 ((l0.length : Int) + (l1.length : Int)) : Int).toNat ≤ 70368744177664 then (zaG.l0 k l1 (List.replicate (wrap64 ((l0.length : Int) + (l1.length : Int)) : Int).toNat 0) l0 (l0.length : Int) 0) else (none)) else (none)
theorem zaG.zbp : ∀ k, (∀ y0 y1 y2 y3 y4, LeO (zaG.l0 k y0 y1 y2 y3 y4) (zaG.l0 (k + 1) y0 y1 y2 y3 y4)) ∧ (∀ y0 y1 y2 y3 y4 y5 y6 y7 y8 y9 y10, LeO (zaG.l1 k y0 y1 y2 y3 y4 y5 y6 y7 y8 y9 y10) (zaG.l1 (k + 1) y0 y1 y2 y3 y4 y5 y6 y7 y8 y9 y10))
 | 0 => ⟨fun _ _ _ _ _ r h => by simp [zaG.l0] at h, fun _ _ _ _ _ _ _ _ _ _ _ r h => by simp [zaG.l1] at h⟩
 | k + 1 => by
  obtain ⟨ih0, ih1⟩ := zaG.zbp k
  refine ⟨?_, ?_⟩
  ·intro y0 y1 y2 y3 y4
   unfold zaG.l0
   repeat' with_reducible first | exact ih0 _ _ _ _ _ | exact ih1 _ _ _ _ _ _ _ _ _ _ _ | exact zaM.mono _ _ | exact LeO.refl _ | exact LeO.none _ | refine LeO.ite ?_ ?_ | refine LeO.bind ?_ (fun _ => ?_)
  ·intro y0 y1 y2 y3 y4 y5 y6 y7 y8 y9 y10
   unfold zaG.l1
   repeat' with_reducible first | exact ih0 _ _ _ _ _ | exact ih1 _ _ _ _ _ _ _ _ _ _ _ | exact zaM.mono _ _ | exact LeO.refl _ | exact LeO.none _ | refine LeO.ite ?_ ?_ | refine LeO.bind ?_ (fun _ => ?_)
theorem zaG.mono : ∀ a0 a1 k, LeO (zaG.f k a0 a1) (zaG.f (k + 1) a0 a1) := by
 intro a0 a1 k
 obtain ⟨ih0, ih1⟩ := zaG.zbp k
 unfold zaG.f
 repeat' with_reducible first | exact ih0 _ _ _ _ _ | exact ih1 _ _ _ _ _ _ _ _ _ _ _ | exact zaM.mono _ _ | exact LeO.refl _ | exact LeO.none _ | refine LeO.ite ?_ ?_ | refine LeO.bind ?_ (fun _ => ?_)
theorem zaG.calls (k : Nat) (A0 : Option Addr) (c0 : Nat) (l0 : List Int) (A1 : Option Addr) (c1 : Nat) (l1 : List Int) (r : List Int) (w : World) (hr0 : Kd.C (Kd.int .u32) w A0 l0.length l0) (hc0 : l0.length ≤ c0) (hr1 : Kd.C (Kd.int .u32) w A1 l1.length l1) (hc1 : l1.length ≤ c1) (h : zaG.f k l0 l1 = some r) :
  Calls Tryz.prog 136 #[.slice A0 l0.length c0, .slice A1 l1.length c1] w fun e w' => ∃ v0_ : Value, e = .returned (v0_) ∧ Kd.V (Kd.int .u32) 109 w' w.heap.size (fun k_ => (w.heap.size ≤ k_)) v0_ r ∧ Below w.heap.size w w' := by
 have HR0 := zaa.mk hr0
 have HC0 := zaa.mk hc0
 clear hr0 hc0
 have HR1 := zaa.mk hr1
 have HC1 := zaa.mk hc1
 clear hr1 hc1
 have HB := zaa.mk (Below.refl w.heap.size w)
 have H : (if 0 ≤ (wrap64 ((l0.length : Int) + (l1.length : Int))) then (if (wrap64 ((l0.length : Int) + (l1.length : Int)) : Int).toNat ≤ 70368744177664 then (zaG.l0 k l1 (List.replicate (wrap64 ((l0.length : Int) + (l1.length : Int)) : Int).toNat 0) l0 (l0.length : Int) 0) else (none)) else (none)) = some r := h
 clear h
 obtain ⟨ji3, hji3⟩ : ∃ j_ : Int, (wrap64 ((l0.length : Int) + (l1.length : Int))) = j_ := ⟨_, rfl⟩
 replace H : (if 0 ≤ (ji3) then (if (ji3 : Int).toNat ≤ 70368744177664 then (zaG.l0 k l1 (List.replicate (ji3 : Int).toNat 0) l0 (l0.length : Int) 0) else (none)) else (none)) = some r := by first | (rw [hji3] at H; exact H) | (simp only [hji3] at H ⊢; exact H)
 have hji3w : (IntKind.i64.wrap ((l0.length : Int) + (l1.length : Int))) = ji3 := (zbs _).trans hji3
 by_cases c4 : 0 ≤ (ji3)
 ·rw [if_pos c4] at H
  have c4b0 := eq_true c4
  have c4b1 : decide (0 ≤ (ji3)) = true := zDT c4
  clear c4
  by_cases c5 : (ji3 : Int).toNat ≤ 70368744177664
  ·rw [if_pos c5] at H
   have c5b0 := eq_true c5
   have c5b1 : decide ((ji3 : Int).toNat ≤ 70368744177664) = true := zDT c5
   clear c5
   obtain ⟨y1, hy1⟩ : ∃ y_ : List Int, y_ = (List.replicate (ji3 : Int).toNat 0) := ⟨_, rfl⟩
   replace H : (zaG.l0 k l1 y1 l0 (l0.length : Int) 0) = some r := by first | (rw [hy1]; with_reducible exact H) | (have H2_ := (Option.bind_some _ _).symm.trans H; rw [hy1]; with_reducible exact H2_) | (have H2_ := (Option.bind_some _ _).symm.trans H; with_reducible exact H2_) | with_reducible exact H | (rw [hy1]; exact H) | exact H
   have Ny1 := zaa.mk hy1
   clear hy1
   have H' := zaa.mk H
   clear H
   go_enter Tryz.func136, Tryz.ntmps136
   go_wp2_with (first | ((with_reducible refine zaA (N := 16) rfl ?_); refine Kd.zeH (Kd.int .u32) _ 109 rfl (N := 16) rfl 39 _ _ rfl ji3 rfl rfl Tryz.underlying39 (.int .u32 0) 4 zcS rfl (by decide) (by omega) 0 (ok := fun _ => True) (okp := fun _ => True) rfl (fun _ hk => hk) trivial (zDO (by first | (with_reducible assumption) | assumption)) (Nat.le_trans (Nat.mul_le_mul_right _ (zDO (by first | (with_reducible assumption) | assumption) : ji3.toNat ≤ 70368744177664)) (by omega)) (Below.refl _ _) (Nat.le_refl _) ?_; intro v2 w6 ho7 hb hg_ hnew_; clear hg_ hnew_; (first | rw [← Ny1.out] at ho7 | (simp only [Int.reduceToNat] at ho7; rw [← Ny1.out] at ho7)); have n0_ := zaa.mk (Kd.zaz (Kd.zfS (M := fun k_ => (w.heap.size ≤ k_)) ho7 (zad (lc HB.out)) (fun k_ h_ => h_)) (zad (lc HB.out))); have n1_ := zaa.mk (zab (lc HB.out) hb); clear HB; have HO3 := n0_; have HB := n1_; clear n0_ n1_; clear hb ho7))
   go_loopg [19] k (fun kq v19 w' => ∃ (x5_1 : List Int) (x19_1 : Int), v19 = .int .i64 x19_1 ∧ zaa (zaG.l0 kq l1 x5_1 l0 (l0.length : Int) x19_1 = some r) ∧ zaa (kq ≤ k) ∧ zaa (Kd.R (Kd.int .u32) 109 w' w.heap.size (fun k_ => (w.heap.size ≤ k_)) v2 x5_1) ∧ zaa (Below w.heap.size w w'))
   case atStart => exact ⟨(y1), (0), rs, H', ⟨Nat.le_refl _⟩, ⟨by (with_reducible repeat (first | apply Kd.zaQ | apply Kd.zaR | apply Kd.zbb)); exact Kd.za7 HO3.out (fun _ hk => hk.1)⟩, ⟨lb⟩⟩
   case round =>
    clear H'
    try clear c1
    try clear p2
    try clear c4
    try clear c4b0
    try clear c4b1
    try clear c5
    try clear c5b0
    try clear c5b1
    try clear p6
    obtain ⟨x5_1, x19_1, rfl, HA, HK1, HO_5, HB⟩ := hrel
    cases gk with
    | zero => exact absurd HA.out (by simp [zaG.l0])
    | succ k1 =>
     have H := HA.out
     clear HA
     simp only [zaG.l0] at H
     by_cases c8 : x19_1 < (l0.length : Int)
     ·rw [if_pos c8] at H
      have c8b0 : decide (x19_1 < (l0.length : Int)) = true := zDT c8
      clear c8
      by_cases c9 : 0 ≤ x19_1
      ·rw [if_pos c9] at H
       have c9b0 : decide (0 ≤ x19_1) = true := zDT c9
       clear c9
       by_cases c10 : x19_1 < (l0.length : Int)
       ·rw [if_pos c10] at H
        have c10b0 : decide (x19_1 < (l0.length : Int)) = true := zDT c10
        clear c10
        have H' := zaa.mk H
        clear H
        have p7 : 0 ≤ (x19_1 : Int) := zDO (by first | (with_reducible assumption) | assumption)
        have q7 : x19_1 < (l0.length : Int) := zDO (by first | (with_reducible assumption) | assumption)
        obtain ⟨ad7, e7, hx7_0⟩ := Kd.zbT HR0.out x19_1 p7 q7
        cases e7
        replace hx7_0 := (HB.out.cell (World.block_lt_of_cell? w _ hx7_0)).trans hx7_0
        replace p7 := eq_true p7
        replace q7 := eq_true q7
        go_wp2
        go_loopg [8, 26] k1 (fun kq v8 v26 w' => ∃ (x5_2 : List Int) (x8_2 : Int) (x26_2 : Int), v8 = .int .u64 x8_2 ∧ v26 = .int .i64 x26_2 ∧ zaa (zaG.l1 kq l1 x5_2 x19_1 (rd l0 x19_1) x8_2 l0 (l0.length : Int) x19_1 l1 (l1.length : Int) x26_2 = some r) ∧ zaa (kq ≤ k1) ∧ zaa (Kd.R (Kd.int .u32) 109 w' w.heap.size (fun k_ => (w.heap.size ≤ k_)) v2 x5_2) ∧ zaa (Below w.heap.size w w'))
        case atStart => exact ⟨(x5_1), (0), (0), rs, rs, H', ⟨Nat.le_refl _⟩, ⟨by (with_reducible repeat (first | apply Kd.zaQ | apply Kd.zaR | apply Kd.zbb)); exact HO_5.out⟩, ⟨lb⟩⟩
        case round =>
         clear H'
         try clear c1
         try clear p2
         try clear c4
         try clear c4b0
         try clear c4b1
         try clear c5
         try clear c5b0
         try clear c5b1
         try clear p6
         try clear p7
         try clear q7
         try clear hx7
         try clear c8
         try clear c8b0
         try clear c9
         try clear c9b0
         try clear c10
         try clear c10b0
         try clear hx7_0
         try clear p2
         try clear p6
         try clear p7
         try clear q7
         obtain ⟨x5_2, x8_2, x26_2, rfl, rfl, HA, HK2, HO_5, HB⟩ := hrel
         cases gk with
         | zero => exact absurd HA.out (by simp [zaG.l1])
         | succ k2 =>
          have H := HA.out
          clear HA
          simp only [zaG.l1] at H
          by_cases c11 : x26_2 < (l1.length : Int)
          ·rw [if_pos c11] at H
           have c11b0 : decide (x26_2 < (l1.length : Int)) = true := zDT c11
           clear c11
           by_cases c12 : 0 ≤ x26_2
           ·rw [if_pos c12] at H
            have c12b0 : decide (0 ≤ x26_2) = true := zDT c12
            clear c12
            by_cases c13 : x26_2 < (l1.length : Int)
            ·rw [if_pos c13] at H
             have c13b0 : decide (x26_2 < (l1.length : Int)) = true := zDT c13
             clear c13
             obtain ⟨ji14, hji14⟩ : ∃ j_ : Int, (wrap64 (x19_1 + x26_2)) = j_ := ⟨_, rfl⟩
             replace H : (if 0 ≤ (ji14) then (if (ji14) < (x5_2.length : Int) then (zaG.l1 k2 l1 (x5_2.set ((ji14) : Int).toNat ((IntKind.u64.wrap (x8_2 + (IntKind.u64.wrap ((IntKind.u64.wrap (rd x5_2 (ji14))) + (IntKind.u64.wrap ((IntKind.u64.wrap ((rd l0 x19_1))) * (IntKind.u64.wrap (rd l1 x26_2)))))))) % 4294967296)) x19_1 (rd l0 x19_1) ((IntKind.u64.wrap (x8_2 + (IntKind.u64.wrap ((IntKind.u64.wrap (rd x5_2 (ji14))) + (IntKind.u64.wrap ((IntKind.u64.wrap ((rd l0 x19_1))) * (IntKind.u64.wrap (rd l1 x26_2)))))))) / 4294967296) l0 (l0.length : Int) x19_1 l1 (l1.length : Int) (wrap64 (x26_2 + 1))) else (none)) else (none)) = some r := by first | (rw [hji14] at H; exact H) | (simp only [hji14] at H ⊢; exact H)
             have hji14w : (IntKind.i64.wrap (x19_1 + x26_2)) = ji14 := (zbs _).trans hji14
             by_cases c15 : 0 ≤ (ji14)
             ·rw [if_pos c15] at H
              have c15b0 : decide (0 ≤ (ji14)) = true := zDT c15
              clear c15
              by_cases c16 : (ji14) < (x5_2.length : Int)
              ·rw [if_pos c16] at H
               have c16b0 : decide ((ji14) < (x5_2.length : Int)) = true := zDT c16
               clear c16
               obtain ⟨y10, hy10⟩ : ∃ y_ : List Int, y_ = (x5_2.set ((ji14) : Int).toNat ((IntKind.u64.wrap (x8_2 + (IntKind.u64.wrap ((IntKind.u64.wrap (rd x5_2 (ji14))) + (IntKind.u64.wrap ((IntKind.u64.wrap ((rd l0 x19_1))) * (IntKind.u64.wrap (rd l1 x26_2)))))))) % 4294967296)) := ⟨_, rfl⟩
               replace H : (zaG.l1 k2 l1 y10 x19_1 (rd l0 x19_1) ((IntKind.u64.wrap (x8_2 + (IntKind.u64.wrap ((IntKind.u64.wrap (rd x5_2 (ji14))) + (IntKind.u64.wrap ((IntKind.u64.wrap ((rd l0 x19_1))) * (IntKind.u64.wrap (rd l1 x26_2)))))))) / 4294967296) l0 (l0.length : Int) x19_1 l1 (l1.length : Int) (wrap64 (x26_2 + 1))) = some r := by first | (rw [hy10]; with_reducible exact H) | (have H2_ := (Option.bind_some _ _).symm.trans H; rw [hy10]; with_reducible exact H2_) | (have H2_ := (Option.bind_some _ _).symm.trans H; with_reducible exact H2_) | with_reducible exact H | (rw [hy10]; exact H) | exact H
               have Ny10 := zaa.mk hy10
               clear hy10
               have H' := zaa.mk H
               clear H
               have p8 : 0 ≤ (x26_2 : Int) := zDO (by first | (with_reducible assumption) | assumption)
               have q8 : x26_2 < (l1.length : Int) := zDO (by first | (with_reducible assumption) | assumption)
               obtain ⟨ad8, e8, hx8_0⟩ := Kd.zbT HR1.out x26_2 p8 q8
               cases e8
               replace hx8_0 := (HB.out.cell (World.block_lt_of_cell? w _ hx8_0)).trans hx8_0
               replace p8 := eq_true p8
               replace q8 := eq_true q8
               obtain ⟨Ao18, co18, eo18⟩ := Kd.zaC HO_5.out
               subst eo18
               have p9 : 0 ≤ ((ji14) : Int) := zDO (by first | (with_reducible assumption) | assumption)
               have q9 : (ji14) < (x5_2.length : Int) := zDO (by first | (with_reducible assumption) | assumption)
               obtain ⟨ad9, e9, hx9_0⟩ := Kd.zbT (Kd.zax HO_5.out).2.2 (ji14) p9 q9
               cases e9
               replace p9 := eq_true p9
               replace q9 := eq_true q9
               have p17 : 0 ≤ ((ji14) : Int) := zDO (by first | (with_reducible assumption) | assumption)
               have q17 : ((ji14) : Int) < ((x5_2.length : Int) : Int) := zDO (by first | (with_reducible assumption) | assumption)
               obtain ⟨go17, co17, eo17, gb17, gl17, cl17, HG17⟩ := Kd.zc4 HO_5.out (by omega)
               (first | cases eo17 | (injection eo17 with ea_ en_ ec_; (first | subst ea_ | (injection ea_ with ea_; subst ea_)); subst ec_; clear en_))
               have GB17 := zaa.mk gb17
               have GG17 := zaa.mk HG17
               clear gb17 gl17 HG17
               (first | simp only [add_plain] at hx9_0 | skip)
               obtain ⟨hx17_0, hf17_0⟩ := Kd.zbK 0 HO_5.out ((ji14) : Int) p17 q17
               replace p17 := eq_true p17
               replace q17 := eq_true q17
               have HP19 := Kd.zde HO_5.out ((ji14) : Int) ((IntKind.u64.wrap (x8_2 + (IntKind.u64.wrap ((IntKind.u64.wrap (rd x5_2 (ji14))) + (IntKind.u64.wrap ((IntKind.u64.wrap ((rd l0 x19_1))) * (IntKind.u64.wrap (rd l1 x26_2)))))))) % 4294967296)
               go_wp2_with (first | ((with_reducible refine zbX (t := 109) (p := 52) rfl ?_); refine zbQ (t := 109) (p := 52) (v := ?vo_w20) (w1 := (wr.setCell ⟨go17, ((ji14) : Int).toNat, none⟩ (.int .u32 ((IntKind.u64.wrap (x8_2 + (IntKind.u64.wrap ((IntKind.u64.wrap (rd x5_2 (ji14))) + (IntKind.u64.wrap ((IntKind.u64.wrap ((rd l0 x19_1))) * (IntKind.u64.wrap (rd l1 x26_2)))))))) % 4294967296)))) ?hg ?ho ?hn ?hr ?_; (case ho => rfl); (case hg => rfl); (case hn => rfl); (case hr => first | (go_simp; done) | (go_simp; rfl)); intro w20 hw; have hg : wr.grownBy w20 (some go17) := (by rw [hw]; exact HP19.2); have hp_ : Kd.R (Kd.int .u32) 109 w20 w.heap.size (fun k_ => (w.heap.size ≤ k_)) (.slice (some ⟨go17, 0, none⟩) x5_2.length co18) y10 := (by rw [hw, Ny10.out]; exact HP19.1); clear HP19; have n0_ := zaa.mk (hp_); have n1_ := zaa.mk ((by rw [hw]; exact zbo (HB.out) GB17.out : Below w.heap.size w w20)); clear HO_5; clear HB; have HO_5 := n0_; have HB := n1_; clear n0_ n1_; clear hg hw hp_))
               go_roundg k2
               case measure => have := HK1.out; have := HK2.out; omega
               case rel => exact ⟨(y10), ((IntKind.u64.wrap (x8_2 + (IntKind.u64.wrap ((IntKind.u64.wrap (rd x5_2 (ji14))) + (IntKind.u64.wrap ((IntKind.u64.wrap ((rd l0 x19_1))) * (IntKind.u64.wrap (rd l1 x26_2)))))))) / 4294967296), (wrap64 (x26_2 + 1)), (by first | rfl | (simp; done) | (simp only [← hji14] <;> (first | rfl | simp)) | (simp [*]; done)), rs, H', ⟨by have := HK1.out; have := HK2.out; omega⟩, ⟨by (with_reducible repeat (first | apply Kd.zaQ | apply Kd.zaR | apply Kd.zbb)); exact HO_5.out⟩, ⟨lb⟩⟩
              ·rw [if_neg c16] at H
               exact absurd H (by simp)
             ·rw [if_neg c15] at H
              exact absurd H (by simp)
            ·rw [if_neg c13] at H
             exact absurd H (by simp)
           ·rw [if_neg c12] at H
            exact absurd H (by simp)
          ·rw [if_neg c11] at H
           have c11b0 : decide (x26_2 < (l1.length : Int)) = false := zDF c11
           clear c11
           obtain ⟨ji21, hji21⟩ : ∃ j_ : Int, (wrap64 (x19_1 + (l1.length : Int))) = j_ := ⟨_, rfl⟩
           replace H : (if 0 ≤ (ji21) then (if (ji21) < (x5_2.length : Int) then (zaG.l0 k2 l1 (x5_2.set ((ji21) : Int).toNat ((x8_2) % 4294967296)) l0 (l0.length : Int) (wrap64 (x19_1 + 1))) else (none)) else (none)) = some r := by first | (rw [hji21] at H; exact H) | (simp only [hji21] at H ⊢; exact H)
           have hji21w : (IntKind.i64.wrap (x19_1 + (l1.length : Int))) = ji21 := (zbs _).trans hji21
           by_cases c22 : 0 ≤ (ji21)
           ·rw [if_pos c22] at H
            have c22b0 : decide (0 ≤ (ji21)) = true := zDT c22
            clear c22
            by_cases c23 : (ji21) < (x5_2.length : Int)
            ·rw [if_pos c23] at H
             have c23b0 : decide ((ji21) < (x5_2.length : Int)) = true := zDT c23
             clear c23
             obtain ⟨y11, hy11⟩ : ∃ y_ : List Int, y_ = (x5_2.set ((ji21) : Int).toNat ((x8_2) % 4294967296)) := ⟨_, rfl⟩
             replace H : (zaG.l0 k2 l1 y11 l0 (l0.length : Int) (wrap64 (x19_1 + 1))) = some r := by first | (rw [hy11]; with_reducible exact H) | (have H2_ := (Option.bind_some _ _).symm.trans H; rw [hy11]; with_reducible exact H2_) | (have H2_ := (Option.bind_some _ _).symm.trans H; with_reducible exact H2_) | with_reducible exact H | (rw [hy11]; exact H) | exact H
             have Ny11 := zaa.mk hy11
             clear hy11
             have H' := zaa.mk H
             clear H
             have p24 : 0 ≤ ((ji21) : Int) := zDO (by first | (with_reducible assumption) | assumption)
             have q24 : ((ji21) : Int) < ((x5_2.length : Int) : Int) := zDO (by first | (with_reducible assumption) | assumption)
             obtain ⟨go24, co24, eo24, gb24, gl24, cl24, HG24⟩ := Kd.zc4 HO_5.out (by omega)
             (first | cases eo24 | (injection eo24 with ea_ en_ ec_; (first | subst ea_ | (injection ea_ with ea_; subst ea_)); subst ec_; clear en_))
             have GB24 := zaa.mk gb24
             have GG24 := zaa.mk HG24
             clear gb24 gl24 HG24
             obtain ⟨hx24_0, hf24_0⟩ := Kd.zbK 0 HO_5.out ((ji21) : Int) p24 q24
             replace p24 := eq_true p24
             replace q24 := eq_true q24
             have HP25 := Kd.zde HO_5.out ((ji21) : Int) ((x8_2) % 4294967296)
             go_wp2_with (first | ((with_reducible refine zbX (t := 109) (p := 63) rfl ?_); refine zbQ (t := 109) (p := 63) (v := ?vo_w26) (w1 := (wr.setCell ⟨go24, ((ji21) : Int).toNat, none⟩ (.int .u32 ((x8_2) % 4294967296)))) ?hg ?ho ?hn ?hr ?_; (case ho => rfl); (case hg => rfl); (case hn => rfl); (case hr => first | (go_simp; done) | (go_simp; rfl)); intro w26 hw; have hg : wr.grownBy w26 (some go24) := (by rw [hw]; exact HP25.2); have hp_ : Kd.R (Kd.int .u32) 109 w26 w.heap.size (fun k_ => (w.heap.size ≤ k_)) (.slice (some ⟨go24, 0, none⟩) x5_2.length co24) y11 := (by rw [hw, Ny11.out]; exact HP25.1); clear HP25; have n0_ := zaa.mk (hp_); have n1_ := zaa.mk ((by rw [hw]; exact zbo (HB.out) GB24.out : Below w.heap.size w w26)); clear HO_5; clear HB; have HO_5 := n0_; have HB := n1_; clear n0_ n1_; clear hg hw hp_))
             go_roundg k2
             case measure => have := HK1.out; have := HK2.out; omega
             case rel => exact ⟨(y11), (wrap64 (x19_1 + 1)), rs, H', ⟨by have := HK1.out; have := HK2.out; omega⟩, ⟨by (with_reducible repeat (first | apply Kd.zaQ | apply Kd.zaR | apply Kd.zbb)); exact HO_5.out⟩, ⟨lb⟩⟩
            ·rw [if_neg c23] at H
             exact absurd H (by simp)
           ·rw [if_neg c22] at H
            exact absurd H (by simp)
       ·rw [if_neg c10] at H
        exact absurd H (by simp)
      ·rw [if_neg c9] at H
       exact absurd H (by simp)
     ·rw [if_neg c8] at H
      have c8b0 : decide (x19_1 < (l0.length : Int)) = false := zDF c8
      clear c8
      replace H := zBE H
      obtain ⟨t4, A270, H⟩ := H
      replace H : (some t4) = some r := H
      have A27 := zaa.mk A270
      clear A270
      obtain rfl := Option.some.inj H
      obtain ⟨Ao28, co28, eo28⟩ := Kd.zaC HO_5.out
      subst eo28
      go_wp2_with (first | (go_at_call 167; (with_reducible refine (zaM.calls k1 (fun k_ => some k_ = (.slice Ao28 x5_1.length co28 : Value).ownBlock) _ _ x5_1 t4 _ ?side1 A27.out).mono ?_); (case side1 => exact Kd.R_V (Kd.zel rfl (HO_5.out))); rintro e w29 ⟨v5, rfl, ho0, hb⟩; have n0_ := zaa.mk (Kd.zaS (rc HO_5.out) hb); have n1_ := zaa.mk (Kd.zbU (Kd.zbH (ok' := fun k_ => (w.heap.size ≤ k_)) ho0 (fun k_ hk_ => Or.elim hk_ (fun hs_ => ((HO_5.out).1 k_ hs_.symm)) (fun hn_ => (Nat.le_trans (zad (lc HB.out)) hn_)))) (zad (lc HB.out))); have n2_ := zaa.mk (zab (lc HB.out) hb); clear HO_5; clear HB; have HO_5 := n0_; have HO6 := n1_; have HB := n2_; clear n0_ n1_ n2_; (try clear hb); (try clear hb2); (try clear hk); (try clear hi); (try clear ho0)))
      go_ret
      exact ⟨_, by first | rfl | (simp [zaf, zag] <;> rfl) | (simp only [← hji3]; first | rfl | (simp [zaf, zag] <;> rfl)) | (simp [*, zaf, zag] <;> rfl), by (with_reducible repeat (first | apply Kd.zaZ | apply Kd.zbr | apply Kd.zbI)); exact HO6.out, lb⟩
  ·rw [if_neg c5] at H
   exact absurd H (by simp)
 ·rw [if_neg c4] at H
  exact absurd H (by simp)
end Go.Proofs.YtioofhilohmfbaaGreatDoor.P
end
section
open Go Go.RowKit Go.Lib PrintWords
namespace Go.Proofs.YtioofhilohmfbaaGreatDoor
theorem zqV (n : Nat) (h : n < 4294967296) : n / 2147483648 = (n.testBit 31).toNat := by
 rw [Nat.testBit_eq_decide_div_mod_eq]
 have e : (2 : Nat) ^ 31 = 2147483648 := by decide
 rw [e]
 by_cases h1 : n / 2147483648 % 2 = 1
 ·rw [decide_eq_true h1]; show _ = 1; omega
 ·rw [decide_eq_false h1]; show _ = 0; omega
theorem zpk (n : Nat) (h : n < 4294967296) : n.testBit 31 = decide (2147483648 ≤ n) := by
 rw [Nat.testBit_eq_decide_div_mod_eq]
 have e : (2 : Nat) ^ 31 = 2147483648 := by decide
 rw [e]
 exact decide_eq_decide.2 (by omega)
theorem w32 (n : Int) (h₀ : 0 ≤ n) (h₁ : n < 2 ^ 32) : IntKind.u32.wrap n = n := by rw [IntKind.wrap_u32]; omega
theorem w64 (n : Int) (h₀ : 0 ≤ n) (h₁ : n < 2 ^ 64) : IntKind.u64.wrap n = n := by rw [IntKind.wrap_u64]; omega
theorem zpl (a b : Nat) (ha : a < 4294967296) (hb : b < 4294967296) : bits .xor .u32 (a : Int) (b : Int) = ((a ^^^ b : Nat) : Int) := by
 have hx : a ^^^ b < 2 ^ 32 := Nat.xor_lt_two_pow (by omega) (by omega)
 have h1 : (BitVec.ofInt 32 (a : Int)).toNat = a := by
  rw [BitVec.ofInt_natCast, BitVec.toNat_ofNat]; exact Nat.mod_eq_of_lt (by omega)
 have h2 : (BitVec.ofInt 32 (b : Int)).toNat = b := by
  rw [BitVec.ofInt_natCast, BitVec.toNat_ofNat]; exact Nat.mod_eq_of_lt (by omega)
 show IntKind.u32.wrap ((BitVec.ofInt 32 (a : Int) ^^^ BitVec.ofInt 32 (b : Int)).toNat : Int) = _
 rw [BitVec.toNat_xor, h1, h2, IntKind.wrap_u32]
 omega
theorem zqh (a b : Nat) (ha : a < 4294967296) (hb : b < 4294967296) : bits .and .u32 (a : Int) (b : Int) = ((a &&& b : Nat) : Int) :=
 (bits_nat .u32 32 (by decide) w32 a b (by omega) (by omega)).1
theorem zra (a b : Nat) (ha : a < 4294967296) (hb : b < 4294967296) : bits .or .u32 (a : Int) (b : Int) = ((a ||| b : Nat) : Int) :=
 (bits_nat .u32 32 (by decide) w32 a b (by omega) (by omega)).2
theorem zk9 (x y d : Nat) (hx : x < 4294967296) (hy : y < 4294967296) (hd : d < 4294967296) (b : Nat) (hb : b ≤ 1) (he : (x + 4294967296 + 4294967296 - y - b) % 4294967296 = d) :
  ((4294967295 ^^^ x) &&& y ||| (4294967295 ^^^ (x ^^^ y)) &&& d) / 2147483648 = if x < y + b then 1 else 0 := by
 have h1 : (4294967295 ^^^ x) < 2 ^ 32 := Nat.xor_lt_two_pow (by omega) (by omega)
 have h2 : (x ^^^ y) < 2 ^ 32 := Nat.xor_lt_two_pow (by omega) (by omega)
 have h3 : (4294967295 ^^^ (x ^^^ y)) < 2 ^ 32 := Nat.xor_lt_two_pow (by omega) h2
 have h4 : ((4294967295 ^^^ x) &&& y ||| (4294967295 ^^^ (x ^^^ y)) &&& d) < 2 ^ 32 := Nat.or_lt_two_pow (Nat.and_lt_two_pow _ (by omega)) (Nat.and_lt_two_pow _ (by omega))
 rw [zqV _ (by omega), Nat.testBit_or, Nat.testBit_and, Nat.testBit_and, Nat.testBit_xor, Nat.testBit_xor, Nat.testBit_xor, zpk x hx, zpk y hy, zpk d hd, show Nat.testBit 4294967295 31 = true by decide]
 by_cases hx1 : 2147483648 ≤ x <;> by_cases hy1 : 2147483648 ≤ y <;> by_cases hd1 : 2147483648 ≤ d <;> by_cases hlt : x < y + b <;> simp only [hx1, hy1, hd1, hlt, decide_true, decide_false, Bool.xor_true, Bool.xor_false, Bool.true_xor, Bool.false_xor, Bool.not_true, Bool.not_false, Bool.and_true, Bool.and_false, Bool.true_and, Bool.false_and, Bool.or_true, Bool.or_false, Bool.true_or, Bool.false_or, Bool.toNat_true, Bool.toNat_false, if_true, if_false] <;> omega
def P.zcE.f (x y b : Int) : Option (Int × Int) := if 0 ≤ x ∧ x < 4294967296 ∧ 0 ≤ y ∧ y < 4294967296 ∧ 0 ≤ b ∧ b ≤ 1 then some ((x - y - b) % 4294967296, if x < y + b then 1 else 0) else none
theorem zla (x y b : Int) (hx : 0 ≤ x) (hx1 : x < 4294967296) (hy : 0 ≤ y) (hy1 : y < 4294967296) (hb : 0 ≤ b) (hb1 : b ≤ 1) :
  bits .or .u32 (bits .and .u32 (bits .xor .u32 IntKind.u32.max x) y) (bits .and .u32 (bits .xor .u32 IntKind.u32.max (bits .xor .u32 x y)) ((x - y - b) % 4294967296)) / 2147483648 = if x < y + b then 1 else 0 := by
 obtain ⟨x, rfl⟩ := Int.eq_ofNat_of_zero_le hx
 obtain ⟨y, rfl⟩ := Int.eq_ofNat_of_zero_le hy
 obtain ⟨b, rfl⟩ := Int.eq_ofNat_of_zero_le hb
 obtain ⟨d, hd⟩ : ∃ d : Nat, ((x : Int) - (y : Int) - (b : Int)) % 4294967296 = (d : Int) := ⟨(((x : Int) - (y : Int) - (b : Int)) % 4294967296).toNat, by omega⟩
 have hM : IntKind.u32.max = ((4294967295 : Nat) : Int) := by decide
 have h1 : (4294967295 ^^^ x) < 2 ^ 32 := Nat.xor_lt_two_pow (by omega) (by omega)
 have h2 : (x ^^^ y) < 2 ^ 32 := Nat.xor_lt_two_pow (by omega) (by omega)
 have h3 : (4294967295 ^^^ (x ^^^ y)) < 2 ^ 32 := Nat.xor_lt_two_pow (by omega) h2
 have h5 : ((4294967295 ^^^ x) &&& y) < 2 ^ 32 := Nat.and_lt_two_pow _ (by omega)
 have h6 : ((4294967295 ^^^ (x ^^^ y)) &&& d) < 2 ^ 32 := Nat.and_lt_two_pow _ (by omega)
 rw [hd, hM, zpl _ x (by omega) (by omega), zpl x y (by omega) (by omega), zpl _ _ (by omega) (by omega), zqh _ y (by omega) (by omega), zqh _ d (by omega) (by omega), zra _ _ (by omega) (by omega)]
 have := zk9 x y d (by omega) (by omega) (by omega) b (by omega) (by omega)
 have hc : (((4294967295 ^^^ x) &&& y ||| (4294967295 ^^^ (x ^^^ y)) &&& d : Nat) : Int) / 2147483648 = ((((4294967295 ^^^ x) &&& y ||| (4294967295 ^^^ (x ^^^ y)) &&& d) / 2147483648 : Nat) : Int) := by omega
 rw [hc, this]
 by_cases hlt : x < y + b
 ·rw [if_pos hlt, if_pos (by omega)]; rfl
 ·rw [if_neg hlt, if_neg (by omega)]; rfl
theorem P.zcE.calls (x y b : Int) (r1 r2 : Int) (w : World) (h : P.zcE.f x y b = some (r1, r2)) :
  Calls Tryz.prog 203 #[.int .u32 x, .int .u32 y, .int .u32 b] w fun e w' => e = .returned (.tuple #[.int .u32 r1, .int .u32 r2]) ∧ Below w.heap.size w w' := by
 unfold P.zcE.f at h
 by_cases hc : 0 ≤ x ∧ x < 4294967296 ∧ 0 ≤ y ∧ y < 4294967296 ∧ 0 ≤ b ∧ b ≤ 1
 case neg => rw [if_neg hc] at h; cases h
 rw [if_pos hc] at h
 injection h with h
 injection h with h1 h2
 subst h1
 obtain ⟨q1, q2, q3, q4, q5, q6⟩ := hc
 have hf := zaa.mk ((zla x y b q1 q2 q3 q4 q5 q6).trans h2)
 clear q1 q2 q3 q4 q5 q6 h2
 go_enter Tryz.func203, Tryz.ntmps203
 go_wp2
 go_ret2
 exact ⟨congrArg (fun z => Ending.returned (Value.tuple #[.int .u32 ((x - y - b) % 4294967296), .int .u32 z])) hf.out, Below.refl _ _⟩
def P.zcP.f (x y b : Int) : Option (Int × Int) := if 0 ≤ x ∧ x < b ∧ b < 4294967296 ∧ 0 ≤ y ∧ y < 4294967296 then some ((x * 4294967296 + y) / b, (x * 4294967296 + y) % b) else none
theorem zmi (x y b : Int) (hx : 0 ≤ x) (hx1 : x < b) (hb : b < 4294967296) (hy : 0 ≤ y) (hy1 : y < 4294967296) : IntKind.u64.wrap ((bits .or .u64 (x * 4294967296) y).tdiv b) % 4294967296 = (x * 4294967296 + y) / b ∧ (bits .or .u64 (x * 4294967296) y).tmod b % 4294967296 = (x * 4294967296 + y) % b := by
 have e : bits .or .u64 (x * 4294967296) y = x * 4294967296 + y := bits_join .u64 64 (by decide) w64 32 _ _ (by omega) (by omega) (by omega) (by omega) (by omega) (by omega)
 rw [e]
 have hz : 0 ≤ x * 4294967296 + y := by omega
 have hzb : x * 4294967296 + y < b * 4294967296 := by omega
 generalize x * 4294967296 + y = z at hz hzb
 have h0 : 0 ≤ z / b := Int.ediv_nonneg hz (by omega)
 have h1 : z / b < 4294967296 := Int.ediv_lt_of_lt_mul (by omega) (by rw [Int.mul_comm]; exact hzb)
 have h2 : 0 ≤ z % b := Int.emod_nonneg _ (by omega)
 have h3 : z % b < b := Int.emod_lt_of_pos _ (by omega)
 rw [Int.tdiv_eq_ediv_of_nonneg hz, Int.tmod_eq_emod_of_nonneg hz, w64 _ h0 (by omega)]
 constructor <;> omega
theorem P.zcP.calls (x y b : Int) (r1 r2 : Int) (w : World) (h : P.zcP.f x y b = some (r1, r2)) :
  Calls Tryz.prog 201 #[.int .u32 x, .int .u32 y, .int .u32 b] w fun e w' => e = .returned (.tuple #[.int .u32 r1, .int .u32 r2]) ∧ Below w.heap.size w w' := by
 unfold P.zcP.f at h
 by_cases hc : 0 ≤ x ∧ x < b ∧ b < 4294967296 ∧ 0 ≤ y ∧ y < 4294967296
 case neg => rw [if_neg hc] at h; cases h
 rw [if_pos hc] at h
 injection h with h
 injection h with e1 e2
 subst e1; subst e2
 obtain ⟨q1, q2, q3, q4, q5⟩ := hc
 have hf := zaa.mk (zmi x y b q1 q2 q3 q4 q5)
 have h1 : decide (b = 0) = false := decide_eq_false (by omega)
 have h2 : (b != 0) = true := bne_iff_ne.2 (by omega)
 have h2b : (b == 0) = false := beq_eq_false_iff_ne.2 (by omega)
 have h3 : decide (b ≤ x) = false := decide_eq_false (by omega)
 have h4 : IntKind.u64.wrap b = b := w64 b (by omega) (by omega)
 go_enter Tryz.func201, Tryz.ntmps201
 go_wp2
 go_quiet (fail)
 go_wp2
 go_ret2
 exact ⟨(congrArg (fun z => Ending.returned (Value.tuple #[.int .u32 z, .int .u32 _])) hf.out.1).trans (congrArg (fun z => Ending.returned (Value.tuple #[.int .u32 ((x * 4294967296 + y) / b), .int .u32 z])) hf.out.2), zao (Below.refl _ _) _⟩
end Go.Proofs.YtioofhilohmfbaaGreatDoor
end
section
open Go.RowKit PrintWords PrintLast PrintMore
namespace Go.Proofs.YtioofhilohmfbaaGreatDoor.P
attribute [local go_sem] za3 za4 zbh zbi zaT zaU za5 za6 zbn
def za0.l0 : Nat → List Int → List Int → List Int → Int → Int → Int → Option (List Int)
 | 0, _, _, _, _, _, _ => none
 | k + 1, x0, x1, x5, x6, x13, x14 => if x14 < x13 then (if x14 < (x1.length : Int) then (if 0 ≤ x14 then (if x14 < (x0.length : Int) then ((zcE.f (rd x0 x14) (rd x1 x14) x6).bind fun bt6 => (if x14 < (x5.length : Int) then (za0.l0 k x0 x1 (x5.set (x14 : Int).toNat bt6.1) bt6.2 x13 (wrap64 (x14 + 1))) else (none))) else (none)) else (none)) else (if 0 ≤ x14 then (if x14 < (x0.length : Int) then ((zcE.f (rd x0 x14) 0 x6).bind fun bt10 => (if x14 < (x5.length : Int) then (za0.l0 k x0 x1 (x5.set (x14 : Int).toNat bt10.1) bt10.2 x13 (wrap64 (x14 + 1))) else (none))) else (none)) else (none))) else ((zaM.f k x5).bind fun t13 => (some t13))
def za0.f (k : Nat) (l0 : List Int) (l1 : List Int) : Option (List Int) := if 0 ≤ (l0.length : Int) then (if ((l0.length : Int) : Int).toNat ≤ 70368744177664 then (za0.l0 k l0 l1 (List.replicate ((l0.length : Int) : Int).toNat 0) 0 (l0.length : Int) 0) else (none)) else (none)
theorem za0.zbp : ∀ k, (∀ y0 y1 y2 y3 y4 y5, LeO (za0.l0 k y0 y1 y2 y3 y4 y5) (za0.l0 (k + 1) y0 y1 y2 y3 y4 y5))
 | 0 => fun _ _ _ _ _ _ r h => by simp [za0.l0] at h
 | k + 1 => by
  have ih0 := za0.zbp k
  ·intro y0 y1 y2 y3 y4 y5
   unfold za0.l0
   repeat' with_reducible first | exact ih0 _ _ _ _ _ _ | exact zaM.mono _ _ | exact LeO.refl _ | exact LeO.none _ | refine LeO.ite ?_ ?_ | refine LeO.bind ?_ (fun _ => ?_)
theorem za0.mono : ∀ a0 a1 k, LeO (za0.f k a0 a1) (za0.f (k + 1) a0 a1) := by
 intro a0 a1 k
 have ih0 := za0.zbp k
 unfold za0.f
 repeat' with_reducible first | exact ih0 _ _ _ _ _ _ | exact zaM.mono _ _ | exact LeO.refl _ | exact LeO.none _ | refine LeO.ite ?_ ?_ | refine LeO.bind ?_ (fun _ => ?_)
theorem za0.calls (k : Nat) (A0 : Option Addr) (c0 : Nat) (l0 : List Int) (A1 : Option Addr) (c1 : Nat) (l1 : List Int) (r : List Int) (w : World) (hr0 : Kd.C (Kd.int .u32) w A0 l0.length l0) (hc0 : l0.length ≤ c0) (hr1 : Kd.C (Kd.int .u32) w A1 l1.length l1) (hc1 : l1.length ≤ c1) (h : za0.f k l0 l1 = some r) :
  Calls Tryz.prog 191 #[.slice A0 l0.length c0, .slice A1 l1.length c1] w fun e w' => ∃ v0_ : Value, e = .returned (v0_) ∧ Kd.V (Kd.int .u32) 109 w' w.heap.size (fun k_ => (w.heap.size ≤ k_)) v0_ r ∧ Below w.heap.size w w' := by
 have HR0 := zaa.mk hr0
 have HC0 := zaa.mk hc0
 clear hr0 hc0
 have HR1 := zaa.mk hr1
 have HC1 := zaa.mk hc1
 clear hr1 hc1
 have HB := zaa.mk (Below.refl w.heap.size w)
 have H : (if 0 ≤ (l0.length : Int) then (if ((l0.length : Int) : Int).toNat ≤ 70368744177664 then (za0.l0 k l0 l1 (List.replicate ((l0.length : Int) : Int).toNat 0) 0 (l0.length : Int) 0) else (none)) else (none)) = some r := h
 clear h
 by_cases c3 : 0 ≤ (l0.length : Int)
 ·rw [if_pos c3] at H
  have c3b0 := eq_true c3
  have c3b1 : decide (0 ≤ (l0.length : Int)) = true := zDT c3
  clear c3
  by_cases c4 : ((l0.length : Int) : Int).toNat ≤ 70368744177664
  ·rw [if_pos c4] at H
   have c4b0 := eq_true c4
   have c4b1 : decide (((l0.length : Int) : Int).toNat ≤ 70368744177664) = true := zDT c4
   clear c4
   obtain ⟨y1, hy1⟩ : ∃ y_ : List Int, y_ = (List.replicate ((l0.length : Int) : Int).toNat 0) := ⟨_, rfl⟩
   replace H : (za0.l0 k l0 l1 y1 0 (l0.length : Int) 0) = some r := by first | (rw [hy1]; with_reducible exact H) | (have H2_ := (Option.bind_some _ _).symm.trans H; rw [hy1]; with_reducible exact H2_) | (have H2_ := (Option.bind_some _ _).symm.trans H; with_reducible exact H2_) | with_reducible exact H | (rw [hy1]; exact H) | exact H
   have Ny1 := zaa.mk hy1
   clear hy1
   have H' := zaa.mk H
   clear H
   go_enter Tryz.func191, Tryz.ntmps191
   go_wp2_with (first | ((with_reducible refine zaA (N := 11) rfl ?_); refine Kd.zeH (Kd.int .u32) _ 109 rfl (N := 11) rfl 39 _ _ rfl (l0.length : Int) rfl rfl Tryz.underlying39 (.int .u32 0) 4 zcS rfl (by decide) (by omega) 0 (ok := fun _ => True) (okp := fun _ => True) rfl (fun _ hk => hk) trivial (zDO (by first | (with_reducible assumption) | assumption)) (Nat.le_trans (Nat.mul_le_mul_right _ (zDO (by first | (with_reducible assumption) | assumption) : (l0.length : Int).toNat ≤ 70368744177664)) (by omega)) (Below.refl _ _) (Nat.le_refl _) ?_; intro v2 w5 ho6 hb hg_ hnew_; clear hg_ hnew_; (first | rw [← Ny1.out] at ho6 | (simp only [Int.reduceToNat] at ho6; rw [← Ny1.out] at ho6)); have n0_ := zaa.mk (Kd.zaz (Kd.zfS (M := fun k_ => (w.heap.size ≤ k_)) ho6 (zad (lc HB.out)) (fun k_ h_ => h_)) (zad (lc HB.out))); have n1_ := zaa.mk (zab (lc HB.out) hb); clear HB; have HO3 := n0_; have HB := n1_; clear n0_ n1_; clear hb ho6))
   go_loopg [6, 14] k (fun kq v6 v14 w' => ∃ (x5_1 : List Int) (x6_1 : Int) (x14_1 : Int), v6 = .int .u32 x6_1 ∧ v14 = .int .i64 x14_1 ∧ zaa (za0.l0 kq l0 l1 x5_1 x6_1 (l0.length : Int) x14_1 = some r) ∧ zaa (kq ≤ k) ∧ zaa (Kd.R (Kd.int .u32) 109 w' w.heap.size (fun k_ => (w.heap.size ≤ k_)) v2 x5_1) ∧ zaa (Below w.heap.size w w'))
   case atStart => exact ⟨(y1), (0), (0), rs, rs, H', ⟨Nat.le_refl _⟩, ⟨by (with_reducible repeat (first | apply Kd.zaQ | apply Kd.zaR | apply Kd.zbb)); exact Kd.za7 HO3.out (fun _ hk => hk.1)⟩, ⟨lb⟩⟩
   case round =>
    clear H'
    try clear c1
    try clear p2
    try clear c3
    try clear c3b0
    try clear c3b1
    try clear c4
    try clear c4b0
    try clear c4b1
    obtain ⟨x5_1, x6_1, x14_1, rfl, rfl, HA, HK1, HO_5, HB⟩ := hrel
    cases gk with
    | zero => exact absurd HA.out (by simp [za0.l0])
    | succ k1 =>
     have H := HA.out
     clear HA
     simp only [za0.l0] at H
     by_cases c7 : x14_1 < (l0.length : Int)
     ·rw [if_pos c7] at H
      have c7b0 : decide (x14_1 < (l0.length : Int)) = true := zDT c7
      clear c7
      by_cases c8 : x14_1 < (l1.length : Int)
      ·rw [if_pos c8] at H
       have c8b0 : decide (x14_1 < (l1.length : Int)) = true := zDT c8
       clear c8
       by_cases c9 : 0 ≤ x14_1
       ·rw [if_pos c9] at H
        have c9b0 : decide (0 ≤ x14_1) = true := zDT c9
        clear c9
        by_cases c10 : x14_1 < (l0.length : Int)
        ·rw [if_pos c10] at H
         have c10b0 : decide (x14_1 < (l0.length : Int)) = true := zDT c10
         clear c10
         replace H := zBE H
         obtain ⟨⟨t6, t7⟩, A110, H⟩ := H
         replace H : (if x14_1 < (x5_1.length : Int) then (za0.l0 k1 l0 l1 (x5_1.set (x14_1 : Int).toNat t6) t7 (l0.length : Int) (wrap64 (x14_1 + 1))) else (none)) = some r := H
         have A11 := zaa.mk A110
         clear A110
         by_cases c12 : x14_1 < (x5_1.length : Int)
         ·rw [if_pos c12] at H
          have c12b0 : decide (x14_1 < (x5_1.length : Int)) = true := zDT c12
          clear c12
          obtain ⟨y8, hy8⟩ : ∃ y_ : List Int, y_ = (x5_1.set (x14_1 : Int).toNat t6) := ⟨_, rfl⟩
          replace H : (za0.l0 k1 l0 l1 y8 t7 (l0.length : Int) (wrap64 (x14_1 + 1))) = some r := by first | (rw [hy8]; with_reducible exact H) | (have H2_ := (Option.bind_some _ _).symm.trans H; rw [hy8]; with_reducible exact H2_) | (have H2_ := (Option.bind_some _ _).symm.trans H; with_reducible exact H2_) | with_reducible exact H | (rw [hy8]; exact H) | exact H
          have Ny8 := zaa.mk hy8
          clear hy8
          have H' := zaa.mk H
          clear H
          have p4 : 0 ≤ (x14_1 : Int) := zDO (by first | (with_reducible assumption) | assumption)
          have q4 : x14_1 < (l1.length : Int) := zDO (by first | (with_reducible assumption) | assumption)
          obtain ⟨ad4, e4, hx4_0⟩ := Kd.zbT HR1.out x14_1 p4 q4
          cases e4
          replace hx4_0 := (HB.out.cell (World.block_lt_of_cell? w _ hx4_0)).trans hx4_0
          replace p4 := eq_true p4
          replace q4 := eq_true q4
          have p5 : 0 ≤ (x14_1 : Int) := zDO (by first | (with_reducible assumption) | assumption)
          have q5 : x14_1 < (l0.length : Int) := zDO (by first | (with_reducible assumption) | assumption)
          obtain ⟨ad5, e5, hx5_0⟩ := Kd.zbT HR0.out x14_1 p5 q5
          cases e5
          replace hx5_0 := (HB.out.cell (World.block_lt_of_cell? w _ hx5_0)).trans hx5_0
          replace p5 := eq_true p5
          replace q5 := eq_true q5
          go_wp2_with (first | (go_at_call 203; (with_reducible refine (zcE.calls (rd l0 x14_1) (rd l1 x14_1) x6_1 t6 t7 _ A11.out).mono ?_); rintro e w14 ⟨rfl, hb⟩; have n0_ := zaa.mk (Kd.zaS (rc HO_5.out) hb); have n1_ := zaa.mk (zab (lc HB.out) hb); clear HO_5; clear HB; have HO_5 := n0_; have HB := n1_; clear n0_ n1_; (try clear hb); (try clear hb2); (try clear hk); (try clear hi); have p13 : 0 ≤ (x14_1 : Int) := zDO (by first | (with_reducible assumption) | assumption); have q13 : (x14_1 : Int) < ((x5_1.length : Int) : Int) := zDO (by first | (with_reducible assumption) | assumption); obtain ⟨go13, co13, eo13, gb13, gl13, cl13, HG13⟩ := Kd.zc4 HO_5.out (by omega); (first | cases eo13 | (injection eo13 with ea_ en_ ec_; (first | subst ea_ | (injection ea_ with ea_; subst ea_)); subst ec_; clear en_)); have GB13 := zaa.mk gb13; have GG13 := zaa.mk HG13; clear gb13 gl13 HG13; obtain ⟨hx13_0, hf13_0⟩ := Kd.zbK 0 HO_5.out (x14_1 : Int) p13 q13; replace p13 := eq_true p13; replace q13 := eq_true q13; obtain ⟨hy15_, hz15_⟩ := Kd.zbK 0 HO_5.out (x14_1 : Int) (zDO (by first | (with_reducible assumption) | assumption)) (zDO (by first | (with_reducible assumption) | assumption)); have HP15 := Kd.zde HO_5.out (x14_1 : Int) t6) | ((with_reducible refine zbX (t := 109) (p := 37) rfl ?_); refine zbQ (t := 109) (p := 37) (v := ?vo_w16) (w1 := (w14.setCell ⟨go13, (x14_1 : Int).toNat, none⟩ (.int .u32 t6))) ?hg ?ho ?hn ?hr ?_; (case ho => rfl); (case hg => rfl); (case hn => rfl); (case hr => first | (go_simp; done) | (go_simp; rfl)); intro w16 hw; have hg : w14.grownBy w16 (some go13) := (by rw [hw]; exact HP15.2); have hp_ : Kd.R (Kd.int .u32) 109 w16 w.heap.size (fun k_ => (w.heap.size ≤ k_)) (.slice (some ⟨go13, 0, none⟩) x5_1.length co13) y8 := (by rw [hw, Ny8.out]; exact HP15.1); clear HP15; have n0_ := zaa.mk (hp_); have n1_ := zaa.mk ((by rw [hw]; exact zbo (HB.out) GB13.out : Below w.heap.size w w16)); clear HO_5; clear HB; have HO_5 := n0_; have HB := n1_; clear n0_ n1_; clear hg hw hp_))
          go_roundg k1
          case measure => have := HK1.out; omega
          case rel => exact ⟨(y8), (t7), (wrap64 (x14_1 + 1)), rs, rs, H', ⟨by have := HK1.out; omega⟩, ⟨by (with_reducible repeat (first | apply Kd.zaQ | apply Kd.zaR | apply Kd.zbb)); exact HO_5.out⟩, ⟨lb⟩⟩
         ·rw [if_neg c12] at H
          exact absurd H (by simp)
        ·rw [if_neg c10] at H
         exact absurd H (by simp)
       ·rw [if_neg c9] at H
        exact absurd H (by simp)
      ·rw [if_neg c8] at H
       have c8b0 : decide (x14_1 < (l1.length : Int)) = false := zDF c8
       clear c8
       by_cases c17 : 0 ≤ x14_1
       ·rw [if_pos c17] at H
        have c17b0 : decide (0 ≤ x14_1) = true := zDT c17
        clear c17
        by_cases c18 : x14_1 < (l0.length : Int)
        ·rw [if_pos c18] at H
         have c18b0 : decide (x14_1 < (l0.length : Int)) = true := zDT c18
         clear c18
         replace H := zBE H
         obtain ⟨⟨t10, t11⟩, A190, H⟩ := H
         replace H : (if x14_1 < (x5_1.length : Int) then (za0.l0 k1 l0 l1 (x5_1.set (x14_1 : Int).toNat t10) t11 (l0.length : Int) (wrap64 (x14_1 + 1))) else (none)) = some r := H
         have A19 := zaa.mk A190
         clear A190
         by_cases c20 : x14_1 < (x5_1.length : Int)
         ·rw [if_pos c20] at H
          have c20b0 : decide (x14_1 < (x5_1.length : Int)) = true := zDT c20
          clear c20
          obtain ⟨y12, hy12⟩ : ∃ y_ : List Int, y_ = (x5_1.set (x14_1 : Int).toNat t10) := ⟨_, rfl⟩
          replace H : (za0.l0 k1 l0 l1 y12 t11 (l0.length : Int) (wrap64 (x14_1 + 1))) = some r := by first | (rw [hy12]; with_reducible exact H) | (have H2_ := (Option.bind_some _ _).symm.trans H; rw [hy12]; with_reducible exact H2_) | (have H2_ := (Option.bind_some _ _).symm.trans H; with_reducible exact H2_) | with_reducible exact H | (rw [hy12]; exact H) | exact H
          have Ny12 := zaa.mk hy12
          clear hy12
          have H' := zaa.mk H
          clear H
          have p9 : 0 ≤ (x14_1 : Int) := zDO (by first | (with_reducible assumption) | assumption)
          have q9 : x14_1 < (l0.length : Int) := zDO (by first | (with_reducible assumption) | assumption)
          obtain ⟨ad9, e9, hx9_0⟩ := Kd.zbT HR0.out x14_1 p9 q9
          cases e9
          replace hx9_0 := (HB.out.cell (World.block_lt_of_cell? w _ hx9_0)).trans hx9_0
          replace p9 := eq_true p9
          replace q9 := eq_true q9
          go_wp2_with (first | (go_at_call 203; (with_reducible refine (zcE.calls (rd l0 x14_1) 0 x6_1 t10 t11 _ A19.out).mono ?_); rintro e w22 ⟨rfl, hb⟩; have n0_ := zaa.mk (Kd.zaS (rc HO_5.out) hb); have n1_ := zaa.mk (zab (lc HB.out) hb); clear HO_5; clear HB; have HO_5 := n0_; have HB := n1_; clear n0_ n1_; (try clear hb); (try clear hb2); (try clear hk); (try clear hi); have p21 : 0 ≤ (x14_1 : Int) := zDO (by first | (with_reducible assumption) | assumption); have q21 : (x14_1 : Int) < ((x5_1.length : Int) : Int) := zDO (by first | (with_reducible assumption) | assumption); obtain ⟨go21, co21, eo21, gb21, gl21, cl21, HG21⟩ := Kd.zc4 HO_5.out (by omega); (first | cases eo21 | (injection eo21 with ea_ en_ ec_; (first | subst ea_ | (injection ea_ with ea_; subst ea_)); subst ec_; clear en_)); have GB21 := zaa.mk gb21; have GG21 := zaa.mk HG21; clear gb21 gl21 HG21; obtain ⟨hx21_0, hf21_0⟩ := Kd.zbK 0 HO_5.out (x14_1 : Int) p21 q21; replace p21 := eq_true p21; replace q21 := eq_true q21; obtain ⟨hy23_, hz23_⟩ := Kd.zbK 0 HO_5.out (x14_1 : Int) (zDO (by first | (with_reducible assumption) | assumption)) (zDO (by first | (with_reducible assumption) | assumption)); have HP23 := Kd.zde HO_5.out (x14_1 : Int) t10) | ((with_reducible refine zbX (t := 109) (p := 37) rfl ?_); refine zbQ (t := 109) (p := 37) (v := ?vo_w24) (w1 := (w22.setCell ⟨go21, (x14_1 : Int).toNat, none⟩ (.int .u32 t10))) ?hg ?ho ?hn ?hr ?_; (case ho => rfl); (case hg => rfl); (case hn => rfl); (case hr => first | (go_simp; done) | (go_simp; rfl)); intro w24 hw; have hg : w22.grownBy w24 (some go21) := (by rw [hw]; exact HP23.2); have hp_ : Kd.R (Kd.int .u32) 109 w24 w.heap.size (fun k_ => (w.heap.size ≤ k_)) (.slice (some ⟨go21, 0, none⟩) x5_1.length co21) y12 := (by rw [hw, Ny12.out]; exact HP23.1); clear HP23; have n0_ := zaa.mk (hp_); have n1_ := zaa.mk ((by rw [hw]; exact zbo (HB.out) GB21.out : Below w.heap.size w w24)); clear HO_5; clear HB; have HO_5 := n0_; have HB := n1_; clear n0_ n1_; clear hg hw hp_))
          go_roundg k1
          case measure => have := HK1.out; omega
          case rel => exact ⟨(y12), (t11), (wrap64 (x14_1 + 1)), rs, rs, H', ⟨by have := HK1.out; omega⟩, ⟨by (with_reducible repeat (first | apply Kd.zaQ | apply Kd.zaR | apply Kd.zbb)); exact HO_5.out⟩, ⟨lb⟩⟩
         ·rw [if_neg c20] at H
          exact absurd H (by simp)
        ·rw [if_neg c18] at H
         exact absurd H (by simp)
       ·rw [if_neg c17] at H
        exact absurd H (by simp)
     ·rw [if_neg c7] at H
      have c7b0 : decide (x14_1 < (l0.length : Int)) = false := zDF c7
      clear c7
      replace H := zBE H
      obtain ⟨t13, A250, H⟩ := H
      replace H : (some t13) = some r := H
      have A25 := zaa.mk A250
      clear A250
      obtain rfl := Option.some.inj H
      obtain ⟨Ao26, co26, eo26⟩ := Kd.zaC HO_5.out
      subst eo26
      go_wp2_with (first | (go_at_call 167; (with_reducible refine (zaM.calls k1 (fun k_ => some k_ = (.slice Ao26 x5_1.length co26 : Value).ownBlock) _ _ x5_1 t13 _ ?side1 A25.out).mono ?_); (case side1 => exact Kd.R_V (Kd.zel rfl (HO_5.out))); rintro e w27 ⟨v14, rfl, ho0, hb⟩; have n0_ := zaa.mk (Kd.zaS (rc HO_5.out) hb); have n1_ := zaa.mk (Kd.zbU (Kd.zbH (ok' := fun k_ => (w.heap.size ≤ k_)) ho0 (fun k_ hk_ => Or.elim hk_ (fun hs_ => ((HO_5.out).1 k_ hs_.symm)) (fun hn_ => (Nat.le_trans (zad (lc HB.out)) hn_)))) (zad (lc HB.out))); have n2_ := zaa.mk (zab (lc HB.out) hb); clear HO_5; clear HB; have HO_5 := n0_; have HO15 := n1_; have HB := n2_; clear n0_ n1_ n2_; (try clear hb); (try clear hb2); (try clear hk); (try clear hi); (try clear ho0)))
      go_ret
      exact ⟨_, by first | rfl | (simp [zaf, zag] <;> rfl) | (simp [*, zaf, zag] <;> rfl), by (with_reducible repeat (first | apply Kd.zaZ | apply Kd.zbr | apply Kd.zbI)); exact HO15.out, lb⟩
  ·rw [if_neg c4] at H
   exact absurd H (by simp)
 ·rw [if_neg c3] at H
  exact absurd H (by simp)
def za9.l0 : Nat → List Int → Int → List Int → Int → Int → Option (List Int × Int)
 | 0, _, _, _, _, _ => none
 | k + 1, x0, x1, x6, x7, x8 => if x8 ≥ 0 then (if 0 ≤ x8 then (if x8 < (x0.length : Int) then ((zcP.f x7 (rd x0 x8) x1).bind fun bt5 => (if x8 < (x6.length : Int) then (za9.l0 k x0 x1 (x6.set (x8 : Int).toNat bt5.1) bt5.2 (wrap64 (x8 - 1))) else (none))) else (none)) else (none)) else ((zaM.f k x6).bind fun t8 => (some (t8, x7)))
def za9.f (k : Nat) (l0 : List Int) (a1 : Int) : Option (List Int × Int) := if 0 ≤ (l0.length : Int) then (if ((l0.length : Int) : Int).toNat ≤ 70368744177664 then (za9.l0 k l0 a1 (List.replicate ((l0.length : Int) : Int).toNat 0) 0 (wrap64 ((l0.length : Int) - 1))) else (none)) else (none)
theorem za9.zbp : ∀ k, (∀ y0 y1 y2 y3 y4, LeO (za9.l0 k y0 y1 y2 y3 y4) (za9.l0 (k + 1) y0 y1 y2 y3 y4))
 | 0 => fun _ _ _ _ _ r h => by simp [za9.l0] at h
 | k + 1 => by
  have ih0 := za9.zbp k
  ·intro y0 y1 y2 y3 y4
   unfold za9.l0
   repeat' with_reducible first | exact ih0 _ _ _ _ _ | exact zaM.mono _ _ | exact LeO.refl _ | exact LeO.none _ | refine LeO.ite ?_ ?_ | refine LeO.bind ?_ (fun _ => ?_)
theorem za9.mono : ∀ a0 a1 k, LeO (za9.f k a0 a1) (za9.f (k + 1) a0 a1) := by
 intro a0 a1 k
 have ih0 := za9.zbp k
 unfold za9.f
 repeat' with_reducible first | exact ih0 _ _ _ _ _ | exact zaM.mono _ _ | exact LeO.refl _ | exact LeO.none _ | refine LeO.ite ?_ ?_ | refine LeO.bind ?_ (fun _ => ?_)
theorem za9.calls (k : Nat) (A0 : Option Addr) (c0 : Nat) (l0 : List Int) (a1 : Int) (r1 : List Int) (r2 : Int) (w : World) (hr0 : Kd.C (Kd.int .u32) w A0 l0.length l0) (hc0 : l0.length ≤ c0) (h : za9.f k l0 a1 = some (r1, r2)) :
  Calls Tryz.prog 188 #[.slice A0 l0.length c0, .int .u32 a1] w fun e w' => ∃ v0_ : Value, e = .returned (.tuple #[v0_, .int .u32 r2]) ∧ Kd.V (Kd.int .u32) 109 w' w.heap.size (fun k_ => (w.heap.size ≤ k_)) v0_ r1 ∧ Below w.heap.size w w' := by
 have HR0 := zaa.mk hr0
 have HC0 := zaa.mk hc0
 clear hr0 hc0
 have HB := zaa.mk (Below.refl w.heap.size w)
 have H : (if 0 ≤ (l0.length : Int) then (if ((l0.length : Int) : Int).toNat ≤ 70368744177664 then (za9.l0 k l0 a1 (List.replicate ((l0.length : Int) : Int).toNat 0) 0 (wrap64 ((l0.length : Int) - 1))) else (none)) else (none)) = some (r1, r2) := h
 clear h
 by_cases c3 : 0 ≤ (l0.length : Int)
 ·rw [if_pos c3] at H
  have c3b0 := eq_true c3
  have c3b1 : decide (0 ≤ (l0.length : Int)) = true := zDT c3
  clear c3
  by_cases c4 : ((l0.length : Int) : Int).toNat ≤ 70368744177664
  ·rw [if_pos c4] at H
   have c4b0 := eq_true c4
   have c4b1 : decide (((l0.length : Int) : Int).toNat ≤ 70368744177664) = true := zDT c4
   clear c4
   obtain ⟨y1, hy1⟩ : ∃ y_ : List Int, y_ = (List.replicate ((l0.length : Int) : Int).toNat 0) := ⟨_, rfl⟩
   replace H : (za9.l0 k l0 a1 y1 0 (wrap64 ((l0.length : Int) - 1))) = some (r1, r2) := by first | (rw [hy1]; with_reducible exact H) | (have H2_ := (Option.bind_some _ _).symm.trans H; rw [hy1]; with_reducible exact H2_) | (have H2_ := (Option.bind_some _ _).symm.trans H; with_reducible exact H2_) | with_reducible exact H | (rw [hy1]; exact H) | exact H
   have Ny1 := zaa.mk hy1
   clear hy1
   have H' := zaa.mk H
   clear H
   go_enter Tryz.func188, Tryz.ntmps188
   go_wp2_with (first | ((with_reducible refine zaA (N := 11) rfl ?_); refine Kd.zeH (Kd.int .u32) _ 109 rfl (N := 11) rfl 39 _ _ rfl (l0.length : Int) rfl rfl Tryz.underlying39 (.int .u32 0) 4 zcS rfl (by decide) (by omega) 0 (ok := fun _ => True) (okp := fun _ => True) rfl (fun _ hk => hk) trivial (zDO (by first | (with_reducible assumption) | assumption)) (Nat.le_trans (Nat.mul_le_mul_right _ (zDO (by first | (with_reducible assumption) | assumption) : (l0.length : Int).toNat ≤ 70368744177664)) (by omega)) (Below.refl _ _) (Nat.le_refl _) ?_; intro v2 w5 ho6 hb hg_ hnew_; clear hg_ hnew_; (first | rw [← Ny1.out] at ho6 | (simp only [Int.reduceToNat] at ho6; rw [← Ny1.out] at ho6)); have n0_ := zaa.mk (Kd.zaz (Kd.zfS (M := fun k_ => (w.heap.size ≤ k_)) ho6 (zad (lc HB.out)) (fun k_ h_ => h_)) (zad (lc HB.out))); have n1_ := zaa.mk (zab (lc HB.out) hb); clear HB; have HO3 := n0_; have HB := n1_; clear n0_ n1_; clear hb ho6))
   go_loopg [7, 8] k (fun kq v7 v8 w' => ∃ (x6_1 : List Int) (x7_1 : Int) (x8_1 : Int), v7 = .int .u32 x7_1 ∧ v8 = .int .i64 x8_1 ∧ zaa (za9.l0 kq l0 a1 x6_1 x7_1 x8_1 = some (r1, r2)) ∧ zaa (kq ≤ k) ∧ zaa (Kd.R (Kd.int .u32) 109 w' w.heap.size (fun k_ => (w.heap.size ≤ k_)) v2 x6_1) ∧ zaa (Below w.heap.size w w'))
   case atStart => exact ⟨(y1), (0), (wrap64 ((l0.length : Int) - 1)), rs, rs, H', ⟨Nat.le_refl _⟩, ⟨by (with_reducible repeat (first | apply Kd.zaQ | apply Kd.zaR | apply Kd.zbb)); exact Kd.za7 HO3.out (fun _ hk => hk.1)⟩, ⟨lb⟩⟩
   case round =>
    clear H'
    try clear c1
    try clear p2
    try clear c3
    try clear c3b0
    try clear c3b1
    try clear c4
    try clear c4b0
    try clear c4b1
    try clear p6
    obtain ⟨x6_1, x7_1, x8_1, rfl, rfl, HA, HK1, HO_6, HB⟩ := hrel
    cases gk with
    | zero => exact absurd HA.out (by simp [za9.l0])
    | succ k1 =>
     have H := HA.out
     clear HA
     simp only [za9.l0] at H
     by_cases c7 : x8_1 ≥ 0
     ·rw [if_pos c7] at H
      have c7b0 : decide (0 ≤ x8_1) = true := zDT c7
      clear c7
      by_cases c8 : 0 ≤ x8_1
      ·rw [if_pos c8] at H
       have c8b0 : decide (0 ≤ x8_1) = true := zDT c8
       clear c8
       by_cases c9 : x8_1 < (l0.length : Int)
       ·rw [if_pos c9] at H
        have c9b0 : decide (x8_1 < (l0.length : Int)) = true := zDT c9
        clear c9
        replace H := zBE H
        obtain ⟨⟨t5, t6⟩, A100, H⟩ := H
        replace H : (if x8_1 < (x6_1.length : Int) then (za9.l0 k1 l0 a1 (x6_1.set (x8_1 : Int).toNat t5) t6 (wrap64 (x8_1 - 1))) else (none)) = some (r1, r2) := H
        have A10 := zaa.mk A100
        clear A100
        by_cases c11 : x8_1 < (x6_1.length : Int)
        ·rw [if_pos c11] at H
         have c11b0 : decide (x8_1 < (x6_1.length : Int)) = true := zDT c11
         clear c11
         obtain ⟨y7, hy7⟩ : ∃ y_ : List Int, y_ = (x6_1.set (x8_1 : Int).toNat t5) := ⟨_, rfl⟩
         replace H : (za9.l0 k1 l0 a1 y7 t6 (wrap64 (x8_1 - 1))) = some (r1, r2) := by first | (rw [hy7]; with_reducible exact H) | (have H2_ := (Option.bind_some _ _).symm.trans H; rw [hy7]; with_reducible exact H2_) | (have H2_ := (Option.bind_some _ _).symm.trans H; with_reducible exact H2_) | with_reducible exact H | (rw [hy7]; exact H) | exact H
         have Ny7 := zaa.mk hy7
         clear hy7
         have H' := zaa.mk H
         clear H
         have p4 : 0 ≤ (x8_1 : Int) := zDO (by first | (with_reducible assumption) | assumption)
         have q4 : x8_1 < (l0.length : Int) := zDO (by first | (with_reducible assumption) | assumption)
         obtain ⟨ad4, e4, hx4_0⟩ := Kd.zbT HR0.out x8_1 p4 q4
         cases e4
         replace hx4_0 := (HB.out.cell (World.block_lt_of_cell? w _ hx4_0)).trans hx4_0
         replace p4 := eq_true p4
         replace q4 := eq_true q4
         go_wp2_with (first | (go_at_call 201; (with_reducible refine (zcP.calls x7_1 (rd l0 x8_1) a1 t5 t6 _ A10.out).mono ?_); rintro e w13 ⟨rfl, hb⟩; have n0_ := zaa.mk (Kd.zaS (rc HO_6.out) hb); have n1_ := zaa.mk (zab (lc HB.out) hb); clear HO_6; clear HB; have HO_6 := n0_; have HB := n1_; clear n0_ n1_; (try clear hb); (try clear hb2); (try clear hk); (try clear hi); have p12 : 0 ≤ (x8_1 : Int) := zDO (by first | (with_reducible assumption) | assumption); have q12 : (x8_1 : Int) < ((x6_1.length : Int) : Int) := zDO (by first | (with_reducible assumption) | assumption); obtain ⟨go12, co12, eo12, gb12, gl12, cl12, HG12⟩ := Kd.zc4 HO_6.out (by omega); (first | cases eo12 | (injection eo12 with ea_ en_ ec_; (first | subst ea_ | (injection ea_ with ea_; subst ea_)); subst ec_; clear en_)); have GB12 := zaa.mk gb12; have GG12 := zaa.mk HG12; clear gb12 gl12 HG12; obtain ⟨hx12_0, hf12_0⟩ := Kd.zbK 0 HO_6.out (x8_1 : Int) p12 q12; replace p12 := eq_true p12; replace q12 := eq_true q12; obtain ⟨hy14_, hz14_⟩ := Kd.zbK 0 HO_6.out (x8_1 : Int) (zDO (by first | (with_reducible assumption) | assumption)) (zDO (by first | (with_reducible assumption) | assumption)); have HP14 := Kd.zde HO_6.out (x8_1 : Int) t5) | ((with_reducible refine zbX (t := 109) (p := 31) rfl ?_); refine zbQ (t := 109) (p := 31) (v := ?vo_w15) (w1 := (w13.setCell ⟨go12, (x8_1 : Int).toNat, none⟩ (.int .u32 t5))) ?hg ?ho ?hn ?hr ?_; (case ho => rfl); (case hg => rfl); (case hn => rfl); (case hr => first | (go_simp; done) | (go_simp; rfl)); intro w15 hw; have hg : w13.grownBy w15 (some go12) := (by rw [hw]; exact HP14.2); have hp_ : Kd.R (Kd.int .u32) 109 w15 w.heap.size (fun k_ => (w.heap.size ≤ k_)) (.slice (some ⟨go12, 0, none⟩) x6_1.length co12) y7 := (by rw [hw, Ny7.out]; exact HP14.1); clear HP14; have n0_ := zaa.mk (hp_); have n1_ := zaa.mk ((by rw [hw]; exact zbo (HB.out) GB12.out : Below w.heap.size w w15)); clear HO_6; clear HB; have HO_6 := n0_; have HB := n1_; clear n0_ n1_; clear hg hw hp_))
         go_roundg k1
         case measure => have := HK1.out; omega
         case rel => exact ⟨(y7), (t6), (wrap64 (x8_1 - 1)), rs, rs, H', ⟨by have := HK1.out; omega⟩, ⟨by (with_reducible repeat (first | apply Kd.zaQ | apply Kd.zaR | apply Kd.zbb)); exact HO_6.out⟩, ⟨lb⟩⟩
        ·rw [if_neg c11] at H
         exact absurd H (by simp)
       ·rw [if_neg c9] at H
        exact absurd H (by simp)
      ·rw [if_neg c8] at H
       exact absurd H (by simp)
     ·rw [if_neg c7] at H
      have c7b0 : decide (0 ≤ x8_1) = false := zDF c7
      clear c7
      replace H := zBE H
      obtain ⟨t8, A160, H⟩ := H
      replace H : (some (t8, x7_1)) = some (r1, r2) := H
      have A16 := zaa.mk A160
      clear A160
      simp only [Option.some.injEq, Prod.mk.injEq] at H
      obtain ⟨rfl, rfl⟩ := H
      obtain ⟨Ao17, co17, eo17⟩ := Kd.zaC HO_6.out
      subst eo17
      go_wp2_with (first | (go_at_call 167; (with_reducible refine (zaM.calls k1 (fun k_ => some k_ = (.slice Ao17 x6_1.length co17 : Value).ownBlock) _ _ x6_1 t8 _ ?side1 A16.out).mono ?_); (case side1 => exact Kd.R_V (Kd.zel rfl (HO_6.out))); rintro e w18 ⟨v9, rfl, ho0, hb⟩; have n0_ := zaa.mk (Kd.zaS (rc HO_6.out) hb); have n1_ := zaa.mk (Kd.zbU (Kd.zbH (ok' := fun k_ => (w.heap.size ≤ k_)) ho0 (fun k_ hk_ => Or.elim hk_ (fun hs_ => ((HO_6.out).1 k_ hs_.symm)) (fun hn_ => (Nat.le_trans (zad (lc HB.out)) hn_)))) (zad (lc HB.out))); have n2_ := zaa.mk (zab (lc HB.out) hb); clear HO_6; clear HB; have HO_6 := n0_; have HO10 := n1_; have HB := n2_; clear n0_ n1_ n2_; (try clear hb); (try clear hb2); (try clear hk); (try clear hi); (try clear ho0)))
      go_ret2
      exact ⟨_, by first | rfl | (simp [zaf, zag] <;> rfl) | (simp [*, zaf, zag] <;> rfl), by (with_reducible repeat (first | apply Kd.zaZ | apply Kd.zbr | apply Kd.zbI)); exact HO10.out, lb⟩
  ·rw [if_neg c4] at H
   exact absurd H (by simp)
 ·rw [if_neg c3] at H
  exact absurd H (by simp)
end Go.Proofs.YtioofhilohmfbaaGreatDoor.P
end
section
open Go Go.RowKit PrintWords PrintLast PrintMore
namespace Go.Proofs.YtioofhilohmfbaaGreatDoor.P
theorem Ev.at1 {α : Type} {g : Nat → Option α} {r : α} (h : ∀ k, g (k + 1) = some r) : Ev g r := ⟨1, fun k hk => by
 obtain ⟨m, rfl⟩ : ∃ m, k = m + 1 := ⟨k - 1, by omega⟩
 exact h m⟩
theorem zdQ (l : List Int) (i : Nat) : rd l (i : Int) = l.getD i 0 := rfl
theorem zib {l : List Int} {n : Nat} (hl : l.length = n + 1) : Tr l ↔ l.getD n 0 ≠ 0 := by
 unfold Tr
 rw [List.getLast?_eq_getElem?, hl, Nat.add_sub_cancel, List.getD_eq_getElem?_getD, List.getElem?_eq_getElem (show n < l.length by omega)]
 simp
theorem zdG : ∀ (n : Nat) (l : List Int), l.length = n → n ≤ 140737488355328 → U l → Ev (fun k => zaM.f k l) (lim n (lv l))
 | 0, l, hl, _, _ => by
  obtain rfl := List.eq_nil_of_length_eq_zero hl
  exact Ev.at1 (fun k => by simp [zaM.f, zaM.l0, lim])
 | n + 1, l, hl, hb, hU => by
  have e0 : wrap64 ((l.length : Int) - 1) = (n : Int) := by rw [hl]; unfold wrap64; omega
  by_cases hx : l.getD n 0 = 0
  ·have ih := zdG n (l.take n) (by rw [List.length_take]; omega) (by omega) (zcT hU n)
   have hv : lv l = lv (l.take n) := by
    have := zcp l n (by omega)
    rw [hx, List.take_of_length_le (by omega)] at this
    omega
   have h1 := zbD (zcT hU n)
   have h2 := zdP (zcT hU n)
   rw [List.length_take, Nat.min_eq_left (by omega)] at h2
   have h3 := zfT (show n ≤ n + 1 by omega)
   rw [hv, zeC (m := n) h1 (by omega) h2]
   refine Ev.step (fun k => ?_) ih
   simp only [zaM.f, zaM.l0, e0]
   rw [if_pos (by omega), if_pos (by omega), if_pos (by omega), zdQ, if_pos hx, if_pos (by omega)]
   rfl
  ·rw [ziI (n + 1) hU ((zib hl).2 hx) (by omega)]
   refine Ev.at1 (fun k => ?_)
   simp only [zaM.f, zaM.l0, e0]
   rw [if_pos (by omega), if_pos (by omega), if_pos (by omega), zdQ, if_neg hx]
def zgb (a b : Int) : Int := if a < b then -1 else if a = b then 0 else 1
theorem zks (a b : List Int) (n : Nat) (ha : a.length = n) (hb : b.length = n) (hn : n ≤ 140737488355328) (hU : U a) (hV : U b) :
  ∀ d, d ≤ n → Ev (fun k => zaI.l0 k a b (n : Int) ((n - d : Nat) : Int)) (zgb (lv (a.take d)) (lv (b.take d)))
 | 0, _ => by
  refine Ev.at1 (fun k => ?_)
  simp only [zaI.l0]
  rw [if_neg (by omega)]
  rfl
 | d + 1, hd => by
  have ih := zks a b n ha hb hn hU hV d (by omega)
  have e1 : wrap64 ((wrap64 ((n : Int) - 1)) - ((n - (d + 1) : Nat) : Int)) = (d : Int) := by unfold wrap64; omega
  have e2 : wrap64 (((n - (d + 1) : Nat) : Int) + 1) = ((n - d : Nat) : Int) := by unfold wrap64; omega
  have ta := zcp a d (by omega)
  have tb := zcp b d (by omega)
  have la := zdP (zcT hU d)
  have lb := zdP (zcT hV d)
  rw [List.length_take, Nat.min_eq_left (by omega)] at la lb
  have na := zbD (zcT hU d)
  have nb := zbD (zcT hV d)
  have hp := pow_pos d
  by_cases he : a.getD d 0 = b.getD d 0
  ·have : zgb (lv (a.take (d + 1))) (lv (b.take (d + 1))) = zgb (lv (a.take d)) (lv (b.take d)) := by
    unfold zgb
    rw [ta, tb, he]
    by_cases h1 : lv (a.take d) < lv (b.take d)
    ·rw [if_pos h1, if_pos (by omega)]
    ·by_cases h2 : lv (a.take d) = lv (b.take d)
     ·rw [if_neg h1, if_neg (by omega), if_pos h2, if_pos (by omega)]
     ·rw [if_neg h1, if_neg (by omega), if_neg h2, if_neg (by omega)]
   rw [this]
   refine Ev.step (fun k => ?_) ih
   simp only [zaI.l0, ha, hb, e1, e2, zdQ]
   rw [if_pos (by omega), if_pos (by omega), if_pos (by omega), if_pos (by omega), if_pos (by omega), if_pos he]
  ·refine Ev.at1 (fun k => ?_)
   simp only [zaI.l0, ha, hb, e1, e2, zdQ]
   rw [if_pos (by omega), if_pos (by omega), if_pos (by omega), if_pos (by omega), if_pos (by omega), if_neg he]
   by_cases hl : a.getD d 0 < b.getD d 0
   ·rw [if_pos hl]
    have := Int.mul_le_mul_of_nonneg_left (show a.getD d 0 + 1 ≤ b.getD d 0 by omega) (Int.le_of_lt hp)
    rw [Int.mul_add, Int.mul_one] at this
    unfold zgb
    rw [if_pos (by omega)]
   ·rw [if_neg hl]
    have := Int.mul_le_mul_of_nonneg_left (show b.getD d 0 + 1 ≤ a.getD d 0 by omega) (Int.le_of_lt hp)
    rw [Int.mul_add, Int.mul_one] at this
    unfold zgb
    rw [if_neg (by omega), if_neg (by omega)]
theorem zdk (a b : List Int) (ha : a.length ≤ 140737488355328) (hb : b.length ≤ 140737488355328) (hU : U a) (ta : Tr a) (hV : U b) (tb : Tr b) :
  Ev (fun k => zaI.f k a b) (zgb (lv a) (lv b)) := by
 by_cases hl : a.length = b.length
 ·have := zks a b a.length rfl hl.symm ha hU hV a.length (Nat.le_refl _)
  rw [List.take_of_length_le (Nat.le_refl _), List.take_of_length_le (by omega), Nat.sub_self] at this
  refine Ev.congr (fun k => ?_) this
  unfold zaI.f
  rw [if_pos (by omega)]
  rfl
 ·refine Ev.at1 (fun k => ?_)
  unfold zaI.f
  rw [if_neg (by omega)]
  rcases Nat.lt_or_gt_of_ne hl with h | h
  ·have := zgI hU hV tb h
   unfold zgb
   rw [if_pos this]
   congr 1
   unfold mn mx wrap64
   omega
  ·have := zgI hV hU ta h
   unfold zgb
   rw [if_neg (by omega), if_neg (by omega)]
   congr 1
   unfold mn mx wrap64
   omega
theorem zpm (n : Int) (h0 : 0 ≤ n) (h1 : n < 18446744073709551616) : Ev (fun k => zbJ.f k n) (lim 2 n) := by
 have hv : lv [n % 4294967296, n / 4294967296 % 4294967296] = n := by
  rw [lv, lv, lv]; omega
 have := zdG 2 [n % 4294967296, n / 4294967296 % 4294967296] rfl (by decide) (zeK.2 ⟨by omega, zeK.2 ⟨by omega, zpi⟩⟩)
 rw [hv] at this
 exact Ev.bind this (Ev.now _)
theorem zcg (n : Int) (h₀ : 0 ≤ n) (h₁ : n < 18446744073709551616) : IntKind.u64.wrap n = n := by rw [IntKind.wrap_u64]; omega
theorem zcU (l : List Int) (i j : Nat) (x : Int) (h : i < l.length) : (l.set i x).getD j 0 = if j = i then x else l.getD j 0 := by
 rw [List.getD_eq_getElem?_getD, List.getElem?_set, List.getD_eq_getElem?_getD]
 by_cases e : i = j
 ·subst e; rw [if_pos rfl, if_pos h, if_pos rfl]; rfl
 ·rw [if_neg e, if_neg (fun h => e h.symm)]
theorem zdz (n j : Nat) : (List.replicate n (0 : Int)).getD j 0 = 0 := by
 rw [List.getD_eq_getElem?_getD, List.getElem?_replicate]
 split <;> rfl
theorem znB {x y o c : Int} (hx : 0 ≤ x ∧ x < 4294967296) (hy : 0 ≤ y ∧ y < 4294967296) (ho : 0 ≤ o ∧ o < 4294967296) (hc : 0 ≤ c ∧ c < 4294967296) :
  0 ≤ x * y ∧ x * y ≤ 18446744065119617025 ∧ IntKind.u64.wrap (c + IntKind.u64.wrap (IntKind.u64.wrap o + IntKind.u64.wrap (IntKind.u64.wrap x * IntKind.u64.wrap y))) = c + (o + x * y) ∧ 0 ≤ c + (o + x * y) ∧ (c + (o + x * y)) / 4294967296 < 4294967296 := by
 have h1 := Int.mul_nonneg hx.1 hy.1
 have h2 : x * y ≤ 4294967295 * 4294967295 := Int.mul_le_mul (by omega) (by omega) hy.1 (by omega)
 rw [show (4294967295 * 4294967295 : Int) = 18446744065119617025 by decide] at h2
 rw [zcg x (by omega) (by omega), zcg y (by omega) (by omega), zcg o (by omega) (by omega), zcg (x * y) (by omega) (by omega), zcg (o + x * y) (by omega) (by omega), zcg (c + (o + x * y)) (by omega) (by omega)]
 exact ⟨h1, h2, rfl, by omega, by omega⟩
theorem zkt (a b : List Int) (i : Nat) (hU : U a) (hV : U b) (hi : i < a.length) (hab : a.length + b.length ≤ 140737488355328) :
  ∀ d j, j + d = b.length → ∀ (out : List Int) (c : Int), out.length = a.length + b.length → U out → (∀ p, i + b.length ≤ p → out.getD p 0 = 0) → 0 ≤ c ∧ c < 4294967296 →
  ∃ out', out'.length = a.length + b.length ∧ U out' ∧ (∀ p, i + 1 + b.length ≤ p → out'.getD p 0 = 0) ∧ lv out' = lv out + 4294967296 ^ (i + j) * (a.getD i 0 * lv (b.drop j) + c) ∧
   ∀ r, Ev (fun k => zaG.l0 k b out' a (a.length : Int) ((i + 1 : Nat) : Int)) r → Ev (fun k => zaG.l1 k b out (i : Int) (a.getD i 0) c a (a.length : Int) (i : Int) b (b.length : Int) (j : Int)) r
 | 0, j, hj, out, c, hl, hO, hz, hc => by
  have e1 : wrap64 ((i : Int) + (b.length : Int)) = ((i + b.length : Nat) : Int) := by unfold wrap64; omega
  have e2 : wrap64 ((i : Int) + 1) = ((i + 1 : Nat) : Int) := by unfold wrap64; omega
  have e3 : c % 4294967296 = c := by omega
  refine ⟨out.set (i + b.length) c, by rw [List.length_set]; exact hl, zhb hO _ _ hc.1 hc.2, fun p hp => ?_, ?_, fun r hr => ?_⟩
  ·rw [zcU _ _ _ _ (by omega), if_neg (by omega)]
   exact hz p (by omega)
  ·rw [zeL _ _ _ (by omega), hz _ (Nat.le_refl _), List.drop_of_length_le (by omega), lv, Int.mul_zero, Int.zero_add, Int.sub_zero, show i + j = i + b.length by omega]
  ·refine Ev.step (fun k => ?_) hr
   simp only [zaG.l1, e1, e2, e3]
   rw [if_neg (by omega), if_pos (by omega), if_pos (by omega), Int.toNat_natCast]
 | d + 1, j, hj, out, c, hl, hO, hz, hc => by
  have e1 : wrap64 ((i : Int) + (j : Int)) = ((i + j : Nat) : Int) := by unfold wrap64; omega
  have e2 : wrap64 ((j : Int) + 1) = ((j + 1 : Nat) : Int) := by unfold wrap64; omega
  obtain ⟨m1, m2, m3, m4, m5⟩ := znB (zda hU i) (zda hV j) (zda hO (i + j)) hc
  obtain ⟨t, ht⟩ : ∃ t, c + (out.getD (i + j) 0 + a.getD i 0 * b.getD j 0) = t := ⟨_, rfl⟩
  rw [ht] at m3 m4 m5
  have M3 := zaa.mk m3
  clear m1 m2 m3
  obtain ⟨out', g1, g2, g3, g4, g5⟩ := zkt a b i hU hV hi hab d (j + 1) (by omega) (out.set (i + j) (t % 4294967296)) (t / 4294967296) (by rw [List.length_set]; exact hl) (zhb hO _ _ (by omega) (by omega))
   (fun p hp => by rw [zcU _ _ _ _ (by omega), if_neg (by omega)]; exact hz p hp) ⟨by omega, m5⟩
  refine ⟨out', g1, g2, g3, ?_, fun r hr => ?_⟩
  ·rw [g4, zeL _ _ _ (by omega), zdy b j (by omega), show i + (j + 1) = i + j + 1 by omega, Int.pow_succ]
   have hq : 4294967296 * (t / 4294967296) + t % 4294967296 = t := Int.mul_ediv_add_emod t 4294967296
   clear M3 g5 g4 g3 g2 g1 hz e1 e2 m4 m5
   generalize ((4294967296 : Int) ^ (i + j)) = p at *
   generalize lv (b.drop (j + 1)) = v at *
   generalize a.getD i 0 = x at *
   generalize b.getD j 0 = y at *
   generalize out.getD (i + j) 0 = o at *
   generalize t / 4294967296 = q at *
   generalize t % 4294967296 = m at *
   rw [Int.add_assoc, show p * (m - o) + p * 4294967296 * (x * v + q) = p * ((m - o) + 4294967296 * (x * v + q)) by rw [Int.mul_assoc, ← Int.mul_add]]
   congr 2
   rw [Int.mul_add, Int.mul_add, Int.mul_left_comm]
   omega
  ·refine Ev.step (fun k => ?_) (g5 r hr)
   simp only [zaG.l1, e1, e2, zdQ, M3.out]
   rw [if_pos (by omega), if_pos (by omega), if_pos (by omega), if_pos (by omega), if_pos (by omega), Int.toNat_natCast]
theorem ziJ (a b : List Int) (hU : U a) (hV : U b) (hab : a.length + b.length ≤ 140737488355328) :
  ∀ d i, i + d = a.length → ∀ (out : List Int), out.length = a.length + b.length → U out → (∀ p, i + b.length ≤ p → out.getD p 0 = 0) →
   Ev (fun k => zaG.l0 k b out a (a.length : Int) (i : Int)) (lim (a.length + b.length) (lv out + 4294967296 ^ i * (lv (a.drop i) * lv b)))
 | 0, i, hi, out, hl, hO, hz => by
  have := zdG _ out hl hab hO
  rw [List.drop_of_length_le (by omega), lv, Int.zero_mul, Int.mul_zero, Int.add_zero]
  refine Ev.step (f := fun k => (zaM.f k out).bind fun t4 => some t4) (fun k => ?_) (Ev.bind this (Ev.now _))
  simp only [zaG.l0]
  rw [if_neg (by omega)]
 | d + 1, i, hi, out, hl, hO, hz => by
  obtain ⟨out', g1, g2, g3, g4, g5⟩ := zkt a b i hU hV (by omega) hab b.length 0 (by omega) out 0 hl hO hz ⟨by decide, by decide⟩
  have ih := ziJ a b hU hV hab d (i + 1) (by omega) out' g1 g2 g3
  have e : lv out' + 4294967296 ^ (i + 1) * (lv (a.drop (i + 1)) * lv b) = lv out + 4294967296 ^ i * (lv (a.drop i) * lv b) := by
   rw [g4, zdy a i (by omega), Int.pow_succ, List.drop_zero, Int.add_zero, Nat.add_zero, Int.add_mul, Int.mul_add (4294967296 ^ i), Int.mul_assoc (4294967296 ^ i), Int.mul_assoc 4294967296]
   omega
  rw [e] at ih
  refine Ev.step (fun k => ?_) (g5 _ ih)
  simp only [zaG.l0, zdQ]
  rw [if_pos (by omega), if_pos (by omega), if_pos (by omega)]
  rfl
theorem zku (a b : List Int) (hU : U a) (hV : U b) (hab : a.length + b.length ≤ 70368744177664) : Ev (fun k => zaG.f k a b) (lim (a.length + b.length) (lv a * lv b)) := by
 have e : wrap64 ((a.length : Int) + (b.length : Int)) = ((a.length + b.length : Nat) : Int) := by unfold wrap64; omega
 have := ziJ a b hU hV (by omega) a.length 0 (by omega) (List.replicate (a.length + b.length) 0) (by simp) (ziH _) (fun p _ => zdz _ _)
 rw [zfd, Int.zero_add, List.drop_zero, Int.pow_zero, Int.one_mul] at this
 refine Ev.congr (fun k => ?_) this
 unfold zaG.f
 rw [e, if_pos (by omega), if_pos (by omega), Int.toNat_natCast]
 rfl
theorem zcY (l : List Int) (i : Nat) : lv (l.drop i) = l.getD i 0 + 4294967296 * lv (l.drop (i + 1)) := by
 by_cases h : i < l.length
 ·exact zdy l i h
 ·rw [List.drop_of_length_le (by omega), List.drop_of_length_le (by omega), List.getD_eq_getElem?_getD, List.getElem?_eq_none (by omega)]
  rfl
theorem zqi (o a s : Nat) (hs : s < 32) (ho : o < 2 ^ s) (ha : a < 4294967296) :
  Go.bits .or .u32 (o : Int) (((a : Int) * 2 ^ s) % 4294967296) = (o : Int) + ((a : Int) * 2 ^ s) % 4294967296 ∧ (o : Int) + ((a : Int) * 2 ^ s) % 4294967296 < 4294967296 := by
 have e32 : (2 : Nat) ^ s * 2 ^ (32 - s) = 4294967296 := by
  rw [← Nat.pow_add, show s + (32 - s) = 32 by omega]
 have em : (a * 2 ^ s) % 4294967296 = 2 ^ s * (a % 2 ^ (32 - s)) := by
  rw [← e32, Nat.mul_comm a, Nat.mul_mod_mul_left]
 have hm : a % 2 ^ (32 - s) < 2 ^ (32 - s) := Nat.mod_lt _ (Nat.two_pow_pos _)
 have hle : 2 ^ s * (a % 2 ^ (32 - s)) + 2 ^ s ≤ 4294967296 := by
  rw [← e32, ← Nat.mul_succ]
  exact Nat.mul_le_mul_left _ hm
 have ec : ((a : Int) * 2 ^ s) % 4294967296 = ((2 ^ s * (a % 2 ^ (32 - s)) : Nat) : Int) := by
  rw [← em]; simp
 have hor : o ||| 2 ^ s * (a % 2 ^ (32 - s)) = o + 2 ^ s * (a % 2 ^ (32 - s)) := by
  rw [Nat.or_comm, ← Nat.two_pow_add_eq_or_of_lt ho, Nat.add_comm]
 rw [ec]
 generalize 2 ^ s * (a % 2 ^ (32 - s)) = lo at *
 refine ⟨?_, by omega⟩
 rw [zra o lo (by omega) (by omega), hor]
 omega
theorem zpn (o a : Int) (s : Nat) (hs : s < 32) (ho : 0 ≤ o ∧ o < 2 ^ s) (ha : 0 ≤ a ∧ a < 4294967296) :
  Go.bits .or .u32 o ((a * 2 ^ s) % 4294967296) = o + (a * 2 ^ s) % 4294967296 ∧ o + (a * 2 ^ s) % 4294967296 < 4294967296 := by
 obtain ⟨o, rfl⟩ := Int.eq_ofNat_of_zero_le ho.1
 obtain ⟨a, rfl⟩ := Int.eq_ofNat_of_zero_le ha.1
 exact zqi o a s hs (by have := ho.2; exact Int.ofNat_lt.1 (by simpa using this)) (by omega)
theorem zeD (s : Nat) (hs : s < 32) : (1 : Int) ≤ 2 ^ s ∧ (2 : Int) ^ s ≤ 2147483648 := by
 have h1 : 2 ^ s ≤ 2 ^ 31 := Nat.pow_le_pow_right (by decide) (by omega)
 have h2 : 0 < 2 ^ s := Nat.two_pow_pos s
 have e : (2 : Int) ^ s = ((2 ^ s : Nat) : Int) := by simp
 rw [e]
 have : (2 : Nat) ^ 31 = 2147483648 := by decide
 omega
theorem zqj (x : Int) (s : Nat) (hs : s < 32) (hx : 0 ≤ x ∧ x < 4294967296) : shl .u64 (IntKind.u64.wrap x) (s : Int) = x * 2 ^ s ∧ 0 ≤ x * 2 ^ s ∧ (x * 2 ^ s) / 4294967296 < 2 ^ s := by
 have hp := zeD s hs
 have h1 : x * 2 ^ s ≤ 4294967295 * 2 ^ s := Int.mul_le_mul_of_nonneg_right (by omega) (by omega)
 have h0 : 0 ≤ x * 2 ^ s := Int.mul_nonneg hx.1 (by omega)
 refine ⟨?_, h0, by omega⟩
 unfold shl
 rw [zcg x (by omega) (by omega), Int.toNat_natCast, Nat.min_eq_left (show s ≤ IntKind.u64.bits by show s ≤ 64; omega), zcg _ h0 (by omega)]
theorem zfU (a : List Int) (s : Nat) (hs : s < 32) (hU : U a) (hn : a.length ≤ 140737488355328) :
  ∀ d i, i + d = a.length → ∀ out : List Int, out.length = a.length + 1 → U out → out.getD i 0 < 2 ^ s → (∀ p, i < p → out.getD p 0 = 0) →
   ∃ r, Ev (fun k => zaX.l0 k (s : Int) out a (a.length : Int) (i : Int)) r ∧ r.length = a.length + 1 ∧ U r ∧ lv r = lv out + 4294967296 ^ i * (2 ^ s * lv (a.drop i))
 | 0, i, hi, out, hl, hO, hc, hz => by
  refine ⟨out, Ev.at1 (fun k => ?_), hl, hO, ?_⟩
  ·simp only [zaX.l0]
   rw [if_neg (by omega)]
  ·rw [List.drop_of_length_le (by omega), lv, Int.mul_zero, Int.mul_zero, Int.add_zero]
 | d + 1, i, hi, out, hl, hO, hc, hz => by
  have e2 : wrap64 ((i : Int) + 1) = ((i + 1 : Nat) : Int) := by unfold wrap64; omega
  obtain ⟨s1, s2, s3⟩ := zqj (a.getD i 0) s hs (zda hU i)
  obtain ⟨o1, o2⟩ := zpn (out.getD i 0) (a.getD i 0) s hs ⟨(zda hO i).1, hc⟩ (zda hU i)
  have hp := zeD s hs
  obtain ⟨x, hx⟩ : ∃ x, a.getD i 0 * 2 ^ s = x := ⟨_, rfl⟩
  rw [hx] at s1 s2 s3 o1 o2
  have oi := zda hO i
  obtain ⟨r, r1, r2, r3, r4⟩ := zfU a s hs hU hn d (i + 1) (by omega) ((out.set i (out.getD i 0 + x % 4294967296)).set (i + 1) (x / 4294967296 % 4294967296)) (by simp [hl])
   (zhb (zhb hO _ _ (by omega) o2) _ _ (by omega) (by omega)) (by rw [zcU _ _ _ _ (by simp; omega), if_pos rfl]; omega)
   (fun p hp => by rw [zcU _ _ _ _ (by simp; omega), if_neg (by omega), zcU _ _ _ _ (by omega), if_neg (by omega)]; exact hz p (by omega))
  refine ⟨r, Ev.step (fun k => ?_) r1, r2, r3, ?_⟩
  ·have S1 := zaa.mk s1
   have O1 := zaa.mk o1
   have E2 := zaa.mk e2
   clear s1 s2 s3 o1 o2 r4 e2 hx
   simp only [zaX.l0, E2.out, zdQ, S1.out, O1.out, Int.toNat_natCast]
   rw [if_pos (by omega), if_pos (by omega), if_pos (by omega), if_pos (by omega), if_pos (by omega), if_pos (by omega), if_pos (by omega)]
  ·rw [r4, zeL _ _ _ (by simp; omega), zeL _ _ _ (by omega), zcU _ _ _ _ (by omega), if_neg (by omega), hz (i + 1) (by omega), zdy a i (by omega), Int.pow_succ]
   have hq : x = 4294967296 * (x / 4294967296) + x % 4294967296 := (Int.mul_ediv_add_emod x 4294967296).symm
   have hx' : x / 4294967296 % 4294967296 = x / 4294967296 := by omega
   rw [hx', Int.sub_zero, show out.getD i 0 + x % 4294967296 - out.getD i 0 = x % 4294967296 by omega]
   generalize lv (a.drop (i + 1)) = v at *
   generalize ((4294967296 : Int) ^ i) = p at *
   have h3 : 2 ^ s * (a.getD i 0 + 4294967296 * v) = x % 4294967296 + 4294967296 * (x / 4294967296) + 4294967296 * (2 ^ s * v) := by
    rw [Int.mul_add, Int.mul_comm (2 ^ s) (a.getD i 0), hx, Int.mul_left_comm (2 ^ s)]
    omega
   rw [h3, Int.mul_assoc p, Int.mul_assoc p, Int.mul_add, Int.mul_add]
   omega
theorem zhv (a : List Int) (s : Nat) (hs : s < 32) (hU : U a) (hn : a.length < 70368744177664) :
  ∃ r, Ev (fun k => zaX.f k a (s : Int)) r ∧ r.length = a.length + 1 ∧ U r ∧ lv r = lv a * 2 ^ s := by
 have e : wrap64 ((a.length : Int) + 1) = ((a.length + 1 : Nat) : Int) := by unfold wrap64; omega
 have hp := zeD s hs
 obtain ⟨r, r1, r2, r3, r4⟩ := zfU a s hs hU (by omega) a.length 0 (by omega) (List.replicate (a.length + 1) 0) (by simp) (ziH _) (by rw [zdz]; omega) (fun p _ => zdz _ _)
 refine ⟨r, Ev.congr (fun k => ?_) r1, r2, r3, ?_⟩
 ·unfold zaX.f
  rw [e, if_pos (by omega), if_pos (by omega), Int.toNat_natCast]
  rfl
 ·rw [r4, zfd, Int.pow_zero, Int.one_mul, List.drop_zero, Int.zero_add, Int.mul_comm]
theorem zhw (a b : List Int) (hU : U a) (hV : U b) (hba : b.length ≤ a.length) (hn : a.length ≤ 140737488355328) :
  ∀ d i, i + d = a.length → ∀ (out : List Int) (c : Int), out.length = a.length → U out → (∀ p, i ≤ p → out.getD p 0 = 0) → 0 ≤ c ∧ c ≤ 1 →
   ∃ out' f, out'.length = a.length ∧ U out' ∧ 0 ≤ f ∧ f ≤ 1 ∧ lv out' = lv out + 4294967296 ^ i * (lv (a.drop i) - lv (b.drop i) - c) + 4294967296 ^ a.length * f ∧
    Ev (fun k => za0.l0 k a b out c (a.length : Int) (i : Int)) (lim a.length (lv out'))
 | 0, i, hi, out, c, hl, hO, hz, hc => by
  refine ⟨out, c, hl, hO, hc.1, hc.2, ?_, ?_⟩
  ·rw [List.drop_of_length_le (by omega), List.drop_of_length_le (by omega), lv, show i = a.length by omega, Int.sub_zero, Int.zero_sub, Int.mul_neg]
   omega
  ·have := zdG _ out hl hn hO
   refine Ev.step (f := fun k => (zaM.f k out).bind fun t4 => some t4) (fun k => ?_) (Ev.bind this (Ev.now _))
   simp only [za0.l0]
   rw [if_neg (by omega)]
 | d + 1, i, hi, out, c, hl, hO, hz, hc => by
  have e2 : wrap64 ((i : Int) + 1) = ((i + 1 : Nat) : Int) := by unfold wrap64; omega
  have ai := zda hU i
  have bi := zda hV i
  have hs : zcE.f (a.getD i 0) (b.getD i 0) c = some ((a.getD i 0 - b.getD i 0 - c) % 4294967296, if a.getD i 0 < b.getD i 0 + c then 1 else 0) := by
   unfold zcE.f
   rw [if_pos (by omega)]
  obtain ⟨x, hx⟩ : ∃ x, (a.getD i 0 - b.getD i 0 - c) % 4294967296 = x := ⟨_, rfl⟩
  obtain ⟨f, hf⟩ : ∃ f : Int, (if a.getD i 0 < b.getD i 0 + c then 1 else 0) = f := ⟨_, rfl⟩
  have hxf : a.getD i 0 - b.getD i 0 - c = x - 4294967296 * f ∧ 0 ≤ f ∧ f ≤ 1 := by
   rw [← hf, ← hx]
   split <;> omega
  rw [hx, hf] at hs
  obtain ⟨out', g, g1, g2, g3, g4, g5, g6⟩ := zhw a b hU hV hba hn d (i + 1) (by omega) (out.set i x) f (by simp [hl]) (zhb hO _ _ (by omega) (by omega))
   (fun p hp => by rw [zcU _ _ _ _ (by omega), if_neg (by omega)]; exact hz p (by omega)) hxf.2
  refine ⟨out', g, g1, g2, g3, g4, ?_, Ev.step (fun k => ?_) g6⟩
  ·rw [g5, zeL _ _ _ (by omega), hz i (Nat.le_refl _), zcY a i, zcY b i, Int.pow_succ]
   clear g6 g5 hs hf hx
   generalize ((4294967296 : Int) ^ i) = p at *
   generalize ((4294967296 : Int) ^ a.length) * g = q at *
   generalize lv (a.drop (i + 1)) = u at *
   generalize lv (b.drop (i + 1)) = v at *
   generalize a.getD i 0 = s at *
   generalize b.getD i 0 = t at *
   rw [show s + 4294967296 * u - (t + 4294967296 * v) - c = x + 4294967296 * (u - v - f) by omega, Int.sub_zero, Int.mul_assoc, Int.mul_add]
   omega
  ·have HS := zaa.mk hs
   clear hs g5 g6 hx hf
   simp only [za0.l0, zdQ, e2, Int.toNat_natCast]
   by_cases hb : i < b.length
   ·rw [if_pos (by omega), if_pos (by omega), if_pos (by omega), if_pos (by omega), HS.out]
    simp only [Option.bind_some]
    rw [if_pos (by omega)]
   ·have hz : b.getD i 0 = 0 := by rw [List.getD_eq_getElem?_getD, List.getElem?_eq_none (by omega)]; rfl
    have hs := HS.out
    rw [hz] at hs
    rw [if_pos (by omega), if_neg (by omega), if_pos (by omega), if_pos (by omega), hs]
    simp only [Option.bind_some]
    rw [if_pos (by omega)]
theorem zkv (a b : List Int) (hU : U a) (hV : U b) (hba : b.length ≤ a.length) (hn : a.length ≤ 70368744177664) (hle : lv b ≤ lv a) : Ev (fun k => za0.f k a b) (lim a.length (lv a - lv b)) := by
 obtain ⟨out', f, g1, g2, g3, g4, g5, g6⟩ := zhw a b hU hV hba (by omega) a.length 0 (by omega) (List.replicate a.length 0) 0 (by simp) (ziH _) (fun p _ => zdz _ _) ⟨by decide, by decide⟩
 rw [zfd, List.drop_zero, List.drop_zero, Int.pow_zero, Int.one_mul, Int.sub_zero, Int.zero_add] at g5
 have h1 := zdP g2
 rw [g1] at h1
 have hf : f = 0 := by
  rcases (show f = 0 ∨ f = 1 by omega) with h | h
  ·exact h
  ·rw [h] at g5; omega
 rw [hf, Int.mul_zero, Int.add_zero] at g5
 rw [← g5]
 refine Ev.congr (fun k => ?_) g6
 unfold za0.f
 rw [if_pos (by omega), if_pos (by omega), Int.toNat_natCast]
 rfl
theorem zhx (a : List Int) (y : Int) (hy : 0 < y) (hy1 : y < 4294967296) (hU : U a) (hn : a.length ≤ 140737488355328) :
  ∀ j, j ≤ a.length → ∀ (out : List Int) (c : Int), out.length = a.length → U out → (∀ p, p < j → out.getD p 0 = 0) → 0 ≤ c ∧ c < y →
   ∃ out', out'.length = a.length ∧ U out' ∧ lv out' = lv out + (4294967296 ^ j * c + lv (a.take j)) / y ∧
    Ev (fun k => za9.l0 k a y out c ((j : Int) - 1)) (lim a.length (lv out'), (4294967296 ^ j * c + lv (a.take j)) % y)
 | 0, _, out, c, hl, hO, hz, hc => by
  rw [Int.pow_zero, Int.one_mul, List.take_zero, lv, Int.add_zero, Int.ediv_eq_zero_of_lt hc.1 hc.2, Int.add_zero, Int.emod_eq_of_lt hc.1 hc.2]
  refine ⟨out, hl, hO, rfl, ?_⟩
  have := zdG _ out hl hn hO
  refine Ev.step (f := fun k => (zaM.f k out).bind fun t8 => some (t8, c)) (fun k => ?_) (Ev.bind this (Ev.now _))
  simp only [za9.l0]
  rw [if_neg (by omega)]
 | j + 1, hj, out, c, hl, hO, hz, hc => by
  have e1 : (((j + 1 : Nat) : Int) - 1) = (j : Int) := by omega
  have e2 : wrap64 ((j : Int) - 1) = (j : Int) - 1 := by unfold wrap64; omega
  have aj := zda hU j
  obtain ⟨cur, hcur⟩ : ∃ t, c * 4294967296 + a.getD j 0 = t := ⟨_, rfl⟩
  have hd : zcP.f c (a.getD j 0) y = some (cur / y, cur % y) := by
   unfold zcP.f
   rw [if_pos (by omega), hcur]
  have hq : cur / y < 4294967296 := by
   have h1 : (c + 1) * 4294967296 ≤ y * 4294967296 := Int.mul_le_mul_of_nonneg_right (by omega) (by omega)
   exact Int.ediv_lt_of_lt_mul hy (by rw [Int.mul_comm]; omega)
  have hq0 : 0 ≤ cur / y := Int.ediv_nonneg (by omega) (by omega)
  have hr0 := Int.emod_nonneg cur (show y ≠ 0 by omega)
  have hr1 := Int.emod_lt_of_pos cur hy
  have hqr := Int.mul_ediv_add_emod cur y
  obtain ⟨out', g1, g2, g3, g4⟩ := zhx a y hy hy1 hU hn j (by omega) (out.set j (cur / y)) (cur % y) (by simp [hl]) (zhb hO _ _ hq0 hq)
   (fun p hp => by rw [zcU _ _ _ _ (by omega), if_neg (by omega)]; exact hz p (by omega)) ⟨hr0, hr1⟩
  have key : 4294967296 ^ (j + 1) * c + lv (a.take (j + 1)) = (4294967296 ^ j * (cur % y) + lv (a.take j)) + y * (4294967296 ^ j * (cur / y)) := by
   rw [zcp a j (by omega), Int.pow_succ]
   generalize ((4294967296 : Int) ^ j) = p at *
   have h2 : p * cur = p * (y * (cur / y) + cur % y) := by rw [hqr]
   rw [← hcur, Int.mul_add, Int.mul_add, hcur] at h2
   rw [Int.mul_left_comm y, Int.mul_assoc, Int.mul_comm 4294967296 c]
   omega
  rw [key, Int.add_mul_ediv_left _ _ (by omega), Int.add_mul_emod_self_left]
  refine ⟨out', g1, g2, ?_, Ev.step (fun k => ?_) g4⟩
  ·rw [g3, zeL _ _ _ (by omega), hz j (by omega), Int.sub_zero]
   omega
  ·have HD := zaa.mk hd
   clear hd key g3 g4 hqr
   simp only [za9.l0, e1, e2, zdQ, Int.toNat_natCast]
   rw [if_pos (by omega), if_pos (by omega), if_pos (by omega), HD.out]
   simp only [Option.bind_some]
   rw [if_pos (by omega)]
theorem znC (a : List Int) (y : Int) (hy : 0 < y) (hy1 : y < 4294967296) (hU : U a) (hn : a.length ≤ 70368744177664) :
  Ev (fun k => za9.f k a y) (lim a.length (lv a / y), lv a % y) := by
 obtain ⟨out', g1, g2, g3, g4⟩ := zhx a y hy hy1 hU (by omega) a.length (Nat.le_refl _) (List.replicate a.length 0) 0 (by simp) (ziH _) (fun p _ => zdz _ _) ⟨by decide, hy⟩
 rw [Int.mul_zero, Int.zero_add, List.take_of_length_le (Nat.le_refl _)] at g4
 rw [zfd, Int.mul_zero, Int.zero_add, Int.zero_add, List.take_of_length_le (Nat.le_refl _)] at g3
 rw [g3] at g4
 refine Ev.congr (fun k => ?_) g4
 have e : wrap64 ((a.length : Int) - 1) = (a.length : Int) - 1 := by unfold wrap64; omega
 unfold za9.f
 rw [e, if_pos (by omega), if_pos (by omega), Int.toNat_natCast]
def zhy (x : Int) : Nat := 32 - Lib.bitLen x.toNat
theorem zqk (x : Int) (h0 : 0 < x) (h1 : x < 4294967296) : zhy x < 32 ∧ Lib.bitLen x.toNat ≤ 32 ∧ x * 2 ^ zhy x < 4294967296 ∧ (x + 1) * 2 ^ zhy x ≤ 4294967296 := by
 have e64 : (2 : Nat) ^ 64 = 18446744073709551616 := by decide
 have e32 : (2 : Nat) ^ 32 = 4294967296 := by decide
 have hb := Lib.bitLenAux_bounds 64 x.toNat (by omega) (by omega)
 have hl : Lib.bitLen x.toNat ≤ 32 := Lib.bitLen_le x.toNat 32 (by decide) (by omega)
 have h1 : 1 ≤ Lib.bitLen x.toNat := hb.1
 have h2 : x.toNat < 2 ^ Lib.bitLen x.toNat := hb.2.2
 have hu : Lib.bitLen x.toNat + zhy x = 32 := by unfold zhy; omega
 have hp : 0 < 2 ^ zhy x := Nat.two_pow_pos _
 have h3 : (x.toNat + 1) * 2 ^ zhy x ≤ 4294967296 := by
  have : (x.toNat + 1) * 2 ^ zhy x ≤ 2 ^ Lib.bitLen x.toNat * 2 ^ zhy x := Nat.mul_le_mul_right _ h2
  rw [← Nat.pow_add, hu] at this
  exact this
 have e : (x + 1) * 2 ^ zhy x ≤ 4294967296 := by
  have h4 : ((x.toNat + 1) * 2 ^ zhy x : Nat) ≤ (4294967296 : Int) := by omega
  rw [Int.natCast_mul] at h4
  simp only [Int.natCast_pow, Int.natCast_add] at h4
  rw [Int.toNat_of_nonneg (by omega)] at h4
  exact h4
 have hp' : (0 : Int) < 2 ^ zhy x := Int.pow_pos (by decide)
 refine ⟨by omega, hl, ?_, e⟩
 rw [Int.add_mul, Int.one_mul] at e
 omega
theorem znD {n k : Nat} {v : Int} (h0 : 4294967296 ^ (n - 1) ≤ v) (h1 : v < 4294967296 ^ n) (hn : 0 < n) (hk : n ≤ k) : (lim k v).length = n ∧ lv (lim k v) = v ∧ Tr (lim k v) ∧ U (lim k v) := by
 have hp := pow_pos (n - 1)
 have h2 : v < 4294967296 ^ k := Int.lt_of_lt_of_le h1 (zfT hk)
 have hv := zeM k v (by omega) h2
 refine ⟨?_, hv, zgH k v (by omega) h2, zhc k v⟩
 have h3 := zfC (by omega) h2 h1
 have h4 := zdP (zhc k v)
 rw [hv] at h4
 rcases Nat.lt_or_ge (lim k v).length n with h | h
 ·have := zfT (show (lim k v).length ≤ n - 1 by omega)
  omega
 ·omega
theorem zlb (b : List Int) (hU : U b) (ht : Tr b) (n : Nat) (hn : b.length = n + 1) :
  0 < b.getD n 0 ∧ 4294967296 ^ n ≤ lv b * 2 ^ zhy (b.getD n 0) ∧ lv b * 2 ^ zhy (b.getD n 0) < 4294967296 ^ (n + 1) := by
 have hx := zda hU n
 have hx0 : 0 < b.getD n 0 := by
  have := (zib hn).1 ht
  omega
 have hup := zqk (b.getD n 0) hx0 hx.2
 have hp' : (0 : Int) < 2 ^ zhy (b.getD n 0) := Int.pow_pos (by decide)
 have hl := zeB hU ht (fun e => by rw [e] at hn; simp at hn)
 rw [hn, Nat.add_sub_cancel] at hl
 have ht := zcp b n (by omega)
 rw [List.take_of_length_le (by omega)] at ht
 have h1 := zdP (zcT hU n)
 rw [List.length_take, Nat.min_eq_left (by omega)] at h1
 have h2 := zbD (zcT hU n)
 have h3 := pow_pos n
 refine ⟨hx0, ?_, ?_⟩
 ·have := Int.mul_le_mul_of_nonneg_left (show (1 : Int) ≤ 2 ^ zhy (b.getD n 0) by omega) (show 0 ≤ lv b by omega)
  rw [Int.mul_one] at this
  omega
 ·have h4 : lv b + 1 ≤ 4294967296 ^ n * (b.getD n 0 + 1) := by rw [Int.mul_add]; omega
  have h5 := Int.mul_le_mul_of_nonneg_right h4 (Int.le_of_lt hp')
  rw [Int.mul_assoc, Int.add_mul, Int.one_mul] at h5
  have h6 := Int.mul_le_mul_of_nonneg_left hup.2.2.2 (Int.le_of_lt h3)
  rw [Int.pow_succ]
  omega
structure ziK (N y : Int) (m n t : Nat) (L Q : List Int) : Prop where
 lL : L.length = m + 1
 uL : U L
 lQ : Q.length = m - n + 1
 uQ : U Q
 zero : ∀ p, p < t → Q.getD p 0 = 0
 val : lv L + y * lv Q = N
 lt : lv L < y * 4294967296 ^ t
theorem zhz {N y : Int} {m n t : Nat} {L Q : List Int} (h : ziK N y m n (t + 1) L Q) (hy : y < 4294967296 ^ n) (hy0 : 0 < y) (ht : t + n ≤ m) :
  ((L.take (t + n + 1)).drop t).length = n + 1 ∧ U ((L.take (t + n + 1)).drop t) ∧ lv L = lv (L.take t) + 4294967296 ^ t * lv ((L.take (t + n + 1)).drop t) ∧ lv ((L.take (t + n + 1)).drop t) < y * 4294967296 ∧ (∀ p, t + n + 1 ≤ p → L.getD p 0 = 0) ∧ lv (L.drop (t + n + 1)) = 0 := by
 have hl : ((L.take (t + n + 1)).drop t).length = n + 1 := by rw [List.length_drop, List.length_take, h.lL]; omega
 have hu : U ((L.take (t + n + 1)).drop t) := zht (zcT h.uL _) _
 have e1 := zen L (t + n + 1) (by rw [h.lL]; omega)
 have e2 := zen (L.take (t + n + 1)) t (by rw [List.length_take, h.lL]; omega)
 rw [List.take_take, Nat.min_eq_left (by omega)] at e2
 have n1 := zbD (zht h.uL (t + n + 1))
 have n2 := zbD (zcT h.uL t)
 have n3 := zbD hu
 have n4 := zbD (zcT h.uL (t + n + 1))
 have hlt := h.lt
 have hp := pow_pos (t + n + 1)
 have hpt := pow_pos t
 have hb : y * 4294967296 ^ (t + 1) < 4294967296 ^ (t + n + 1) := by
  have := Int.mul_lt_mul_of_pos_right hy (pow_pos (t + 1))
  rw [← Int.pow_add] at this
  rwa [show t + n + 1 = n + (t + 1) by omega]
 have hz : lv (L.drop (t + n + 1)) = 0 := by
  rcases Int.lt_or_le 0 (lv (L.drop (t + n + 1))) with h0 | h0
  ·have := Int.mul_le_mul_of_nonneg_left (show (1 : Int) ≤ lv (L.drop (t + n + 1)) by omega) (Int.le_of_lt hp)
   rw [Int.mul_one] at this
   omega
  ·omega
 rw [hz, Int.mul_zero, Int.add_zero, e2] at e1
 refine ⟨hl, hu, e1, ?_, fun p hp => ?_, hz⟩
 ·rcases Int.lt_or_le (lv ((L.take (t + n + 1)).drop t)) (y * 4294967296) with h0 | h0
  ·exact h0
  ·have := Int.mul_le_mul_of_nonneg_left h0 (Int.le_of_lt hpt)
   rw [Int.pow_succ, Int.mul_left_comm y] at hlt
   omega
 ·have : ∀ (l : List Int), U l → lv l = 0 → ∀ j, l.getD j 0 = 0 := by
   intro l
   induction l with
   | nil => intro _ _ j; rfl
   | cons x l ih =>
    intro hU hv j
    have h1 := zeK.1 hU
    have h2 := zbD h1.2
    rw [lv] at hv
    cases j with
    | zero => simp; omega
    | succ j => rw [List.getD_cons_succ]; exact ih h1.2 (by omega) j
  have h5 := this _ (zht h.uL (t + n + 1)) hz (p - (t + n + 1))
  rw [List.getD_eq_getElem?_getD, List.getElem?_drop] at h5
  rw [List.getD_eq_getElem?_getD]
  rwa [show t + n + 1 + (p - (t + n + 1)) = p by omega] at h5
theorem znE {y V top c : Int} {n : Nat} (hy0 : 0 < y) (hc0 : 0 < c) (hyc : 4294967296 ^ n * c ≤ y) (hV0 : 0 ≤ V) (hVt : V < 4294967296 ^ n * (top + 1)) : V / y ≤ top / c := by
 have hd := Int.mul_ediv_self_le (x := V) (k := y) (by omega)
 have hd0 : 0 ≤ V / y := Int.ediv_nonneg hV0 (by omega)
 have h1 := Int.mul_le_mul_of_nonneg_right hyc hd0
 have hp := pow_pos n
 rw [Int.mul_assoc] at h1
 have h2 : 4294967296 ^ n * (c * (V / y)) < 4294967296 ^ n * (top + 1) := by omega
 have h3 := Int.lt_of_mul_lt_mul_left h2 (Int.le_of_lt hp)
 exact Int.le_ediv_of_mul_le hc0 (by rw [Int.mul_comm]; omega)
theorem zmj {N y : Int} {m n t : Nat} {L Q : List Int} (h : ziK N y m n (t + 1) L Q) (hy : y < 4294967296 ^ n) (hy0 : 0 < y) (ht : t + n ≤ m) (hnm : n ≤ m) (R : List Int) (hR : R.length = n + 1) (hRU : U R)
  (hRv : lv R = lv ((L.take (t + n + 1)).drop t) % y) :
  ziK N y m n t (L.take t ++ (R ++ L.drop (t + n + 1))) (Q.set t (lv ((L.take (t + n + 1)).drop t) / y)) := by
 obtain ⟨f1, f2, f3, f4, f5, f6⟩ := zhz h hy hy0 ht
 obtain ⟨V, hV⟩ : ∃ V, lv ((L.take (t + n + 1)).drop t) = V := ⟨_, rfl⟩
 have n3 := zbD f2
 rw [hV] at f3 f4 hRv n3 ⊢
 have hlL := h.lL
 have hd0 : 0 ≤ V / y := Int.ediv_nonneg n3 (by omega)
 have hd1 : V / y < 4294967296 := Int.ediv_lt_of_lt_mul hy0 (by rw [Int.mul_comm]; exact f4)
 have hr0 := Int.emod_nonneg V (show y ≠ 0 by omega)
 have hr1 := Int.emod_lt_of_pos V hy0
 have hqr := Int.mul_ediv_add_emod V y
 have hlt : (L.take t).length = t := by rw [List.length_take]; omega
 have hval : lv (L.take t ++ (R ++ L.drop (t + n + 1))) = lv (L.take t) + 4294967296 ^ t * (V % y) := by
  rw [zhu, zhu, f6, Int.mul_zero, Int.add_zero, hlt, hRv]
 refine ⟨by simp [hR]; omega, zpj.2 ⟨zcT h.uL t, zpj.2 ⟨hRU, zht h.uL _⟩⟩, by rw [List.length_set]; exact h.lQ, zhb h.uQ t _ hd0 hd1, fun p hp => ?_, ?_, ?_⟩
 ·rw [zcU _ _ _ _ (by rw [h.lQ]; omega), if_neg (by omega)]
  exact h.zero p (by omega)
 ·have hv := h.val
  rw [hval, zeL _ _ _ (by rw [h.lQ]; omega), h.zero t (by omega), Int.sub_zero, Int.mul_add y, Int.mul_left_comm y]
  have h5 : 4294967296 ^ t * V = 4294967296 ^ t * (y * (V / y)) + 4294967296 ^ t * (V % y) := by rw [← Int.mul_add, hqr]
  omega
 ·rw [hval]
  have h1 := zdP (zcT h.uL t)
  rw [hlt] at h1
  have h2 := Int.mul_le_mul_of_nonneg_left (show V % y + 1 ≤ y by omega) (Int.le_of_lt (pow_pos t))
  rw [Int.mul_add, Int.mul_one, Int.mul_comm _ y] at h2
  omega
theorem zmk {a b A0 Q : List Int} {m n s : Nat} (hU : U a) (hV : U b) (hm : a.length = m) (hn : 0 < n) (hnm : n ≤ m) (hb0 : 4294967296 ^ (n - 1) ≤ lv b)
  (hl : A0.length = m + 1) (hA : U A0) (hv : lv A0 = lv a * 2 ^ s) (hQ : Q = List.replicate (m - n + 1) 0) : ziK (lv a * 2 ^ s) (lv b * 2 ^ s) m n (m - n + 1) A0 Q := by
 subst hQ
 refine ⟨hl, hA, by simp, ziH _, fun p _ => zdz _ _, by rw [zfd, Int.mul_zero, Int.add_zero, hv], ?_⟩
 rw [hv]
 have h1 := zdP hU
 rw [hm] at h1
 have hp : (0 : Int) < 2 ^ s := Int.pow_pos (by decide)
 have h2 : (4294967296 : Int) ^ m ≤ lv b * 4294967296 ^ (m - n + 1) := by
  have := Int.mul_le_mul_of_nonneg_right hb0 (Int.le_of_lt (pow_pos (m - n + 1)))
  rw [← Int.pow_add, show n - 1 + (m - n + 1) = m by omega] at this
  exact this
 rw [Int.mul_right_comm]
 exact Int.mul_lt_mul_of_pos_right (by omega) hp
theorem znF {a b : Int} {m n s : Nat} {L Q : List Int} (hb : 0 < b) (h : ziK (a * 2 ^ s) (b * 2 ^ s) m n 0 L Q) : lv Q = a / b ∧ lv L = (a % b) * 2 ^ s := by
 have hp : (0 : Int) < 2 ^ s := Int.pow_pos (by decide)
 have h1 := h.val
 have h2 := h.lt
 rw [Int.pow_zero, Int.mul_one] at h2
 have h3 := zbD h.uL
 have hy : (0 : Int) < b * 2 ^ s := Int.mul_pos hb hp
 have hq : lv Q = (a * 2 ^ s) / (b * 2 ^ s) := by
  rw [← h1, Int.add_mul_ediv_left _ _ (by omega), Int.ediv_eq_zero_of_lt h3 h2, Int.zero_add]
 have hr : lv L = (a * 2 ^ s) % (b * 2 ^ s) := by
  rw [← h1, Int.add_mul_emod_self_left, Int.emod_eq_of_lt h3 h2]
 rw [Int.mul_comm a, Int.mul_comm b] at hq hr
 rw [Int.mul_ediv_mul_of_pos _ _ hp] at hq
 rw [Int.mul_emod_mul_of_pos _ _ hp] at hr
 exact ⟨hq, by rw [hr, Int.mul_comm]⟩
theorem zml {L : List Int} (hU : U L) (i s : Nat) (hs : s < 32) : ((L.getD (i + 1) 0 * 4294967296 + L.getD i 0) / 2 ^ s) % 4294967296 = lv (L.drop i) / 2 ^ s % 4294967296 := by
 have hp := zeD s hs
 rw [zcY L i, zcY L (i + 1)]
 generalize lv (L.drop (i + 1 + 1)) = z
 generalize L.getD (i + 1) 0 = x
 generalize L.getD i 0 = y
 have e : (2 : Int) ^ s * 2 ^ (32 - s) = 4294967296 := by
  rw [← Int.pow_add, show s + (32 - s) = 32 by omega]; decide
 have e2 : y + 4294967296 * (x + 4294967296 * z) = (x * 4294967296 + y) + 2 ^ s * (2 ^ (32 - s) * (4294967296 * z)) := by
  rw [← Int.mul_assoc (2 ^ s), e]; omega
 rw [e2, Int.add_mul_ediv_left _ _ (by omega), Int.mul_left_comm, Int.add_mul_emod_self_left]
theorem zmm {L R : List Int} {n i s : Nat} (hU : U L) (hs : s < 32) (hR : R.length = n) (hi : i < n) (hz : ∀ p, i ≤ p → R.getD p 0 = 0) (hv : lv R = lv L / 2 ^ s % 4294967296 ^ i) (hL : i ≤ L.length) :
  lv (R.set i (lv (L.drop i) / 2 ^ s % 4294967296)) = lv L / 2 ^ s % 4294967296 ^ (i + 1) := by
 rw [zeL _ _ _ (by omega), hz i (Nat.le_refl _), Int.sub_zero, hv]
 have hp : (0 : Int) < 2 ^ s := Int.pow_pos (by decide)
 have hB := pow_pos i
 have e : lv (L.drop i) / 2 ^ s = lv L / 2 ^ s / 4294967296 ^ i := by
  rw [Int.ediv_ediv_of_nonneg (by omega), Int.mul_comm, ← Int.ediv_ediv_of_nonneg (by omega)]
  have h1 := zen L i hL
  have h2 := zdP (zcT hU i)
  rw [List.length_take, Nat.min_eq_left hL] at h2
  rw [h1, Int.add_mul_ediv_left _ _ (by omega), Int.ediv_eq_zero_of_lt (zbD (zcT hU i)) h2, Int.zero_add]
 rw [e, Int.pow_succ]
 generalize lv L / 2 ^ s = x
 generalize ((4294967296 : Int) ^ i) = p at *
 have h1 := Int.mul_ediv_add_emod x p
 have h2 := Int.mul_ediv_add_emod (x / p) 4294967296
 have h3 := Int.emod_nonneg x (show p ≠ 0 by omega)
 have h4 := Int.emod_lt_of_pos x hB
 have h5 := Int.emod_nonneg (x / p) (show (4294967296 : Int) ≠ 0 by decide)
 have h6 := Int.emod_lt_of_pos (x / p) (show (0 : Int) < 4294967296 by decide)
 have h7 : x = (x % p + p * (x / p % 4294967296)) + p * 4294967296 * (x / p / 4294967296) := by
  have h8 : p * (x / p) = p * (4294967296 * (x / p / 4294967296)) + p * (x / p % 4294967296) := by rw [← Int.mul_add, h2]
  rw [Int.mul_assoc]
  omega
 have h9 : x % p + p * (x / p % 4294967296) < p * 4294967296 := by
  have := Int.mul_le_mul_of_nonneg_left (show x / p % 4294967296 + 1 ≤ 4294967296 by omega) (Int.le_of_lt hB)
  rw [Int.mul_add, Int.mul_one] at this
  omega
 have h10 : 0 ≤ x % p + p * (x / p % 4294967296) := by
  have := Int.mul_nonneg (Int.le_of_lt hB) h5
  omega
 conv => rhs; rw [h7, Int.add_mul_emod_self_left, Int.emod_eq_of_lt h10 h9]
theorem zdt (k : Nat) (A0 : Option Addr) (c0 : Nat) (l0 : List Int) (r : List Int) (w : World) (hr0 : Kd.C (Kd.int .u32) w A0 l0.length l0) (hc0 : l0.length ≤ c0) (h : zaM.f k l0 = some r) :
  Calls Tryz.prog 167 #[.slice A0 l0.length c0] w fun e w' => ∃ m : Nat, e = .returned (.slice A0 m c0) ∧ (m ≤ l0.length ∧ r = l0.take m) ∧ Below w.heap.size w w' := by
 have HR0 := zaa.mk hr0
 have HC0 := zaa.mk hc0
 have H' := zaa.mk (show zaM.l0 k (l0.take l0.length) = some r by rw [List.take_length]; exact h)
 clear hr0 hc0 h
 have HB := zaa.mk (Below.refl w.heap.size w)
 go_enter Tryz.func167, Tryz.ntmps167
 go_wp2
 go_loopg [0] k (fun kq v0 w' => ∃ (m : Nat), v0 = .slice A0 m c0 ∧ zaa (m ≤ l0.length ∧ zaM.l0 kq (l0.take m) = some r) ∧ zaa (Below w.heap.size w w'))
 case atStart => exact ⟨l0.length, rfl, ⟨Nat.le_refl _, H'.out⟩, HB⟩
 case round =>
  clear H' HB
  obtain ⟨m, rfl, HM, HB⟩ := hrel
  have hlen : (l0.take m).length = m := by rw [List.length_take]; have := HM.out.1; omega
  have hmx : m ≤ 9223372036854775807 := by have := (Kd.zqJ HR0.out); have := HM.out.1; omega
  cases gk with
  | zero => exact absurd HM.out.2 (by simp [zaM.l0])
  | succ k1 =>
   have H := HM.out.2
   simp only [zaM.l0, hlen] at H
   have HL := zaa.mk hlen
   clear hlen
   by_cases c2 : (m : Int) > 0
   ·rw [if_pos c2] at H
    have c2b0 : decide (0 < (m : Int)) = true := zDT c2
    have c2b1 : decide (0 < m) = true := decide_eq_true (by omega)
    obtain ⟨j, hj⟩ : ∃ j_ : Int, (wrap64 ((m : Int) - 1)) = j_ := ⟨_, rfl⟩
    have hjm : j = (m : Int) - 1 := by rw [← hj]; unfold wrap64; omega
    have hjw : (IntKind.i64.wrap ((m : Int) - 1)) = j := (zbs _).trans hj
    rw [hj, if_pos (by omega), if_pos (by omega)] at H
    have p0 : 0 ≤ j := by omega
    have q0 : j < (m : Int) := by omega
    obtain ⟨ad, e, hx⟩ := Kd.zbT HR0.out j p0 (by have := HM.out.1; omega)
    cases e
    replace hx := (HB.out.cell (World.block_lt_of_cell? w _ hx)).trans hx
    have hrd : rd (l0.take m) j = rd l0 j := by
     unfold rd
     rw [List.getD_eq_getElem?_getD, List.getElem?_take_of_lt (by omega), List.getD_eq_getElem?_getD]
    rw [hrd] at H
    by_cases c6 : rd l0 j = 0
    ·rw [if_pos c6, if_pos (by omega), List.take_take, Nat.min_eq_left (by omega)] at H
     have c6b0 : ((rd l0 j) == 0) = true := beq_iff_eq.mpr c6
     have c6b1 : ((rd l0 j) != 0) = false := bne_eq_false_iff_eq.mpr c6
     have c4b0 : decide (0 ≤ j) = true := decide_eq_true p0
     have c5b0 : decide (j < (m : Int)) = true := decide_eq_true q0
     have c7b0 : decide (j ≤ (m : Int)) = true := decide_eq_true (by omega)
     have c8b0 : (j ≤ (m : Int)) = True := eq_true (by omega)
     have p1 : (0 ≤ j) = True := eq_true p0
     have q1 : (j < (m : Int)) = True := eq_true q0
     obtain ⟨i0, hi0, _, hsz, _⟩ := info_parts zcS
     have hcut := zon (P := Tryz.prog) 39 109 .i64 Tryz.underlying39 hi0 (some ad) m c0 j p0 (by omega) (by have := HM.out.1; have := HC0.out; omega)
     have HN : zaa (j.toNat ≤ l0.length ∧ zaM.l0 k1 (l0.take j.toNat) = some r) := ⟨by have := HM.out.1; omega, H⟩
     clear H hi0 hsz c6 hrd hjm c2 hj p0 q0
     go_wp2
     go_roundg k1
     case measure => omega
     case rel => exact ⟨j.toNat, rfl, HN, HB⟩
    ·rw [if_neg c6] at H
     have c6b0 : ((rd l0 j) == 0) = false := beq_eq_false_iff_ne.mpr c6
     have c6b1 : ((rd l0 j) != 0) = true := bne_iff_ne.mpr c6
     have c4b0 : decide (0 ≤ j) = true := decide_eq_true p0
     have c5b0 : decide (j < (m : Int)) = true := decide_eq_true q0
     have p1 : (0 ≤ j) = True := eq_true p0
     have q1 : (j < (m : Int)) = True := eq_true q0
     have HN : zaa (m ≤ l0.length ∧ r = l0.take m) := ⟨HM.out.1, (Option.some.inj H).symm⟩
     clear H hrd hjm c2 hj p0 q0
     go_wp2
     go_ret
     exact ⟨m, rfl, HN.out, HB.out⟩
   ·rw [if_neg c2] at H
    have c2b0 : decide (0 < (m : Int)) = false := zDF c2
    have c2b1 : decide (0 < m) = false := decide_eq_false (by omega)
    have HN : zaa (m ≤ l0.length ∧ r = l0.take m) := ⟨HM.out.1, (Option.some.inj H).symm⟩
    clear H c2
    go_wp2
    go_ret
    exact ⟨m, rfl, HN.out, HB.out⟩
theorem zjH {e : Nat} {w : World} {base : Nat} {ok : Nat → Prop} {A : Option Addr} {n c m : Nat} {xs r : List Int} (h : Kd.R (Kd.int .u32) e w base ok (.slice A n c) xs) (hm : m ≤ xs.length ∧ r = xs.take m) : Kd.R (Kd.int .u32) e w base ok (.slice A m c) r := by
 rw [hm.2]
 exact Kd.zpY h hm.1
theorem znG {β : Type} (c es : List β) (off k len : Nat) (h : es.length = k) (h1 : off + k ≤ len) (h2 : len ≤ c.length) : (c.take off ++ es ++ c.drop (off + k)).take len = c.take off ++ (es ++ (c.drop (off + k)).take (len - (off + k))) := by
 have hl : (c.take off ++ es).length = off + k := by rw [List.length_append, List.length_take, h]; omega
 rw [List.take_append, hl, List.take_of_length_le (by omega), List.append_assoc]
section
variable {P : Program} {ops : Array Oper} {rest : List Oper} {o : Oper} {a : Act} {Q : Exit → Act → World → Prop} {α : Type}
theorem ziL {enc : α → Value} {h1 : ∀ x, (enc x).oneCell' = true} (d : α) {w0 W : World} (base : Nat) (hgd : o.guard = none) (s x : Operand) (t t' e : TypeId)
  (ho : o.op = .call { callee := .builtin .copy, args := #[s, x], argTypes := #[t, t'] }) (ht : P.underlying t = some (.slice e)) (hinfo : (P.info? e).map (·.size) = some 1)
  (g off dLen dCap n cap : Nat) (xs ys : List α) (A : Option Addr) (m c : Nat) (ok : Nat → Prop) (hs : a.eval s = .slice (some ⟨g, off, none⟩) dLen dCap) (hx : a.eval x = .slice A m c)
  (HO : (Kd.scalar enc h1).R e W base ok (.slice (some ⟨g, 0, none⟩) n cap) xs) (HR : (Kd.scalar enc h1).C W A m ys) (HB : Below base w0 W) (hbase : base ≤ W.heap.size) (hfit : off + dLen ≤ xs.length)
  (h : ∀ w1, (Kd.scalar enc h1).R e w1 base ok (.slice (some ⟨g, 0, none⟩) n cap) (xs.take off ++ (ys.take (min m dLen) ++ xs.drop (off + min m dLen))) → Below base w0 w1 → W.grownBy w1 (some g) → wpList P ops Q rest (a.put o.dst (.int .i64 ((min m dLen : Nat) : Int))) w1) :
  wpList P ops Q (o :: rest) a W := by
 have hR := Kd.zft (enc := enc) (d := d) (h1 := h1) HR
 have hm : ys.length = m := hR.1
 have hown := Kd.zeY HO
 have fin : ∀ w1, (Builtin.copy_ #[t, t'] o.type #[.slice (some ⟨g, off, none⟩) dLen dCap, .slice A m c]).run P W = .ok (goInt ((min m dLen : Nat) : Int)) w1 → (Kd.scalar enc h1).R e w1 base ok (.slice (some ⟨g, 0, none⟩) n cap) (xs.take off ++ (ys.take (min m dLen) ++ xs.drop (off + min m dLen))) → W.grownBy w1 (some g) → wpList P ops Q (o :: rest) a W := by
  intro w1 hr hrow hg
  refine wpList_plain hgd fun K hK => ?_
  unfold Oper.wp execOp
  simp only [ho, resolve, invoke, builtin, Sem.run_bind, Sem.run_pure, Result.andThen_ok, List.map_toArray, List.map_cons, List.map_nil, hs, hx, hr]
  exact hK _ _ (h w1 hrow (HB.grown hg hbase (zex hown)) hg)
 rcases Nat.eq_zero_or_pos (min m dLen) with h0 | hp
 ·refine fin W ?_ (by rw [h0, List.take_zero, List.nil_append, Nat.add_zero, List.take_append_drop]; exact HO) (World.grownBy.refl W _)
  rw [h0]
  exact run_copy_none W t t' o.type e (some ⟨g, off, none⟩) A dLen dCap m c ht hinfo h0
 ·obtain ⟨ad, hA, hc⟩ := hR.2.2 (by omega)
  rcases hown.2 with ⟨hv0, _⟩ | ⟨g', cap', cur, hv, hb, hh, hnc, hcm, hcs, htake⟩
  ·cases hv0
  injection hv with hv1 hv2 hv3
  injection hv1 with hv1
  injection hv1 with hv1
  subst hv1 hv3
  have hcs1 : cur.size = cap := by omega
  have hsrc : ∀ j u, (encs enc (ys.take (min m dLen)))[j]? = some u → W.cell? (ad.add j) = some u := by
   intro j u hu
   have hj : j < (ys.take (min m dLen)).length := by
    rcases Nat.lt_or_ge j (ys.take (min m dLen)).length with h | h
    ·exact h
    ·rw [List.getElem?_eq_none (by rw [zdo]; exact h)] at hu
     cases hu
   have hjm : j < min m dLen := by rw [List.length_take] at hj; omega
   rw [zkk (d := d) _ j hj] at hu
   rw [hc j (by omega), ← hu]
   simp [List.getD_eq_getElem?_getD, hjm]
  have hkl : (encs enc (ys.take (min m dLen))).length = min m dLen := by rw [zdo, List.length_take]; omega
  have hr := run_copy_cells (P := P) W t t' o.type e g off dLen dCap ad m c (encs enc (ys.take (min m dLen))) ht hinfo (by rw [hkl]) hsrc
   (fun j hj => by rw [cell_of_row W g _ cur e (0, 0) hh]; simp; omega) (fun j _ => zae hh _) (by intro u hu; simp only [encs, List.mem_map] at hu; obtain ⟨q, _, rfl⟩ := hu; exact h1 q)
  obtain ⟨cur', h3, h4, h5⟩ := zei (encs enc (ys.take (min m dLen))) off W cur hh (by rw [hkl]; omega)
  obtain ⟨s1, s2, s3, s4⟩ := zdU g (encs enc (ys.take (min m dLen))) off W
  refine fin _ (by rw [hA, hr, hkl]) (Kd.zkl ?_ HO.1) ⟨s1, s2, s3, by rw [s4]; exact Nat.le_refl _, fun k _ hk => zeh _ _ k (fun he => hk (by rw [he]))⟩
  have hln : (xs.take off ++ (ys.take (min m dLen) ++ xs.drop (off + min m dLen))).length = xs.length := by
   rw [List.length_append, List.length_append, List.length_take, List.length_take, List.length_drop]
   omega
  rw [hln]
  refine ⟨by rw [zdo, hln, Nat.mul_one], .inr ⟨g, cap, cur', by rw [hv2], hb, h3, hnc, hcm, by rw [h4, hcs], ?_⟩⟩
  have htk : cur.toList.take xs.length = encs enc xs := by rw [← htake, Nat.mul_one]
  have hcl : xs.length ≤ cur.toList.length := by have := Array.length_toList (xs := cur); omega
  have e1 : encs enc (xs.take off) = cur.toList.take off := by
   rw [show encs enc (xs.take off) = (encs enc xs).take off by simp [encs, List.map_take], ← htk, List.take_take, Nat.min_eq_left (by omega)]
  have e2 : encs enc (xs.drop (off + min m dLen)) = (cur.toList.drop (off + min m dLen)).take (xs.length - (off + min m dLen)) := by
   rw [show encs enc (xs.drop (off + min m dLen)) = (encs enc xs).drop (off + min m dLen) by simp [encs, List.map_drop], ← htk, List.drop_take]
  rw [h5, zgj, zgj, e1, e2, hkl, Nat.mul_one]
  exact znG _ _ _ _ _ hkl (by omega) hcl
end
end Go.Proofs.YtioofhilohmfbaaGreatDoor.P
end
section
open Go.RowKit PrintWords PrintLast PrintMore
namespace Go.Proofs.YtioofhilohmfbaaGreatDoor.P
attribute [local go_sem] za3 za4 zbh zbi zaT zaU za5 za6 zbn
theorem zbJ.rows (k : Nat) (a0 : Int) (r : List Int) (w : World) (h : zbJ.f k a0 = some r) :
  Calls Tryz.prog 137 #[.int .u64 a0] w fun e w' => ∃ v0_ : Value, e = .returned (v0_) ∧ Kd.R (Kd.int .u32) 109 w' w.heap.size (fun _ => True) v0_ r ∧ Below w.heap.size w w' := by
 have HB := zaa.mk (Below.refl w.heap.size w)
 have H : ((zaM.f k (([(a0) % 4294967296, (a0 / 4294967296) % 4294967296] : List Int))).bind fun t4 => (some t4)) = some r := h
 clear h
 obtain ⟨y1, hy1⟩ : ∃ y_ : List Int, y_ = (([(a0) % 4294967296, (a0 / 4294967296) % 4294967296] : List Int)) := ⟨_, rfl⟩
 replace H : ((zaM.f k y1).bind fun t4 => (some t4)) = some r := by first | (rw [hy1]; with_reducible exact H) | (have H2_ := (Option.bind_some _ _).symm.trans H; rw [hy1]; with_reducible exact H2_) | (have H2_ := (Option.bind_some _ _).symm.trans H; with_reducible exact H2_) | with_reducible exact H | (rw [hy1]; exact H) | exact H
 have Ny1 := zaa.mk hy1
 clear hy1
 replace H := zBE H
 obtain ⟨t4, A20, H⟩ := H
 replace H : (some t4) = some r := H
 have A2 := zaa.mk A20
 clear A20
 obtain rfl := Option.some.inj H
 go_enter Tryz.func137, Tryz.ntmps137
 go_wp2_with (first | ((with_reducible refine zaA (N := 8) rfl ?_); refine Kd.zf2 (Kd.int .u32) _ 109 ?hg (N := 8) ?hd (xs := ([(a0) % 4294967296, (a0 / 4294967296) % 4294967296] : List Int)) (inner := [.int .u32 ((a0) % 4294967296), .int .u32 ((a0 / 4294967296) % 4294967296)]) (ok := fun _ => True) (okp := fun _ => True) ?hr ?hp (fun _ hk => hk) trivial (Below.refl _ _) (Nat.le_refl _) (by simp) ?_; (case hd => rfl); (case hg => rfl); (case hr => first | (go_simp; done) | (go_simp; rfl)); (case hp => exact (zb5.one (show Kd.M (Kd.int .u32) _ _ _ ((a0) % 4294967296) [.int .u32 ((a0) % 4294967296)] from rfl) (zb5.one (show Kd.M (Kd.int .u32) _ _ _ ((a0 / 4294967296) % 4294967296) [.int .u32 ((a0 / 4294967296) % 4294967296)] from rfl) (zb5.none _ _)))); intro v2 w3 ho4 hb hg_ hnew_; clear hg_ hnew_; (first | rw [← Ny1.out] at ho4 | (simp only [Int.reduceToNat] at ho4; rw [← Ny1.out] at ho4)); have n0_ := zaa.mk (Kd.zaz (Kd.zfS (M := fun k_ => (w.heap.size ≤ k_)) ho4 (zad (by repeat (first | (with_reducible first | exact HB.out | apply zam | apply zao | apply zav) | exact HB.out))) (fun k_ h_ => h_)) (zad (by repeat (first | (with_reducible first | exact HB.out | apply zam | apply zao | apply zav) | exact HB.out)))); have n1_ := zaa.mk (zab (by repeat (first | (with_reducible first | exact HB.out | apply zam | apply zao | apply zav) | exact HB.out)) hb); clear HB; have HO3 := n0_; have HB := n1_; clear n0_ n1_; clear hb ho4; obtain ⟨Ao5, co5, eo5⟩ := Kd.zaC HO3.out; subst eo5) | ((with_reducible refine zcL (f := 167) rfl ?_); refine zgC (some 9) rfl rfl Tryz.func167 (by kernel_rfl) rfl #[.slice Ao5 y1.length co5] rfl (by (try simp only [List.map_toArray, List.map_cons, List.map_nil]); first | done | rfl | (simp only [List.length_drop, List.length_take]; rfl)) ?_; (with_reducible refine (zdt k _ _ y1 t4 _ ?side1 ?side2 A2.out).mono ?_); (case side1 => exact (Kd.zax HO3.out).2.2); (case side2 => exact (Kd.zax HO3.out).2.1); rintro e w6 ⟨v5, rfl, hm_, hb⟩; refine ⟨_, rfl, ?_⟩; have n0_ := zaa.mk (Kd.zaS (by (with_reducible repeat (first | apply Kd.zaQ | apply Kd.zaR | apply Kd.zbb)); exact HO3.out) hb); have n1_ := zaa.mk (Kd.za7 (ok' := fun _ => True) (Kd.zaS (zjH HO3.out hm_) hb) (fun _ _ => trivial)); clear hm_; have n2_ := zaa.mk (zab (by repeat (first | (with_reducible first | exact HB.out | apply zam | apply zao | apply zav) | exact HB.out)) hb); clear HO3; clear HB; have HO3 := n0_; have HO6 := n1_; have HB := n2_; clear n0_ n1_ n2_; (try clear hb); (try clear hb2); (try clear hk); (try clear hi); (try clear ho0)))
 go_ret
 exact ⟨_, by first | rfl | (simp [zaf, zag] <;> rfl) | (simp [*, zaf, zag] <;> rfl), by (with_reducible repeat (first | apply Kd.zaQ | apply Kd.zaR | apply Kd.zbb)); exact HO6.out, by repeat (first | (with_reducible first | exact HB.out | apply zam | apply zao | apply zav) | exact HB.out)⟩
theorem za9.rows (k : Nat) (A0 : Option Addr) (c0 : Nat) (l0 : List Int) (a1 : Int) (r1 : List Int) (r2 : Int) (w : World) (hr0 : Kd.C (Kd.int .u32) w A0 l0.length l0) (hc0 : l0.length ≤ c0) (h : za9.f k l0 a1 = some (r1, r2)) :
  Calls Tryz.prog 188 #[.slice A0 l0.length c0, .int .u32 a1] w fun e w' => ∃ v0_ : Value, e = .returned (.tuple #[v0_, .int .u32 r2]) ∧ Kd.R (Kd.int .u32) 109 w' w.heap.size (fun _ => True) v0_ r1 ∧ Below w.heap.size w w' := by
 have HR0 := zaa.mk hr0
 have HC0 := zaa.mk hc0
 clear hr0 hc0
 have HB := zaa.mk (Below.refl w.heap.size w)
 have H : (if 0 ≤ (l0.length : Int) then (if ((l0.length : Int) : Int).toNat ≤ 70368744177664 then (za9.l0 k l0 a1 (List.replicate ((l0.length : Int) : Int).toNat 0) 0 (wrap64 ((l0.length : Int) - 1))) else (none)) else (none)) = some (r1, r2) := h
 clear h
 by_cases c3 : 0 ≤ (l0.length : Int)
 ·rw [if_pos c3] at H
  have c3b0 := eq_true c3
  have c3b1 : decide (0 ≤ (l0.length : Int)) = true := zDT c3
  clear c3
  by_cases c4 : ((l0.length : Int) : Int).toNat ≤ 70368744177664
  ·rw [if_pos c4] at H
   have c4b0 := eq_true c4
   have c4b1 : decide (((l0.length : Int) : Int).toNat ≤ 70368744177664) = true := zDT c4
   clear c4
   obtain ⟨y1, hy1⟩ : ∃ y_ : List Int, y_ = (List.replicate ((l0.length : Int) : Int).toNat 0) := ⟨_, rfl⟩
   replace H : (za9.l0 k l0 a1 y1 0 (wrap64 ((l0.length : Int) - 1))) = some (r1, r2) := by first | (rw [hy1]; with_reducible exact H) | (have H2_ := (Option.bind_some _ _).symm.trans H; rw [hy1]; with_reducible exact H2_) | (have H2_ := (Option.bind_some _ _).symm.trans H; with_reducible exact H2_) | with_reducible exact H | (rw [hy1]; exact H) | exact H
   have Ny1 := zaa.mk hy1
   clear hy1
   have H' := zaa.mk H
   clear H
   go_enter Tryz.func188, Tryz.ntmps188
   go_wp2_with (first | ((with_reducible refine zaA (N := 11) rfl ?_); refine Kd.zeH (Kd.int .u32) _ 109 rfl (N := 11) rfl 39 _ _ rfl (l0.length : Int) rfl rfl Tryz.underlying39 (.int .u32 0) 4 zcS rfl (by decide) (by omega) 0 (ok := fun _ => True) (okp := fun _ => True) rfl (fun _ hk => hk) trivial (zDO (by first | (with_reducible assumption) | assumption)) (Nat.le_trans (Nat.mul_le_mul_right _ (zDO (by first | (with_reducible assumption) | assumption) : (l0.length : Int).toNat ≤ 70368744177664)) (by omega)) (Below.refl _ _) (Nat.le_refl _) ?_; intro v2 w5 ho6 hb hg_ hnew_; clear hg_ hnew_; (first | rw [← Ny1.out] at ho6 | (simp only [Int.reduceToNat] at ho6; rw [← Ny1.out] at ho6)); have n0_ := zaa.mk (Kd.zaz (Kd.zfS (M := fun k_ => (w.heap.size ≤ k_)) ho6 (zad (by repeat (first | (with_reducible first | exact HB.out | apply zam | apply zao | apply zav) | exact HB.out))) (fun k_ h_ => h_)) (zad (by repeat (first | (with_reducible first | exact HB.out | apply zam | apply zao | apply zav) | exact HB.out)))); have n1_ := zaa.mk (zab (by repeat (first | (with_reducible first | exact HB.out | apply zam | apply zao | apply zav) | exact HB.out)) hb); clear HB; have HO3 := n0_; have HB := n1_; clear n0_ n1_; clear hb ho6))
   go_loopg [7, 8] k (fun kq v7 v8 w' => ∃ (x6_1 : List Int) (x7_1 : Int) (x8_1 : Int), v7 = .int .u32 x7_1 ∧ v8 = .int .i64 x8_1 ∧ zaa (za9.l0 kq l0 a1 x6_1 x7_1 x8_1 = some (r1, r2)) ∧ zaa (kq ≤ k) ∧ zaa (Kd.R (Kd.int .u32) 109 w' w.heap.size (fun k_ => (w.heap.size ≤ k_)) v2 x6_1) ∧ zaa (Below w.heap.size w w'))
   case atStart => exact ⟨(y1), (0), (wrap64 ((l0.length : Int) - 1)), (by first | rfl | (simp; done) | (simp [*]; done)), (by first | rfl | (simp; done) | (simp [*]; done)), H', ⟨Nat.le_refl _⟩, ⟨by (with_reducible repeat (first | apply Kd.zaQ | apply Kd.zaR | apply Kd.zbb)); exact Kd.za7 HO3.out (fun _ hk => hk.1)⟩, ⟨by repeat (first | (with_reducible first | exact HB.out | apply zam | apply zao | apply zav) | exact HB.out)⟩⟩
   case round =>
    clear H'
    try clear c1
    try clear p2
    try clear c3
    try clear c3b0
    try clear c3b1
    try clear c4
    try clear c4b0
    try clear c4b1
    try clear p6
    obtain ⟨x6_1, x7_1, x8_1, rfl, rfl, HA, HK1, HO_6, HB⟩ := hrel
    cases gk with
    | zero => exact absurd HA.out (by simp [za9.l0])
    | succ k1 =>
     have H := HA.out
     clear HA
     simp only [za9.l0] at H
     by_cases c7 : x8_1 ≥ 0
     ·rw [if_pos c7] at H
      have c7b0 : decide (0 ≤ x8_1) = true := zDT c7
      clear c7
      by_cases c8 : 0 ≤ x8_1
      ·rw [if_pos c8] at H
       have c8b0 : decide (0 ≤ x8_1) = true := zDT c8
       clear c8
       by_cases c9 : x8_1 < (l0.length : Int)
       ·rw [if_pos c9] at H
        have c9b0 : decide (x8_1 < (l0.length : Int)) = true := zDT c9
        clear c9
        replace H := zBE H
        obtain ⟨⟨t5, t6⟩, A100, H⟩ := H
        replace H : (if x8_1 < (x6_1.length : Int) then (za9.l0 k1 l0 a1 (x6_1.set (x8_1 : Int).toNat t5) t6 (wrap64 (x8_1 - 1))) else (none)) = some (r1, r2) := H
        have A10 := zaa.mk A100
        clear A100
        by_cases c11 : x8_1 < (x6_1.length : Int)
        ·rw [if_pos c11] at H
         have c11b0 : decide (x8_1 < (x6_1.length : Int)) = true := zDT c11
         clear c11
         obtain ⟨y7, hy7⟩ : ∃ y_ : List Int, y_ = (x6_1.set (x8_1 : Int).toNat t5) := ⟨_, rfl⟩
         replace H : (za9.l0 k1 l0 a1 y7 t6 (wrap64 (x8_1 - 1))) = some (r1, r2) := by first | (rw [hy7]; with_reducible exact H) | (have H2_ := (Option.bind_some _ _).symm.trans H; rw [hy7]; with_reducible exact H2_) | (have H2_ := (Option.bind_some _ _).symm.trans H; with_reducible exact H2_) | with_reducible exact H | (rw [hy7]; exact H) | exact H
         have Ny7 := zaa.mk hy7
         clear hy7
         have H' := zaa.mk H
         clear H
         have p4 : 0 ≤ (x8_1 : Int) := zDO (by first | (with_reducible assumption) | assumption)
         have q4 : x8_1 < (l0.length : Int) := zDO (by first | (with_reducible assumption) | assumption)
         obtain ⟨ad4, e4, hx4_0⟩ := Kd.zbT HR0.out x8_1 p4 q4
         cases e4
         replace hx4_0 := (HB.out.cell (World.block_lt_of_cell? w _ hx4_0)).trans hx4_0
         replace p4 := eq_true p4
         replace q4 := eq_true q4
         go_wp2_with (first | ((with_reducible refine zcL (f := 201) rfl ?_); refine zgC (some 28) rfl rfl Tryz.func201 (by kernel_rfl) rfl #[.int .u32 x7_1, .int .u32 (rd l0 x8_1), .int .u32 a1] rfl (by (try simp only [List.map_toArray, List.map_cons, List.map_nil]); first | done | rfl | (simp only [List.length_drop, List.length_take]; rfl)) ?_; (with_reducible refine (zcP.calls x7_1 (rd l0 x8_1) a1 t5 t6 _ A10.out).mono ?_); rintro e w13 ⟨rfl, hb⟩; refine ⟨_, rfl, ?_⟩; have n0_ := zaa.mk (Kd.zaS (by (with_reducible repeat (first | apply Kd.zaQ | apply Kd.zaR | apply Kd.zbb)); exact HO_6.out) hb); have n1_ := zaa.mk (zab (by repeat (first | (with_reducible first | exact HB.out | apply zam | apply zao | apply zav) | exact HB.out)) hb); clear HO_6; clear HB; have HO_6 := n0_; have HB := n1_; clear n0_ n1_; (try clear hb); (try clear hb2); (try clear hk); (try clear hi); have p12 : 0 ≤ (x8_1 : Int) := zDO (by first | (with_reducible assumption) | assumption); have q12 : (x8_1 : Int) < ((x6_1.length : Int) : Int) := zDO (by first | (with_reducible assumption) | assumption); obtain ⟨go12, co12, eo12, gb12, gl12, cl12, HG12⟩ := Kd.zc4 HO_6.out (by omega); (first | cases eo12 | (injection eo12 with ea_ en_ ec_; (first | subst ea_ | (injection ea_ with ea_; subst ea_)); subst ec_; clear en_)); have GB12 := zaa.mk gb12; have GG12 := zaa.mk HG12; clear gb12 gl12 HG12; obtain ⟨hx12_0, hf12_0⟩ := Kd.zbK 0 HO_6.out (x8_1 : Int) p12 q12; replace p12 := eq_true p12; replace q12 := eq_true q12; obtain ⟨hy14_, hz14_⟩ := Kd.zbK 0 HO_6.out (x8_1 : Int) (zDO (by first | (with_reducible assumption) | assumption)) (zDO (by first | (with_reducible assumption) | assumption)); have HP14 := Kd.zde HO_6.out (x8_1 : Int) t5) | ((with_reducible refine zbX (t := 109) (p := 31) rfl ?_); refine zbQ (t := 109) (p := 31) (v := ?vo_w15) (w1 := (w13.setCell ⟨go12, (x8_1 : Int).toNat, none⟩ (.int .u32 t5))) ?hg ?ho ?hn ?hr ?_; (case ho => rfl); (case hg => rfl); (case hn => rfl); (case hr => first | (go_simp; done) | (go_simp; rfl)); intro w15 hw; have hg : w13.grownBy w15 (some go12) := (by rw [hw]; exact HP14.2); have hp_ : Kd.R (Kd.int .u32) 109 w15 w.heap.size (fun k_ => (w.heap.size ≤ k_)) (.slice (some ⟨go12, 0, none⟩) x6_1.length co12) y7 := (by rw [hw, Ny7.out]; exact HP14.1); clear HP14; have n0_ := zaa.mk (hp_); have n1_ := zaa.mk ((by rw [hw]; exact zbo (HB.out) GB12.out : Below w.heap.size w w15)); clear HO_6; clear HB; have HO_6 := n0_; have HB := n1_; clear n0_ n1_; clear hg hw hp_))
         go_roundg k1
         case measure => have := HK1.out; omega
         case rel => exact ⟨(y7), (t6), (wrap64 (x8_1 - 1)), (by first | rfl | (simp; done) | (simp [*]; done)), (by first | rfl | (simp; done) | (simp [*]; done)), H', ⟨by have := HK1.out; omega⟩, ⟨by (with_reducible repeat (first | apply Kd.zaQ | apply Kd.zaR | apply Kd.zbb)); exact HO_6.out⟩, ⟨by repeat (first | (with_reducible first | exact HB.out | apply zam | apply zao | apply zav) | exact HB.out)⟩⟩
        ·rw [if_neg c11] at H
         exact absurd H (by simp)
       ·rw [if_neg c9] at H
        exact absurd H (by simp)
      ·rw [if_neg c8] at H
       exact absurd H (by simp)
     ·rw [if_neg c7] at H
      have c7b0 : decide (0 ≤ x8_1) = false := zDF c7
      clear c7
      replace H := zBE H
      obtain ⟨t8, A160, H⟩ := H
      replace H : (some (t8, x7_1)) = some (r1, r2) := H
      have A16 := zaa.mk A160
      clear A160
      simp only [Option.some.injEq, Prod.mk.injEq] at H
      obtain ⟨rfl, rfl⟩ := H
      obtain ⟨Ao17, co17, eo17⟩ := Kd.zaC HO_6.out
      subst eo17
      go_wp2_with (first | ((with_reducible refine zcL (f := 167) rfl ?_); refine zgC (some 33) rfl rfl Tryz.func167 (by kernel_rfl) rfl #[.slice Ao17 x6_1.length co17] rfl (by (try simp only [List.map_toArray, List.map_cons, List.map_nil]); first | done | rfl | (simp only [List.length_drop, List.length_take]; rfl)) ?_; (with_reducible refine (zdt k1 _ _ x6_1 t8 _ ?side1 ?side2 A16.out).mono ?_); (case side1 => exact (Kd.zax HO_6.out).2.2); (case side2 => exact (Kd.zax HO_6.out).2.1); rintro e w18 ⟨v9, rfl, hm_, hb⟩; refine ⟨_, rfl, ?_⟩; have n0_ := zaa.mk (Kd.zaS (by (with_reducible repeat (first | apply Kd.zaQ | apply Kd.zaR | apply Kd.zbb)); exact HO_6.out) hb); have n1_ := zaa.mk (Kd.za7 (ok' := fun _ => True) (Kd.zaS (zjH HO_6.out hm_) hb) (fun _ _ => trivial)); clear hm_; have n2_ := zaa.mk (zab (by repeat (first | (with_reducible first | exact HB.out | apply zam | apply zao | apply zav) | exact HB.out)) hb); clear HO_6; clear HB; have HO_6 := n0_; have HO10 := n1_; have HB := n2_; clear n0_ n1_ n2_; (try clear hb); (try clear hb2); (try clear hk); (try clear hi); (try clear ho0)))
      go_ret2
      exact ⟨_, by first | rfl | (simp [zaf, zag] <;> rfl) | (simp [*, zaf, zag] <;> rfl), by (with_reducible repeat (first | apply Kd.zaQ | apply Kd.zaR | apply Kd.zbb)); exact HO10.out, by repeat (first | (with_reducible first | exact HB.out | apply zam | apply zao | apply zav) | exact HB.out)⟩
  ·rw [if_neg c4] at H
   exact absurd H (by simp)
 ·rw [if_neg c3] at H
  exact absurd H (by simp)
end Go.Proofs.YtioofhilohmfbaaGreatDoor.P
end
section
open Go Go.RowKit Go.Lib PrintWords PrintLast PrintMore
namespace Go.Proofs.YtioofhilohmfbaaGreatDoor.P
def zau.f (l0 : List Int) : Option (List Int) := if l0.length ≤ 17592186044416 then some l0 else none
theorem zau.calls (A0 : Option Addr) (c0 : Nat) (l0 : List Int) (r : List Int) (w : World) (hr0 : Kd.C (Kd.int .u32) w A0 l0.length l0) (hc0 : l0.length ≤ c0) (h : zau.f l0 = some r) :
  Calls Tryz.prog 90 #[.slice A0 l0.length c0] w fun e w' => ∃ v0_ : Value, e = .returned (v0_) ∧ Kd.R (Kd.int .u32) 109 w' w.heap.size (fun _ => True) v0_ r ∧ Below w.heap.size w w' := by
 unfold zau.f at h
 by_cases hs : l0.length ≤ 17592186044416
 case neg => rw [if_neg hs] at h; cases h
 rw [if_pos hs] at h
 injection h with h
 subst h
 cases A0 with
 | none =>
  have hl : l0 = [] := by
   rcases Nat.eq_zero_or_pos l0.length with h0 | h0
   ·exact List.eq_nil_of_length_eq_zero h0
   ·obtain ⟨ad, e, _⟩ := hr0.2.2 h0
    cases e
  subst hl
  refine (Tryz.slices_Clone_nil _ c0 w).mono ?_
  rintro e w' ⟨rfl, rfl⟩
  exact ⟨_, rfl, Kd.zcl _ _ _ _ _, Below.refl _ _⟩
 | some ad =>
  have q39 : ∀ (w : World) (a : Option Addr) (n c n' c' : Nat), (binOp .eql 39 (.slice a n c) (.slice none n' c')).run Tryz.prog w = .ok (.bool a.isNone) w := fun w a n c n' c' => Lib.run_eql_slice_nil w _ _ a n c n' c' Tryz.underlying39
  have HR0 := zaa.mk hr0
  have HS := zaa.mk hs
  clear hr0 hs
  go_enter Tryz.func90, Tryz.ntmps90
  go_wp2_with (first
   | ((with_reducible refine zaA (N := 5) rfl ?_); refine Kd.zf2 (Kd.int .u32) _ 109 ?hg (N := 5) ?hd (xs := ([] : List Int)) (inner := []) (ok := fun _ => True) (okp := fun _ => True) ?hr ?hp (fun _ hk => hk) trivial (Below.refl _ _) (Nat.le_refl _) (by simp) ?_; (case hd => rfl); (case hg => rfl); (case hr => first | (go_simp; done) | (go_simp; rfl)); (case hp => exact zb5.none _ _); intro v2 w5 ho hb hg_ hnew_; clear hg_ hnew_; have HO := zaa.mk ho; have HB := zaa.mk hb; clear ho hb)
   | ((with_reducible refine zcO (b := .append) (xs := #[.tmp 5, .tmp 6]) rfl ?_); at_builtin; refine Kd.zhW (Kd.int .u32) (w0 := w) w.heap.size rfl (.tmp 5) (.tmp 6) 39 109 (.int .u32 0) 4 rfl Tryz.underlying39 zcS rfl (by decide) (by omega) v2 ([] : List Int) l0 _ _ _ (fun _ => True) (fun _ => False) rfl rfl ?aO ?aR (fun _ _ h => h) (fun _ h => h.elim) ?aF ?aB ?aS ?aL ?_; (case aO => exact HO.out); (case aR => exact Kd.zaY HR0.out HB.out); (case aF => exact (fun _ _ => trivial)); (case aB => exact HB.out); (case aS => exact zad HB.out); (case aL => have := HS.out; simp only [List.length_nil]; omega); intro v4 w11 ho hb hg hat; have HO4 := zaa.mk ho; have HB4 := zaa.mk hb; clear ho hb hg hat))
  go_ret
  exact ⟨_, rfl, HO4.out, HB4.out⟩
end Go.Proofs.YtioofhilohmfbaaGreatDoor.P
end
section
open Go Go.RowKit PrintWords PrintLast PrintMore
namespace Go.Proofs.YtioofhilohmfbaaGreatDoor.P
attribute [local go_sem] za3 za4
def zjI (l0 l1 : List Int) : Prop := U l0 ∧ Tr l0 ∧ U l1 ∧ Tr l1 ∧ l1 ≠ [] ∧ l0.length ≤ 1000 ∧ l1.length ≤ 1000
instance (l0 l1 : List Int) : Decidable (zjI l0 l1) := inferInstanceAs (Decidable (_ ∧ _))
def zcm.f (l0 l1 : List Int) : Option (List Int × List Int) := if zjI l0 l1 then some (lim l0.length (lv l0 / lv l1), lim l1.length (lv l0 % lv l1)) else none
def Two (w : World) (r1 r2 : List Int) (e : Ending) (w' : World) : Prop :=
 ∃ v0_ v1_ : Value, e = .returned (.tuple #[v0_, v1_]) ∧ Kd.R (Kd.int .u32) 109 w' w.heap.size (fun k_ => some k_ ≠ v1_.ownBlock) v0_ r1 ∧ Kd.R (Kd.int .u32) 109 w' w.heap.size (fun k_ => some k_ ≠ v0_.ownBlock) v1_ r2 ∧ Below w.heap.size w w'
theorem zmn {w w' : World} {r1 r2 : List Int} {v0 v1 : Value} {ok1 ok2 : Nat → Prop} (h1 : Kd.R (Kd.int .u32) 109 w' w.heap.size ok1 v0 r1) (h2 : Kd.R (Kd.int .u32) 109 w' w.heap.size ok2 v1 r2) (hne : ∀ k, v0.ownBlock = some k → v1.ownBlock ≠ some k) (hb : Below w.heap.size w w') : Two w r1 r2 (.returned (.tuple #[v0, v1])) w' :=
 ⟨v0, v1, rfl, Kd.zow rfl h1 (fun k hk he => hne k hk he.symm), Kd.zow rfl h2 (fun k hk he => hne k he.symm hk), hb⟩
theorem zjJ (A0 : Option Addr) (c0 : Nat) (l0 : List Int) (A1 : Option Addr) (c1 : Nat) (l1 : List Int) (w : World) (hr0 : Kd.C (Kd.int .u32) w A0 l0.length l0) (hc0 : l0.length ≤ c0) (hr1 : Kd.C (Kd.int .u32) w A1 l1.length l1) (hc1 : l1.length ≤ c1) (hok : zjI l0 l1) (hlt : lv l0 < lv l1) :
  Calls Tryz.prog 164 #[.slice A0 l0.length c0, .slice A1 l1.length c1] w (Two w (lim l0.length (lv l0 / lv l1)) (lim l1.length (lv l0 % lv l1))) := by
 obtain ⟨u0, t0, u1, t1, hne, b0, b1⟩ := hok
 have n0 := zbD u0
 rw [Int.ediv_eq_zero_of_lt n0 hlt, Int.emod_eq_of_lt n0 hlt, zh9, show lim l1.length (lv l0) = l0 by
  rw [zeC (m := l0.length) n0 (by have := zdP u1; omega) (zdP u0)]; exact ziI _ u0 t0 (Nat.le_refl _)]
 obtain ⟨kc, hkc⟩ := (zdk l0 l1 (by omega) (by omega) u0 t0 u1 t1).rounds
 have hm1 : zgb (lv l0) (lv l1) = -1 := by unfold zgb; rw [if_pos hlt]
 rw [hm1] at hkc
 have KC := zaa.mk hkc
 have HR0 := zaa.mk hr0
 have HC0 := zaa.mk hc0
 have HR1 := zaa.mk hr1
 have HC1 := zaa.mk hc1
 have HK : zau.f l0 = some l0 := by unfold zau.f; rw [if_pos (by omega)]
 have HK := zaa.mk HK
 clear hr0 hc0 hr1 hc1 hkc hm1 u0 t0 u1 t1 hne b0 b1 n0 hlt
 go_enter Tryz.func164, Tryz.ntmps164
 go_wp2
 go_step3
 go_wp2_with (first
  |(go_at_call 187; (with_reducible refine (zaI.calls kc _ _ l0 _ _ l1 (-1) _ HR0.out HC0.out HR1.out HC1.out KC.out).mono ?_); rintro e w1 ⟨rfl, hb⟩; have HB := zaa.mk hb; clear hb)
  |(go_at_call 90; (with_reducible refine (zau.calls _ _ l0 l0 _ (Kd.zaY HR0.out HB.out) HC0.out HK.out).mono ?_); rintro e w2 ⟨v2, rfl, ho, hb⟩; have HO := zaa.mk (Kd.zaz ho (zad HB.out)); have HB2 := zaa.mk (zab HB.out hb); clear ho hb))
 rw [Exit.noGoto_ret]
 go_ret2
 exact zmn (Kd.zcl _ _ _ _ (fun _ => True)) HO.out (fun k hk => by simp [Value.ownBlock] at hk) HB2.out
theorem zkw {a b : Int} (h : b ≤ a) : 0 ≤ zgb a b := by
 unfold zgb
 rw [if_neg (by omega)]
 split <;> omega
theorem znH {w : World} {base e : Nat} {ok : Nat → Prop} {v1 : Value} {l : List Int} (h : Kd.R (Kd.int .u32) e w base ok v1 l) : ∀ k, v1.ownBlock = some k → base ≤ k ∧ k < w.heap.size := fun k hk => ⟨Kd.zbk h k hk, Kd.zcH h k hk⟩
theorem zlc (A0 : Option Addr) (c0 : Nat) (l0 : List Int) (A1 : Option Addr) (c1 : Nat) (l1 : List Int) (w : World) (hr0 : Kd.C (Kd.int .u32) w A0 l0.length l0) (hc0 : l0.length ≤ c0) (hr1 : Kd.C (Kd.int .u32) w A1 l1.length l1) (hc1 : l1.length ≤ c1) (hok : zjI l0 l1) (hle : lv l1 ≤ lv l0) (h1 : l1.length = 1) :
  Calls Tryz.prog 164 #[.slice A0 l0.length c0, .slice A1 l1.length c1] w (Two w (lim l0.length (lv l0 / lv l1)) (lim l1.length (lv l0 % lv l1))) := by
 obtain ⟨u0, t0, u1, t1, hne, b0, b1⟩ := hok
 have hy : lv l1 = rd l1 0 := by
  cases l1 with
  | nil => exact absurd rfl hne
  | cons x t =>
   cases t with
   | nil => simp [lv, rd]
   | cons => simp at h1
 have hyU := zda u1 0
 rw [← zdQ] at hyU
 have hy0 : 0 < rd l1 0 := by
  have := zeB u1 t1 hne
  rw [h1, hy] at this
  simp at this
  omega
 have hyU' : rd l1 0 < 4294967296 := hyU.2
 rw [show lim l1.length (lv l0 % lv l1) = lim 1 (lv l0 % lv l1) by rw [h1], hy]
 obtain ⟨cc, hcc⟩ : ∃ cc, zgb (lv l0) (lv l1) = cc := ⟨_, rfl⟩
 have hc := zkw hle
 rw [hcc] at hc
 obtain ⟨kc, hkc⟩ := (zdk l0 l1 (by omega) (by omega) u0 t0 u1 t1).rounds
 rw [hcc] at hkc
 obtain ⟨ks, hks⟩ := (znC l0 (rd l1 0) hy0 hyU' u0 (by omega)).rounds
 obtain ⟨r1, hr1'⟩ : ∃ r, lim l0.length (lv l0 / rd l1 0) = r := ⟨_, rfl⟩
 obtain ⟨r2, hr2'⟩ : ∃ r, lv l0 % rd l1 0 = r := ⟨_, rfl⟩
 have q0 : 0 ≤ r2 := by rw [← hr2']; exact Int.emod_nonneg _ (by omega)
 have q1 : r2 < 4294967296 := by rw [← hr2']; exact Int.lt_trans (Int.emod_lt_of_pos _ hy0) hyU'
 rw [hr1', hr2'] at hks
 rw [hr1', hr2', zeC (k := 1) (m := 2) q0 (by omega) (by omega)]
 obtain ⟨ko, hko⟩ := (zpm r2 q0 (by omega)).rounds
 obtain ⟨r3, hr3'⟩ : ∃ r, lim 2 r2 = r := ⟨_, rfl⟩
 rw [hr3'] at hko ⊢
 have hw2 : IntKind.u64.wrap r2 = r2 := zcg r2 q0 (by omega)
 have c0b : decide (cc < 0) = false := decide_eq_false (by omega)
 have c2b0 : ((l1.length : Int) == 1) = true := beq_iff_eq.mpr (by omega)
 have c2b1 : ((l1.length : Int) != 1) = false := bne_eq_false_iff_eq.mpr (by omega)
 have c3b0 : decide (0 < (l1.length : Int)) = true := decide_eq_true (by omega)
 have c3b1 : decide (0 < l1.length) = true := decide_eq_true (by omega)
 obtain ⟨ad, e, hx⟩ := Kd.zbT hr1 0 (by omega) (by omega)
 cases e
 rw [show ((0 : Int)).toNat = 0 from rfl, Addr.add_zero'] at hx
 have qi1 : (0 < l1.length) = True := eq_true (by omega)
 have p1 : ((0 : Int) ≤ 0) = True := eq_true (by omega)
 have q1' : (0 < (l1.length : Int)) = True := eq_true (by omega)
 have KC := zaa.mk hkc
 have KS := zaa.mk hks
 have KO := zaa.mk hko
 have HR0 := zaa.mk hr0
 have HC0 := zaa.mk hc0
 have HR1 := zaa.mk hr1
 have HC1 := zaa.mk hc1
 have HX := zaa.mk hx
 have HE := zaa.mk (And.intro c2b0 c2b1)
 clear c2b0 c2b1
 clear hr0 hc0 hr1 hc1 hkc hks hko u0 t0 u1 t1 hne b0 b1 hle h1 hy hyU hy0 hyU' hcc hc hr1' hr2' q0 q1 hr3' hx
 go_enter Tryz.func164, Tryz.ntmps164
 go_wp2
 go_step3
 go_wp2_with (first
  |(go_at_call 187; (with_reducible refine (zaI.calls kc _ _ l0 _ _ l1 cc _ HR0.out HC0.out HR1.out HC1.out KC.out).mono ?_); rintro e w1 ⟨rfl, hb⟩; have HB := zaa.mk hb; have hx := zaE hb HX.out; have c2b0 := HE.out.1; have c2b1 := HE.out.2; clear hb)
  |(go_at_call 188; (with_reducible refine (za9.rows ks _ _ l0 (rd l1 0) r1 r2 _ (Kd.zaY HR0.out HB.out) HC0.out KS.out).mono ?_); rintro e w2 ⟨v2, rfl, ho, hb⟩; have HO := zaa.mk (Kd.zaz ho (zad HB.out)); have HB2 := zaa.mk (zab HB.out hb); clear ho hb hx)
  |(go_at_call 137; (with_reducible refine (zbJ.rows ko r2 r3 _ KO.out).mono ?_); rintro e w3 ⟨v3, rfl, ho, hb⟩; have HO2 := zaa.mk (Kd.zaS HO.out hb); have HL := zaa.mk (Kd.zcH HO.out); have HO3 := zaa.mk ho; have HO4 := zaa.mk (Kd.zaz ho (zad HB2.out)); have HB3 := zaa.mk (zab HB2.out hb); clear ho hb))
 rw [Exit.noGoto_ret]
 go_ret2
 exact zmn HO2.out HO4.out (fun k hk he => by have := HL.out k hk; have := (znH HO3.out k he).1; omega) HB3.out
structure DW (w : World) (gl nl cl gb cb gq nq cq off : Nat) (L Y Q P : List Int) (W : World) : Prop where
 l : Kd.R (Kd.int .u32) 109 W w.heap.size (fun _ => True) (.slice (some ⟨gl, 0, none⟩) nl cl) L
 y : Kd.R (Kd.int .u32) 109 W w.heap.size (fun _ => True) (.slice (some ⟨gb, 0, none⟩) Y.length cb) Y
 q : Kd.R (Kd.int .u32) 109 W w.heap.size (fun _ => True) (.slice (some ⟨gq, 0, none⟩) nq cq) Q
 p : Kd.C (Kd.int .u32) W (some ⟨gl, off, none⟩) P.length P
 b : Below w.heap.size w W
theorem DW.below {w : World} {gl nl cl gb cb gq nq cq off : Nat} {L Y Q P : List Int} {W W' : World} (h : DW w gl nl cl gb cb gq nq cq off L Y Q P W) (hb : Below W.heap.size W W') : DW w gl nl cl gb cb gq nq cq off L Y Q P W' :=
 ⟨Kd.zaS h.l hb, Kd.zaS h.y hb, Kd.zaS h.q hb, Kd.zaY h.p hb, zab h.b hb⟩
theorem zld (g : Int) (Y P : List Int) (hY : U Y) (hP : U P) (g0 : 0 ≤ g) (g1 : g < 4294967296) (hl : Y.length ≤ 2000) (hp : P.length ≤ 2000) :
  ∃ ko kt kp kc G2 O TP, zbJ.f ko g = some G2 ∧ zaG.f kt G2 Y = some O ∧ zaM.f kp P = some TP ∧ zaI.f kc O TP = some (zgb (g * lv Y) (lv P)) ∧
   (g * lv Y ≤ lv P → ∃ km R, za0.f km P O = some R ∧ U R ∧ R.length ≤ P.length ∧ lv R = lv P - g * lv Y) := by
 obtain ⟨ko, hko⟩ := (zpm g g0 (by omega)).rounds
 have hv2 := zeM 2 g g0 (by omega)
 have hl2 := zeR 2 g
 obtain ⟨G2, hG⟩ : ∃ G, lim 2 g = G := ⟨_, rfl⟩
 have hU2 : U G2 := by rw [← hG]; exact zhc _ _
 rw [hG] at hko hv2 hl2
 obtain ⟨kt, hkt⟩ := (zku G2 Y hU2 hY (by omega)).rounds
 rw [hv2] at hkt
 have hyn := zbD hY
 have hn : 0 ≤ g * lv Y := Int.mul_nonneg g0 hyn
 have hlt : g * lv Y < 4294967296 ^ (G2.length + Y.length) := by
  have h1 := zdP hU2
  rw [hv2] at h1
  have h2 := zdP hY
  rw [Int.pow_add]
  exact Int.lt_of_le_of_lt (Int.mul_le_mul_of_nonneg_left (Int.le_of_lt h2) g0) (Int.mul_lt_mul_of_pos_right h1 (pow_pos _))
 have hvO := zeM _ _ hn hlt
 have hlO := zeR (G2.length + Y.length) (g * lv Y)
 have htO := zgH _ _ hn hlt
 obtain ⟨O, hO⟩ : ∃ O, lim (G2.length + Y.length) (g * lv Y) = O := ⟨_, rfl⟩
 have hUO : U O := by rw [← hO]; exact zhc _ _
 rw [hO] at hkt hvO hlO htO
 obtain ⟨kp, hkp⟩ := (zdG P.length P rfl (by omega) hP).rounds
 have hpn := zbD hP
 have hpl := zdP hP
 have hvT := zeM _ _ hpn hpl
 have hlT := zeR P.length (lv P)
 have htT := zgH _ _ hpn hpl
 obtain ⟨TP, hT⟩ : ∃ TP, lim P.length (lv P) = TP := ⟨_, rfl⟩
 have hUT : U TP := by rw [← hT]; exact zhc _ _
 rw [hT] at hkp hvT hlT htT
 obtain ⟨kc, hkc⟩ := (zdk O TP (by omega) (by omega) hUO htO hUT htT).rounds
 rw [hvO, hvT] at hkc
 refine ⟨ko, kt, kp, kc, G2, O, TP, hko, hkt, hkp, hkc, fun hle => ?_⟩
 have hOP : O.length ≤ P.length := by
  rw [← hO]
  exact zfC hn hlt (by omega)
 obtain ⟨km, hkm⟩ := (zkv P O hP hUO hOP (by omega) (by rw [hvO]; exact hle)).rounds
 rw [hvO] at hkm
 refine ⟨km, _, hkm, zhc _ _, zeR _ _, ?_⟩
 exact zeM _ _ (by omega) (by omega)
theorem zql {a b : Int} : (a ≤ b → zgb a b ≤ 0) ∧ (b < a → zgb a b = 1) := by
 unfold zgb
 constructor
 ·intro h
  split
  ·omega
  ·rw [if_pos (by omega)]; omega
 ·intro h
  rw [if_neg (by omega), if_neg (by omega)]
theorem zhd {V y g : Int} (hy : 0 < y) : (V / y < g → V < g * y) ∧ (g ≤ V / y → g * y ≤ V) :=
 ⟨fun h => Int.lt_mul_of_ediv_lt hy h, fun h => by rw [← Int.le_ediv_iff_mul_le hy]; exact h⟩
theorem zle (L Z R : List Int) (t k : Nat) (hZ : Z.length = k) (hR : R.length ≤ k) (hL : t + k ≤ L.length) :
  (L.take t ++ (Z.take (min Z.length k) ++ L.drop (t + min Z.length k))).take t ++ (R.take (min R.length k) ++ (L.take t ++ (Z.take (min Z.length k) ++ L.drop (t + min Z.length k))).drop (t + min R.length k)) = L.take t ++ ((R ++ Z.drop R.length) ++ L.drop (t + k)) := by
 have hl : (L.take t).length = t := by rw [List.length_take]; omega
 rw [hZ, Nat.min_self, Nat.min_eq_left hR, List.take_of_length_le (l := Z) (by omega), List.take_of_length_le (l := R) (by omega)]
 rw [List.take_append_of_le_length (by omega), List.take_of_length_le (by omega), List.drop_append, hl, List.drop_of_length_le (by omega), List.nil_append, show t + R.length - t = R.length by omega, List.drop_append_of_le_length (by omega), List.append_assoc]
theorem zrb (a b : Int) (ha : 0 ≤ a ∧ a < 4294967296) (hb : 0 ≤ b ∧ b < 4294967296) : Go.bits .or .u64 (IntKind.u64.wrap (IntKind.u64.wrap a * 4294967296)) (IntKind.u64.wrap b) = a * 4294967296 + b := by
 rw [zcg a (by omega) (by omega), zcg b (by omega) (by omega), zcg (a * 4294967296) (by omega) (by omega)]
 obtain ⟨a, rfl⟩ := Int.eq_ofNat_of_zero_le ha.1
 obtain ⟨b, rfl⟩ := Int.eq_ofNat_of_zero_le hb.1
 have e64 : (2 : Nat) ^ 64 = 18446744073709551616 := by decide
 have e32 : (2 : Nat) ^ 32 = 4294967296 := by decide
 have h := (bits_nat .u64 64 (by decide) w64 (a * 4294967296) b (by omega) (by omega)).2
 have h2 := Nat.two_pow_add_eq_or_of_lt (i := 32) (b := b) (by omega) a
 rw [e32, Nat.mul_comm] at h2
 rw [← h2] at h
 have e : ((a * 4294967296 : Nat) : Int) = (a : Int) * 4294967296 := by omega
 rw [e] at h
 rw [h]
 clear h h2 e e64 e32 ha hb
 omega
theorem ziM (L : List Int) (t k j : Nat) (h : t + j < k) : ((L.take k).drop t).getD j 0 = L.getD (t + j) 0 := by
 rw [List.getD_eq_getElem?_getD, List.getElem?_drop, List.getElem?_take_of_lt h, List.getD_eq_getElem?_getD]
theorem znI {L Y P : List Int} {t n : Nat} {y : Int} (hU : U L) (hY : U Y) (hYl : Y.length = n + 1) (hYv : lv Y = y) (hY0 : 0 < Y.getD n 0) (hL : t + n + 1 < L.length) (hP : (L.take (t + (n + 1) + 1)).drop t = P) (hy0 : 0 < y) (hlt : lv P < y * 4294967296)
  (g0 : Int) (hg : min (IntKind.u64.wrap ((L.getD (t + n + 1) 0 * 4294967296 + L.getD (t + n) 0).tdiv (Y.getD n 0))) 4294967295 = g0) : lv P / y ≤ g0 ∧ g0 < 4294967296 := by
 have a1 := zda hU (t + n + 1)
 have a2 := zda hU (t + n)
 have hPU : U P := by rw [← hP]; exact zht (zcT hU _) _
 have hPl : P.length = n + 2 := by rw [← hP, List.length_drop, List.length_take]; omega
 have e1 : P.getD (n + 1) 0 = L.getD (t + n + 1) 0 := by rw [← hP, ziM _ _ _ _ (by omega)]; rfl
 have e2 : P.getD n 0 = L.getD (t + n) 0 := by rw [← hP, ziM _ _ _ _ (by omega)]
 have s1 := zcp P (n + 1) (by omega)
 have s2 := zcp P n (by omega)
 rw [List.take_of_length_le (by omega), e1, s2, e2, Int.pow_succ] at s1
 have s3 := zdP (zcT hPU n)
 rw [List.length_take, Nat.min_eq_left (by omega)] at s3
 have s4 := zcp Y n (by omega)
 rw [List.take_of_length_le (by omega), hYv] at s4
 have s5 := zbD (zcT hY n)
 obtain ⟨top, ht⟩ : ∃ top, L.getD (t + n + 1) 0 * 4294967296 + L.getD (t + n) 0 = top := ⟨_, rfl⟩
 rw [ht] at hg
 have hV : lv P < 4294967296 ^ n * (top + 1) := by
  rw [s1, ← ht, Int.mul_add, Int.mul_add, Int.mul_one, Int.mul_assoc, Int.mul_comm (L.getD (t + n + 1) 0)]
  omega
 have h1 := znE (y := y) (V := lv P) (top := top) (c := Y.getD n 0) (n := n) hy0 hY0 (by omega) (zbD hPU) hV
 have h2 : lv P / y < 4294967296 := Int.ediv_lt_of_lt_mul hy0 (by rw [Int.mul_comm]; exact hlt)
 have h3 : 0 ≤ top / Y.getD n 0 := Int.ediv_nonneg (by omega) (by omega)
 have h4 : top / Y.getD n 0 ≤ top := Int.ediv_le_self _ (by omega)
 rw [Int.tdiv_eq_ediv_of_nonneg (by omega), zcg _ h3 (by omega)] at hg
 omega
theorem zjK (A0 : Option Addr) (c0 : Nat) (l0 : List Int) (A1 : Option Addr) (c1 : Nat) (l1 : List Int) (w : World) (hr0 : Kd.C (Kd.int .u32) w A0 l0.length l0) (hc0 : l0.length ≤ c0) (hr1 : Kd.C (Kd.int .u32) w A1 l1.length l1) (hc1 : l1.length ≤ c1) (hok : zjI l0 l1) (hle : lv l1 ≤ lv l0) (n : Nat) (hn1 : l1.length = n + 1) (hn : 0 < n) :
  Calls Tryz.prog 164 #[.slice A0 l0.length c0, .slice A1 l1.length c1] w (Two w (lim l0.length (lv l0 / lv l1)) (lim l1.length (lv l0 % lv l1))) := by
 obtain ⟨u0, t0, u1, t1, hne, b0, b1⟩ := hok
 -- the lengths
 have hmn : n + 1 ≤ l0.length := by
  rcases Nat.lt_or_ge l0.length l1.length with h | h
  ·have := zgI u0 u1 t1 h; omega
  ·omega
 -- what the calls answer
 obtain ⟨cc, hcc⟩ : ∃ cc, zgb (lv l0) (lv l1) = cc := ⟨_, rfl⟩
 have hc := zkw hle
 rw [hcc] at hc
 obtain ⟨kc, hkc⟩ := (zdk l0 l1 (by omega) (by omega) u0 t0 u1 t1).rounds
 rw [hcc] at hkc
 obtain ⟨x0, x1, x2⟩ := zlb l1 u1 t1 n hn1
 obtain ⟨x, hx⟩ : ∃ x, l1.getD n 0 = x := ⟨_, rfl⟩
 have hxU := (zda u1 n).2
 rw [hx] at x0 x1 x2 hxU
 obtain ⟨s1, s2, s3, s4⟩ := zqk x x0 hxU
 have hLZ : ∀ W : World, Calls Tryz.prog 189 #[.int .u32 x] W fun e w' => e = .returned (.int .i64 (zhy x : Nat)) ∧ w' = W := fun W => by
  have h := Tryz.bits_LeadingZeros32 x W (by omega) (by omega)
  rwa [show (32 - (Lib.bitLen x.toNat : Int)) = ((zhy x : Nat) : Int) by unfold zhy; omega] at h
 obtain ⟨s, hs⟩ : ∃ s, zhy x = s := ⟨_, rfl⟩
 rw [hs] at hLZ x1 x2 s1 s3 s4
 obtain ⟨La, hLa, la1, la2, la3⟩ := zhv l0 s s1 u0 (by omega)
 obtain ⟨Lb, hLb, lb1, lb2, lb3⟩ := zhv l1 s s1 u1 (by omega)
 obtain ⟨ka, hka⟩ := hLa.rounds
 obtain ⟨kb, hkb⟩ := hLb.rounds
 obtain ⟨kt, hkt⟩ := (zdG _ Lb rfl (by omega) lb2).rounds
 rw [lb3] at hkt
 obtain ⟨y1, y2, y3, y4⟩ := znD (n := n + 1) (k := Lb.length) x1 x2 (by omega) (by omega)
 obtain ⟨Y, hY⟩ : ∃ Y, lim Lb.length (lv l1 * 2 ^ s) = Y := ⟨_, rfl⟩
 rw [hY] at hkt y1 y2 y3 y4
 obtain ⟨Q0, hQ0⟩ : ∃ Q, Q = List.replicate (l0.length - n) (0 : Int) := ⟨_, rfl⟩
 have hst : ziK (lv l0 * 2 ^ s) (lv l1 * 2 ^ s) l0.length (n + 1) (l0.length - n) La Q0 := by
  have := zmk (A0 := La) (Q := Q0) u0 u1 (m := l0.length) (n := n + 1) (s := s) rfl (by omega) hmn (by
   have := zeB u1 t1 hne
   rwa [hn1] at this) la1 la2 la3 (by rw [hQ0]; congr 1; omega)
  rwa [show l0.length - (n + 1) + 1 = l0.length - n by omega] at this
 -- the walk's numbers
 obtain ⟨j1, hj1⟩ : ∃ j_ : Int, (wrap64 ((l1.length : Int) - 1)) = j_ := ⟨_, rfl⟩
 have hj1w : IntKind.i64.wrap ((l1.length : Int) - 1) = j1 := (zbs _).trans hj1
 have e1 : j1 = (n : Int) := by rw [← hj1]; unfold wrap64; omega
 obtain ⟨j2, hj2⟩ : ∃ j_ : Int, (wrap64 ((l0.length : Int) - (Y.length : Int))) = j_ := ⟨_, rfl⟩
 have hj2w : IntKind.i64.wrap ((l0.length : Int) - (Y.length : Int)) = j2 := (zbs _).trans hj2
 have e2 : j2 = (l0.length : Int) - (n + 1) := by rw [← hj2]; unfold wrap64; omega
 obtain ⟨j3, hj3⟩ : ∃ j_ : Int, (wrap64 (j2 + 1)) = j_ := ⟨_, rfl⟩
 have hj3w : IntKind.i64.wrap (j2 + 1) = j3 := (zbs _).trans hj3
 have e3 : j3 = (l0.length : Int) - n := by rw [← hj3]; unfold wrap64; omega
 have hq0 : Q0.length = l0.length - n := by rw [hQ0]; simp
 obtain ⟨j4, hj4⟩ : ∃ j_ : Int, (wrap64 ((Q0.length : Int) - 1)) = j_ := ⟨_, rfl⟩
 have hj4w : IntKind.i64.wrap ((Q0.length : Int) - 1) = j4 := (zbs _).trans hj4
 have e4 : j4 = ((l0.length - n : Nat) : Int) - 1 := by rw [← hj4]; unfold wrap64; omega
 have hQ0' : Q0 = List.replicate j3.toNat (0 : Int) := by rw [hQ0]; congr 1; omega
 have c0b : decide (cc < 0) = false := decide_eq_false (by omega)
 have c2b0 : ((l1.length : Int) == 1) = false := beq_eq_false_iff_ne.mpr (by omega)
 have c2b1 : ((l1.length : Int) != 1) = true := bne_iff_ne.mpr (by omega)
 have c3b0 : decide (0 ≤ j3) = true := decide_eq_true (by omega)
 have c3b1 : (0 ≤ j3) = True := eq_true (by omega)
 have hj3b : j3.toNat ≤ 70368744177664 := by omega
 obtain ⟨ad, e, hx⟩ := Kd.zbT hr1 j1 (by omega) (by omega)
 cases e
 have hxx : rd l1 j1 = x := by rw [e1, zdQ]; assumption
 rw [hxx] at hx
 have p1 : (0 ≤ j1) = True := eq_true (by omega)
 have q1 : (j1 < (l1.length : Int)) = True := eq_true (by omega)
 have KC := zaa.mk hkc
 have KA := zaa.mk hka
 have KB := zaa.mk hkb
 have KT := zaa.mk hkt
 have LZ := zaa.mk hLZ
 have ST := zaa.mk hst
 have NQ := zaa.mk hQ0'
 have HR0 := zaa.mk hr0
 have HC0 := zaa.mk hc0
 have HR1 := zaa.mk hr1
 have HC1 := zaa.mk hc1
 have HX := zaa.mk hx
 have B3 := zaa.mk (And.intro c3b0 hj3b)
 have FN := zaa.mk (And.intro hn1 (And.intro hn (And.intro hmn (And.intro b0 (And.intro u0 (And.intro u1 (And.intro t1 hle)))))))
 have FX := zaa.mk (And.intro x0 (And.intro x1 (And.intro x2 s1)))
 have FY := zaa.mk (And.intro y1 (And.intro y2 (And.intro y3 y4)))
 have FL := zaa.mk (And.intro la1 lb1)
 have FQ := zaa.mk hq0
 have E4 := zaa.mk e4
 clear hr0 hc0 hr1 hc1 hkc hka hkb hkt hLZ hst hQ0' hn1 hn hmn b0 b1 u0 u1 t0 t1 hle x0 x1 x2 s1 s2 s3 s4 y1 y2 y3 y4 la1 la2 la3 lb1 lb2 lb3 hq0 e1 e2 e3 e4 hQ0 hY hs hcc hc hxU hLa hLb hne hxx hj1 hj2 hj3 hj4 hj3b hx
 go_enter Tryz.func164, Tryz.ntmps164
 go_wp2
 go_step3
 go_wp2_with (first
  |(go_at_call 187; (with_reducible refine (zaI.calls kc _ _ l0 _ _ l1 cc _ HR0.out HC0.out HR1.out HC1.out KC.out).mono ?_); rintro e w1 ⟨rfl, hb⟩; have HB := zaa.mk hb; have hx := zaE hb HX.out; clear hb)
  |(go_at_call 189; (with_reducible refine (LZ.out _).mono ?_); rintro e w2 ⟨rfl, rfl⟩; clear hx)
  |(go_at_call 190; (with_reducible refine (zaX.calls ka _ _ l0 _ La _ (Kd.zaY HR0.out HB.out) HC0.out KA.out).mono ?_); rintro e w3 ⟨v3, rfl, ho, hb⟩; have HO := zaa.mk ho; have HB2 := zaa.mk (zab HB.out hb); have HS := zaa.mk (zad HB.out); clear ho hb)
  |(go_at_call 190; (with_reducible refine (zaX.calls kb _ _ l1 _ Lb _ (Kd.zaY HR1.out HB2.out) HC1.out KB.out).mono ?_); rintro e w4 ⟨v4, rfl, ho, hb⟩; have HO1 := zaa.mk (Kd.zaS HO.out hb); have HO2 := zaa.mk ho; have HB3 := zaa.mk (zab HB2.out hb); have HS2 := zaa.mk (zad HB2.out); clear ho hb; obtain ⟨Ab, cb, eb⟩ := Kd.zaC HO2.out; subst eb)
  |(go_at_call 167; (with_reducible refine (zdt kt _ _ Lb Y _ (Kd.zax HO2.out).2.2 (Kd.zax HO2.out).2.1 KT.out).mono ?_); rintro e w5 ⟨m5, rfl, hm5, hb⟩; (obtain rfl : m5 = Y.length := by rw [hm5.2, List.length_take]; omega); have HO3 := zaa.mk (Kd.zaS (zjH HO2.out hm5) hb); have HO4 := zaa.mk (Kd.zaS HO1.out hb); have HB4 := zaa.mk (zab HB3.out hb); have HS3 := zaa.mk (zad HB3.out); clear hm5 hb)
  | ((with_reducible refine zaA (N := 62) rfl ?_); refine Kd.zeH (Kd.int .u32) _ 109 rfl (N := 62) rfl 39 _ _ rfl j3 rfl rfl Tryz.underlying39 (.int .u32 0) 4 zcS rfl (by decide) (by omega) 0 (ok := fun _ => True) (okp := fun _ => True) rfl (fun _ hk => hk) trivial (of_decide_eq_true B3.out.1) (Nat.le_trans (Nat.mul_le_mul_right _ B3.out.2) (by omega)) (Below.refl _ _) (Nat.le_refl _) ?_; intro v6 w6 ho hb hg_ hnew_; clear hg_ hnew_; rw [← NQ.out] at ho; have HO5 := zaa.mk ho; have HO6 := zaa.mk (Kd.zaS HO3.out hb); have HO7 := zaa.mk (Kd.zaS HO4.out hb); have HB5 := zaa.mk (zab HB4.out hb); have HS4 := zaa.mk (zad HB4.out); clear ho hb; obtain ⟨Aq, cq, eq⟩ := Kd.zaC HO5.out; subst eq; obtain ⟨Al, cl, el⟩ := Kd.zaC HO7.out; subst el))
 -- the three rows' blocks
 have hl7 : 0 < La.length := by rw [FL.out.1]; omega
 have hy7 : 0 < Y.length := by rw [FY.out.1]; omega
 have hq7 : 0 < Q0.length := by rw [FQ.out]; have := FN.out.2.2.1; omega
 obtain ⟨gl, _, el, _, _, _⟩ := Kd.zc4 HO7.out hl7
 injection el with el1 _ el3
 subst el1 el3
 obtain ⟨gb, _, eb, _, _, _⟩ := Kd.zc4 HO6.out hy7
 injection eb with eb1 _ eb3
 subst eb1 eb3
 obtain ⟨gq, _, eq, _, _, _⟩ := Kd.zc4 HO5.out hq7
 injection eq with eq1 _ eq3
 subst eq1 eq3
 have hlb : gl < gb := Nat.lt_of_lt_of_le (Kd.zcH HO.out gl rfl) (Kd.zbk HO2.out gb rfl)
 have hbq : gb < gq := Nat.lt_of_lt_of_le (Kd.zcH HO3.out gb rfl) (Kd.zbk HO5.out gq rfl)
 have hwl : w.heap.size ≤ gl := Nat.le_trans HS.out (Kd.zbk HO.out gl rfl)
 have GG := zaa.mk (And.intro hlb (And.intro hbq hwl))
 have RL := zaa.mk (Kd.za7 (Kd.zaz HO7.out HS.out) (ok' := fun _ => True) (fun _ _ => trivial))
 have RY := zaa.mk (Kd.za7 (Kd.zaz HO6.out HS2.out) (ok' := fun _ => True) (fun _ _ => trivial))
 have RQ := zaa.mk (Kd.za7 (Kd.zaz HO5.out HS4.out) (ok' := fun _ => True) (fun _ _ => trivial))
 clear hlb hbq hwl hl7 hy7 hq7 HO HO1 HO2 HO3 HO4 HO5 HO6 HO7 HB HB2 HB3 HB4 HS HS2 HS3 HS4 KC KA KB KT LZ NQ HX c0b c2b0 c2b1 c3b0 c3b1 hj1w hj2w hj3w p1 q1 B3
 go_step3
 go_wp2
 go_loopg [12] (l0.length - n + 1) (fun kq v12 wr => ∃ (i : Int) (L Q : List Int), v12 = .int .i64 i ∧ zaa (∃ t : Nat, i = (t : Int) - 1 ∧ kq = t + 1 ∧ t ≤ l0.length - n ∧ ziK (lv l0 * 2 ^ s) (lv l1 * 2 ^ s) l0.length (n + 1) t L Q) ∧
  zaa (Kd.R (Kd.int .u32) 109 wr w.heap.size (fun _ => True) (.slice (some ⟨gl, 0, none⟩) La.length cl) L) ∧ zaa (Kd.R (Kd.int .u32) 109 wr w.heap.size (fun _ => True) (.slice (some ⟨gb, 0, none⟩) Y.length cb) Y) ∧
  zaa (Kd.R (Kd.int .u32) 109 wr w.heap.size (fun _ => True) (.slice (some ⟨gq, 0, none⟩) Q0.length cq) Q) ∧ zaa (Below w.heap.size w wr))
 case atStart => exact ⟨_, La, Q0, rfl, ⟨_, E4.out, rfl, Nat.le_refl _, ST.out⟩, RL, RY, RQ, HB5⟩
 case round =>
  clear RL RY RQ HB5 E4 hj4w ST
  obtain ⟨i, L, Q, rfl, HD, HL, HY, HQ, HB⟩ := hrel
  obtain ⟨t, hi, hk, ht, hd⟩ := HD.out
  cases t with
  | zero =>
   obtain ⟨hn1, hn, hmn, b0, u0, u1, t1, hle⟩ := FN.out
   obtain ⟨x0, x1, x2, s1⟩ := FX.out
   obtain ⟨y1, y2, y3, y4⟩ := FY.out
   have cb0 : decide (0 ≤ i) = false := decide_eq_false (by omega)
   have hl1 : 0 < lv l1 := by have := zeB u1 t1 (fun e => by rw [e] at hn1; simp at hn1); have := pow_pos (l1.length - 1); omega
   obtain ⟨dq, dl⟩ := znF hl1 hd
   obtain ⟨Z, hZ⟩ : ∃ Z, Z = List.replicate ((Y.length : Int)).toNat (0 : Int) := ⟨_, rfl⟩
   have hZl : Z.length = n + 1 := by rw [hZ, List.length_replicate]; omega
   have c0b0 : decide (0 ≤ (Y.length : Int)) = true := decide_eq_true (by omega)
   have c0b1 : (0 ≤ (Y.length : Int)) = True := eq_true (by omega)
   have BZ := zaa.mk (show 0 ≤ (Y.length : Int) ∧ (Y.length : Int).toNat ≤ 70368744177664 by omega)
   have NZ := zaa.mk hZ
   have hr0 := Int.emod_nonneg (lv l0) (show lv l1 ≠ 0 by omega)
   have hr1 := Int.emod_lt_of_pos (lv l0) hl1
   have hb1 := zdP u1
   have hp2 : (0 : Int) < 2 ^ s := Int.pow_pos (by decide)
   have FD := zaa.mk (show lv L / 2 ^ s = lv l0 % lv l1 ∧ 0 ≤ lv l0 % lv l1 ∧ lv l0 % lv l1 < 4294967296 ^ l1.length from ⟨by rw [dl, Int.mul_ediv_cancel _ (by omega)], hr0, by omega⟩)
   have FZ := zaa.mk (show Z.length = n + 1 ∧ Y.length = n + 1 ∧ s < 32 ∧ n + 1 < L.length ∧ U L ∧ l1.length = n + 1 ∧ n + 1 ≤ 1000 ∧ La.length = L.length ∧ lv Z = 0 ∧ U Z from ⟨hZl, y1, s1, by rw [hd.lL]; omega, hd.uL, hn1, by omega, by rw [hd.lL]; exact FL.out.1, by rw [hZ]; exact zfd _, by rw [hZ]; exact ziH _⟩)
   have FE := zaa.mk (show lv Q = lv l0 / lv l1 ∧ U Q ∧ Q.length ≤ l0.length ∧ Q.length = Q0.length from ⟨dq, hd.uQ, by rw [hd.lQ]; omega, by rw [hd.lQ, FQ.out]; omega⟩)
   have ZZ := zaa.mk (show ∀ p, Z.getD p 0 = 0 from fun p => by rw [hZ]; exact zdz _ _)
   clear hn1 hn hmn b0 u0 u1 t1 hle x0 x1 x2 s1 y1 y2 y3 y4 hl1 dq dl hZ hZl hr0 hr1 hb1 hp2 hi hk ht hd HD
   go_wp2_with (first
    | ((with_reducible refine zaA (N := 132) rfl ?_); refine Kd.zeH (Kd.int .u32) _ 109 rfl (N := 132) rfl 39 _ _ rfl (Y.length : Int) rfl rfl Tryz.underlying39 (.int .u32 0) 4 zcS rfl (by decide) (by omega) 0 (ok := fun _ => True) (okp := fun _ => True) rfl (fun _ hk => hk) trivial BZ.out.1 (Nat.le_trans (Nat.mul_le_mul_right _ BZ.out.2) (by omega)) (Below.refl _ _) (Nat.le_refl _) ?_; intro v9 w9 ho hb hg_ hnew_; clear hg_ hnew_; rw [← NZ.out] at ho; have HZ := zaa.mk ho; have n0_ := zaa.mk (Kd.zaS HL.out hb); have n1_ := zaa.mk (Kd.zaS HQ.out hb); have hlt := Kd.zcH HQ.out gq rfl; have hltl := Kd.zcH HL.out gl rfl; have hsz := zad HB.out; have n2_ := zaa.mk (zab HB.out hb); clear HL HQ HY HB ho hb; have HL := n0_; have HQ := n1_; have HB := n2_; clear n0_ n1_ n2_; obtain ⟨Az, cz, ez⟩ := Kd.zaC HZ.out; subst ez))
   obtain ⟨gz, _, ez, _, _, _⟩ := Kd.zc4 HZ.out (by rw [FZ.out.1]; omega)
   injection ez with ez1 _ ez3
   subst ez1 ez3
   have gzb := Kd.zbk HZ.out gz rfl
   have GZ := zaa.mk (show gq < gz ∧ gl < gz ∧ w.heap.size ≤ gz by omega)
   have RZ := zaa.mk (Kd.zaz HZ.out hsz)
   clear HZ gzb hlt hltl hsz
   go_loopg [134] (n + 2) (fun kq v134 wj => ∃ (c : Int) (T : List Int), v134 = .int .i64 c ∧ zaa (∃ k : Nat, c = (k : Int) ∧ kq + k = n + 2 ∧ k ≤ n + 1 ∧ T.length = n + 1 ∧ U T ∧ (∀ p, k ≤ p → T.getD p 0 = 0) ∧ lv T = lv L / 2 ^ s % 4294967296 ^ k) ∧
    zaa (Kd.R (Kd.int .u32) 109 wj w.heap.size (fun _ => True) (.slice (some ⟨gl, 0, none⟩) La.length cl) L) ∧ zaa (Kd.R (Kd.int .u32) 109 wj w.heap.size (fun _ => True) (.slice (some ⟨gq, 0, none⟩) Q0.length cq) Q) ∧
    zaa (Kd.R (Kd.int .u32) 109 wj w.heap.size (fun _ => True) (.slice (some ⟨gz, 0, none⟩) Z.length cz) T) ∧ zaa (Below w.heap.size w wj))
   case atStart => exact ⟨0, Z, rfl, ⟨0, rfl, rfl, by omega, FZ.out.1, FZ.out.2.2.2.2.2.2.2.2.2, fun p _ => ZZ.out p, by rw [Int.pow_zero, Int.emod_one]; exact FZ.out.2.2.2.2.2.2.2.2.1⟩, HL, HQ, RZ, HB⟩
   case round =>
    clear HL HQ HB RZ
    obtain ⟨c, T, rfl, HT, HL, HQ, HZ, HB⟩ := hrel
    obtain ⟨k, hc, hk, hk2, t1, t2, t3, t4⟩ := HT.out
    obtain ⟨z1, z2, z3, z4, z5, z6, z7, z8, _, _⟩ := FZ.out
    by_cases hlt : k < n + 1
    ·have cc0 : decide (c < (Y.length : Int)) = true := decide_eq_true (by omega)
     obtain ⟨j11, hj11⟩ : ∃ j_ : Int, (wrap64 (c + 1)) = j_ := ⟨_, rfl⟩
     have hj11w : IntKind.i64.wrap (c + 1) = j11 := (zbs _).trans hj11
     have e11 : j11 = ((k + 1 : Nat) : Int) := by rw [← hj11]; unfold wrap64; omega
     obtain ⟨hxa, _⟩ := Kd.zbK 0 HL.out j11 (by omega) (by omega)
     obtain ⟨hxb, _⟩ := Kd.zbK 0 HL.out c (by omega) (by omega)
     obtain ⟨hxz, hfz⟩ := Kd.zbK 0 HZ.out c (by omega) (by omega)
     have p1 : (0 ≤ c) = True := eq_true (by omega)
     have q1 : (c < (La.length : Int)) = True := eq_true (by omega)
     have q2 : (c < (Z.length : Int)) = True := eq_true (by omega)
     have p3 : (0 ≤ j11) = True := eq_true (by omega)
     have q3 : (j11 < (La.length : Int)) = True := eq_true (by omega)
     obtain ⟨top, htop⟩ : ∃ top, Go.bits .or .u64 (IntKind.u64.wrap (IntKind.u64.wrap (zdd 0 L j11) * 4294967296)) (IntKind.u64.wrap (zdd 0 L c)) = top := ⟨_, rfl⟩
     have et : top = L.getD (k + 1) 0 * 4294967296 + L.getD k 0 := by
      rw [← htop]
      have h5 : zdd 0 L j11 = L.getD (k + 1) 0 := by rw [e11]; rfl
      have h6 : zdd 0 L c = L.getD k 0 := by rw [hc]; rfl
      rw [h5, h6]
      exact zrb _ _ (zda z5 _) (zda z5 _)
     obtain ⟨val, hval⟩ : ∃ val, IntKind.u32.wrap (top / 2 ^ min s 64) = val := ⟨_, rfl⟩
     have ev : val = lv (L.drop k) / 2 ^ s % 4294967296 := by
      rw [← hval, IntKind.wrap_u32, Nat.min_eq_left (by omega), et]
      exact zml z5 k s z3
     have hvU : 0 ≤ val ∧ val < 4294967296 := by rw [ev]; omega
     have HN : zaa (j11 = ((k + 1 : Nat) : Int) ∧ (gk - 1) + (k + 1) = n + 2 ∧ k + 1 ≤ n + 1 ∧ (T.set c.toNat val).length = n + 1 ∧ U (T.set c.toNat val) ∧ (∀ p, k + 1 ≤ p → (T.set c.toNat val).getD p 0 = 0) ∧ lv (T.set c.toNat val) = lv L / 2 ^ s % 4294967296 ^ (k + 1)) :=
      ⟨e11, by omega, by omega, by rw [List.length_set]; exact t1, zhb t2 _ _ hvU.1 hvU.2, fun p hp => by rw [zcU _ _ _ _ (by omega), if_neg (by omega)]; exact t3 p (by omega), by
       rw [show c.toNat = k by omega, ev]
       exact zmm z5 z3 t1 hlt t3 t4 (by omega)⟩
     have HGK := zaa.mk (show gk - 1 < gk by omega)
     have PC := zaa.mk (show 0 ≤ c ∧ c < (Z.length : Int) by omega)
     have nzl : some gz ≠ some gl := fun h => by injection h with h; have := GZ.out; omega
     have nzq : some gz ≠ some gq := fun h => by injection h with h; have := GZ.out; omega
     have NE := zaa.mk (show (some gz ≠ (Value.slice (some ⟨gl, 0, none⟩) La.length cl).ownBlock) ∧ (some gz ≠ (Value.slice (some ⟨gq, 0, none⟩) Q0.length cq).ownBlock) from ⟨nzl, nzq⟩)
     clear nzl nzq
     clear et ev hvU e11 hj11 hc hk hk2 t1 t2 t3 t4 z1 z2 z3 z4 z5 z6 z7 z8 hlt HT
     go_wp2
     go_still_tail 19, (by kernel_rfl)
     change wpList _ _ _ _ _ wr.drew
     generalize hq : wr.drew = w2
     have n0_ := zaa.mk (show Kd.R (Kd.int .u32) 109 w2 w.heap.size (fun _ => True) (.slice (some ⟨gl, 0, none⟩) La.length cl) L from hq ▸ Kd.zbb HL.out)
     have n1_ := zaa.mk (show Kd.R (Kd.int .u32) 109 w2 w.heap.size (fun _ => True) (.slice (some ⟨gq, 0, none⟩) Q0.length cq) Q from hq ▸ Kd.zbb HQ.out)
     have n2_ := zaa.mk (show Kd.R (Kd.int .u32) 109 w2 w.heap.size (fun _ => True) (.slice (some ⟨gz, 0, none⟩) Z.length cz) T from hq ▸ Kd.zbb HZ.out)
     have n3_ := zaa.mk (show Below w.heap.size w w2 from hq ▸ zew HB.out)
     clear HL HQ HZ HB hq hxa hxb hxz hfz
     have HL := n0_
     have HQ := n1_
     have HZ := n2_
     have HB := n3_
     clear n0_ n1_ n2_ n3_
     obtain ⟨hx13, hf13⟩ := Kd.zbK 0 HZ.out c PC.out.1 PC.out.2
     have HP13 := Kd.zde HZ.out c val
     go_wp2
     go_roundg (gk - 1)
     case measure => exact HGK.out
     case rel => exact ⟨j11, T.set c.toNat val, rfl, ⟨k + 1, HN.out⟩, ⟨Kd.zdx HL.out rfl HP13.2 NE.out.1⟩, ⟨Kd.zdx HQ.out rfl HP13.2 NE.out.2⟩, ⟨HP13.1⟩, ⟨zbo HB.out GZ.out.2.2⟩⟩
    ·have cc0 : decide (c < (Y.length : Int)) = false := decide_eq_false (by omega)
     have hkn : k = n + 1 := by omega
     obtain ⟨d1, d2, d3⟩ := FD.out
     obtain ⟨q1, q2, q3, q4⟩ := FE.out
     rw [hkn, d1, ← z6, Int.emod_eq_of_lt d2 d3] at t4
     obtain ⟨ka, hka⟩ := (zdG Q.length Q rfl (by have := FN.out; omega) q2).rounds
     obtain ⟨kb, hkb⟩ := (zdG T.length T rfl (by omega) t2).rounds
     have n1 := zbD q2
     have n2 := zdP q2
     have eq1 : lim Q.length (lv Q) = lim l0.length (lv l0 / lv l1) := by
      rw [← q1]
      exact zeC n1 n2 (Int.lt_of_lt_of_le n2 (zfT q3))
     have eq2 : lim T.length (lv T) = lim l1.length (lv l0 % lv l1) := by rw [t4, t1, z6]
     rw [eq1] at hka
     rw [eq2] at hkb
     obtain ⟨r1, hr1⟩ : ∃ r, lim l0.length (lv l0 / lv l1) = r := ⟨_, rfl⟩
     obtain ⟨r2, hr2⟩ : ∃ r, lim l1.length (lv l0 % lv l1) = r := ⟨_, rfl⟩
     rw [hr1] at hka
     rw [hr2] at hkb
     have HR := zaa.mk (And.intro hr1 hr2)
     have KA := zaa.mk hka
     have KB := zaa.mk hkb
     have QL := zaa.mk (show Q.length = Q0.length ∧ T.length = Z.length by omega)
     clear hka hkb hr1 hr2 eq1 eq2 n1 n2 t1 t2 t3 t4 q1 q2 q3 q4 d1 d2 d3 hkn hc hk hk2 z1 z2 z3 z4 z5 z6 z7 z8 hlt HT
     go_wp2_with (first
      |(go_at_call 167; rw [← QL.out.1]; (with_reducible refine (zdt ka _ _ Q r1 _ (Kd.zax HQ.out).2.2 (by have := (Kd.zax HQ.out).2.1; have := QL.out; omega) KA.out).mono ?_); rintro e w5 ⟨m5, rfl, hm5, hb⟩; have n0_ := zaa.mk (Kd.zaS (zjH HQ.out hm5) hb); have n1_ := zaa.mk (Kd.zaS HZ.out hb); have n2_ := zaa.mk (zab HB.out hb); clear HQ HZ HB hb hm5; have HQ' := n0_; have HZ := n1_; have HB := n2_; clear n0_ n1_ n2_)
      |(go_at_call 167; rw [← QL.out.2]; (with_reducible refine (zdt kb _ _ T r2 _ (Kd.zax HZ.out).2.2 (by have := (Kd.zax HZ.out).2.1; have := QL.out; omega) KB.out).mono ?_); rintro e w6 ⟨m6, rfl, hm6, hb⟩; have n0_ := zaa.mk (Kd.zaS HQ'.out hb); have n1_ := zaa.mk (Kd.zaS (zjH HZ.out hm6) hb); have n2_ := zaa.mk (zab HB.out hb); clear HQ' HZ HB hb hm6; have HQ' := n0_; have HZ' := n1_; have HB := n2_; clear n0_ n1_ n2_))
     rw [Exit.noGoto_ret]
     go_ret2
     rw [HR.out.1, HR.out.2]
     exact zmn HQ'.out HZ'.out (fun k hk he => by
      have h1 : some gq = some k := hk
      have h2 : some gz = some k := he
      injection h1 with h1
      injection h2 with h2
      have := GZ.out
      omega) HB.out
  | succ t =>
   obtain ⟨hn1, hn, hmn, b0, u0, u1, t1, hle⟩ := FN.out
   obtain ⟨x0, x1, x2, s1⟩ := FX.out
   obtain ⟨y1, y2, y3, y4⟩ := FY.out
   have hit : i = (t : Int) := by omega
   have htm : t + (n + 1) ≤ l0.length := by omega
   have hlaL := FL.out.1
   have hqq := FQ.out
   obtain ⟨j5, hj5⟩ : ∃ j_ : Int, (wrap64 (i + (Y.length : Int))) = j_ := ⟨_, rfl⟩
   have hj5w : IntKind.i64.wrap (i + (Y.length : Int)) = j5 := (zbs _).trans hj5
   have e5 : j5 = ((t + n + 1 : Nat) : Int) := by rw [← hj5]; unfold wrap64; omega
   obtain ⟨j6, hj6⟩ : ∃ j_ : Int, (wrap64 (j5 - 1)) = j_ := ⟨_, rfl⟩
   have hj6w : IntKind.i64.wrap (j5 - 1) = j6 := (zbs _).trans hj6
   have e6 : j6 = ((t + n : Nat) : Int) := by rw [← hj6]; unfold wrap64; omega
   obtain ⟨j7, hj7⟩ : ∃ j_ : Int, (wrap64 ((Y.length : Int) - 1)) = j_ := ⟨_, rfl⟩
   have hj7w : IntKind.i64.wrap ((Y.length : Int) - 1) = j7 := (zbs _).trans hj7
   have e7 : j7 = (n : Int) := by rw [← hj7]; unfold wrap64; omega
   obtain ⟨j8, hj8⟩ : ∃ j_ : Int, (wrap64 (j5 + 1)) = j_ := ⟨_, rfl⟩
   have hj8w : IntKind.i64.wrap (j5 + 1) = j8 := (zbs _).trans hj8
   have e8 : j8 = ((t + n + 2 : Nat) : Int) := by rw [← hj8]; unfold wrap64; omega
   obtain ⟨hx5, _⟩ := Kd.zbK 0 HL.out j5 (by omega) (by omega)
   obtain ⟨hx6, _⟩ := Kd.zbK 0 HL.out j6 (by omega) (by omega)
   obtain ⟨hx7, _⟩ := Kd.zbK 0 HY.out j7 (by omega) (by omega)
   have cb0 : decide (0 ≤ i) = true := decide_eq_true (by omega)
   have p5 : (0 ≤ j5) = True := eq_true (by omega)
   have q5 : (j5 < (La.length : Int)) = True := eq_true (by omega)
   have p6 : (0 ≤ j6) = True := eq_true (by omega)
   have q6 : (j6 < (La.length : Int)) = True := eq_true (by omega)
   have p7 : (0 ≤ j7) = True := eq_true (by omega)
   have q7 : (j7 < (Y.length : Int)) = True := eq_true (by omega)
   have u5 := (zq9 hd.uL j5)
   have u6 := (zq9 hd.uL j6)
   obtain ⟨top, htop⟩ : ∃ top, Go.bits .or .u64 (IntKind.u64.wrap (IntKind.u64.wrap (zdd 0 L j5) * 4294967296)) (IntKind.u64.wrap (zdd 0 L j6)) = top := ⟨_, rfl⟩
   have et : top = L.getD (t + n + 1) 0 * 4294967296 + L.getD (t + n) 0 := by
    rw [← htop]
    have h5 : zdd 0 L j5 = L.getD (t + n + 1) 0 := by rw [e5]; rfl
    have h6 : zdd 0 L j6 = L.getD (t + n) 0 := by rw [e6]; rfl
    rw [h5, h6]
    exact zrb _ _ (zda hd.uL _) (zda hd.uL _)
   obtain ⟨yt, hyt⟩ : ∃ yt, IntKind.u64.wrap (zdd 0 Y j7) = yt := ⟨_, rfl⟩
   have ey : yt = Y.getD n 0 ∧ 0 < yt := by
    have h7 : zdd 0 Y j7 = Y.getD n 0 := by rw [e7]; rfl
    have hu := zda y4 n
    rw [← hyt, h7, zcg _ hu.1 (by omega)]
    have := (zib y1).1 y3
    exact ⟨rfl, by omega⟩
   have hy0 : 0 < yt := ey.2
   have hyn : (yt == 0) = false := beq_eq_false_iff_ne.mpr (by omega)
   have hyf : (yt = 0) = False := eq_false (by omega)
   have ht0 : 0 ≤ top := by rw [et]; have := zda hd.uL (t + n + 1); have := zda hd.uL (t + n); omega
   obtain ⟨g0, hg0⟩ : ∃ g0, min (IntKind.u64.wrap (top.tdiv yt)) 4294967295 = g0 := ⟨_, rfl⟩
   have ET := zaa.mk et
   have GU := zaa.mk hg0
   have EY := zaa.mk ey
   clear et ey u5 u6
   -- the part
   obtain ⟨P, hP⟩ : ∃ P, (L.take (t + (n + 1) + 1)).drop t = P := ⟨_, rfl⟩
   have hPl : P.length = n + 2 := by rw [← hP, List.length_drop, List.length_take, hd.lL]; omega
   have hcl : La.length ≤ cl := (Kd.zax HL.out).2.1
   obtain ⟨i0, hi0, _, hsz, _⟩ := info_parts zcS
   have hcut := zoN (P := Tryz.prog) 39 109 .i64 .i64 Tryz.underlying39 hi0 1 hsz (some ⟨gl, 0, none⟩) La.length cl i j8 (by omega) (by omega) (by omega) hcl
   rw [if_neg (by omega), Option.map_some, Nat.mul_one, add_plain, show j8.toNat - i.toNat = P.length by omega] at hcut
   clear hi0 hsz
   have hPC : Kd.C (Kd.int .u32) wr (some ⟨gl, i.toNat, none⟩) P.length P := by
    have := Kd.zqM (c := cl) (lo := t) (hi := t + (n + 1) + 1) (Kd.zax HL.out).2.2 (by omega) (by rw [hd.lL]; omega) (by rw [hd.lL]; omega)
    rw [if_neg (by omega), Option.map_some, hP, add_plain] at this
    have e : t * (Kd.int .u32).sz = i.toNat := by show t * 1 = _; omega
    rwa [e] at this
   have HPC := zaa.mk hPC
   have HPl := zaa.mk (And.intro hPl (And.intro hP hcl))
   clear hPC hPl hP hcl
   have HKO := zaa.mk (show t + 1 < gk ∧ t ≤ l0.length - n by omega)
   have E5 := zaa.mk (And.intro hit (And.intro e5 (And.intro e6 (And.intro e7 (And.intro e8 (And.intro htm hd))))))
   clear hn1 hn hmn b0 u0 u1 t1 hle x0 x1 x2 s1 y1 y2 y3 y4 hit htm hlaL hqq e5 e6 e7 e8 hi hk ht hd hj5 hj6 hj7 hj8
   go_wp2
   go_quiet (fail)
   go_wp2_with (fail)
   generalize hq : World.drewN wr _ = w2
   have HD := zaa.mk (DW.mk (Kd.zqU hq HL.out) (Kd.zqU hq HY.out) (Kd.zqU hq HQ.out) (Kd.zrj hq HPC.out) (znx hq HB.out))
   clear HL HY HQ HB HPC hq hx5 hx6 hx7 hcut p5 q5 p6 q6 p7 q7 hj6w hj7w hj8w hyn hyf htop hyt hg0 cb0
   obtain ⟨hit, e5, e6, e7, e8, htm, hd⟩ := E5.out
   obtain ⟨y1, y2, y3, y4⟩ := FY.out
   obtain ⟨f1, f2, f3, f4, f5, f6⟩ := zhz hd (by have := FX.out.2.2.1; omega) (by have := FX.out.2.1; have := pow_pos n; omega) htm
   rw [HPl.out.2.1] at f1 f2 f3 f4
   obtain ⟨D, hD⟩ : ∃ D, lv P / lv Y = D := ⟨_, rfl⟩
   have hpn := zbD f2
   have hY0 : 0 < lv Y := by rw [y2]; have := FX.out.2.1; have := pow_pos n; omega
   have hD0 : 0 ≤ D := by rw [← hD]; exact Int.ediv_nonneg hpn (by omega)
   have hGG : D ≤ g0 ∧ g0 < 4294967296 := by
    rw [← hD]
    have hg := GU.out
    rw [ET.out, EY.out.1] at hg
    exact znI hd.uL y4 y1 rfl (by have := EY.out; omega) (by rw [hd.lL]; omega) HPl.out.2.1 hY0 (by rw [y2]; exact f4) g0 hg
   have hDg := hGG.1
   have hg1 := hGG.2
   have HG := zaa.mk (And.intro hD (And.intro hD0 (And.intro hY0 (And.intro f2 hpn))))
   have hki : ((g0 - D + 1).toNat : Int) = g0 - D + 1 := by omega
   have KI := zaa.mk (And.intro hki (And.intro hDg hg1))
   clear hit e5 e6 e7 e8 htm hd y1 y2 y3 y4 f1 f2 f3 f4 f5 f6 hpn hY0 hD0 hDg hg1 hki hD ht0 hy0 hGG
   go_loopg [14] (g0 - D + 1).toNat (fun kg v14 wi => ∃ g : Int, v14 = .int .u64 g ∧ zaa (D ≤ g ∧ g < 4294967296 ∧ (kg : Int) = g - D + 1) ∧ zaa (DW w gl La.length cl gb cb gq Q0.length cq i.toNat L Y Q P wi))
   case atStart => exact ⟨g0, rfl, ⟨KI.out.2.1, KI.out.2.2, KI.out.1⟩, HD⟩
   case round =>
    clear KI HD
    obtain ⟨g, rfl, HI, HD⟩ := hrel
    obtain ⟨hD, hD0, hY0, hPU, hpn⟩ := HG.out
    obtain ⟨i1, i2, i3⟩ := HI.out
    obtain ⟨kq, rfl⟩ : ∃ m, gk = m + 1 := ⟨gk - 1, by omega⟩
    obtain ⟨ko, kt, kp, kc, G2, O, TP, hko, hkt, hkp, hkc, hmi⟩ := zld g Y P FY.out.2.2.2 hPU (by omega) i2 (by have := FY.out.1; have := FN.out; omega) (by have := HPl.out.1; have := FN.out; omega)
    have KO := zaa.mk hko
    have KT := zaa.mk hkt
    have KP := zaa.mk hkp
    have hKL : zau.f P = some P := by unfold zau.f; rw [if_pos (by have := HPl.out.1; have := FN.out; omega)]
    have KL := zaa.mk hKL
    have hPc : P.length ≤ cl - i.toNat := by have := HPl.out; have := E5.out.1; have := FL.out.1; have := FN.out; have := E5.out.2.2.2.2.2.1; omega
    have PC := zaa.mk hPc
    obtain ⟨c2, hc2⟩ : ∃ c, zgb (g * lv Y) (lv P) = c := ⟨_, rfl⟩
    rw [hc2] at hkc
    have KC := zaa.mk hkc
    have hdiv := zhd (V := lv P) (g := g) hY0
    rw [hD] at hdiv
    have hcl := zql (a := g * lv Y) (b := lv P)
    rw [hc2] at hcl
    by_cases hgd : D < g
    ·have hcc : c2 = 1 := hcl.2 (hdiv.1 hgd)
     have c4b : decide (c2 ≤ 0) = false := decide_eq_false (by omega)
     obtain ⟨g', hg'⟩ : ∃ g', IntKind.u64.wrap (g - 1) = g' := ⟨_, rfl⟩
     have eg' : g' = g - 1 := by rw [← hg', zcg _ (by omega) (by omega)]
     have NX := zaa.mk (show D ≤ g' ∧ g' < 4294967296 ∧ (kq : Int) = g' - D + 1 by omega)
     clear hdiv hcl hgd hcc hc2 hkc hKL hPc hko hkt hkp hmi hD hD0 hY0 hPU hpn i1 i2 i3 eg'
     go_wp2_with (first
      |(go_at_call 137; (with_reducible refine (zbJ.rows ko g G2 _ KO.out).mono ?_); rintro e w3 ⟨v3, rfl, ho, hb⟩; have n0_ := zaa.mk (HD.out.below hb); clear HD; have HD := n0_; have HO := zaa.mk ho; clear n0_ ho hb; obtain ⟨Ao, co, eo⟩ := Kd.zaC HO.out; subst eo)
      |(go_at_call 136; (with_reducible refine (zaG.calls kt _ _ G2 _ _ Y O _ (Kd.zax HO.out).2.2 (Kd.zax HO.out).2.1 (Kd.zax HD.out.y).2.2 (Kd.zax HD.out.y).2.1 KT.out).mono ?_); rintro e w4 ⟨v4, rfl, ho, hb⟩; have n0_ := zaa.mk (HD.out.below hb); clear HD HO; have HD := n0_; have HO := zaa.mk ho; clear n0_ ho hb; obtain ⟨At, ct, et⟩ := Kd.zbe HO.out; subst et)
      |(go_at_call 90; (with_reducible refine (zau.calls _ _ P P _ HD.out.p PC.out KL.out).mono ?_); rintro e w5 ⟨v5, rfl, ho, hb⟩; have n0_ := zaa.mk (HD.out.below hb); have n1_ := zaa.mk (Kd.zaW HO.out hb); clear HD HO; have HD := n0_; have HO := n1_; have HO5 := zaa.mk ho; clear n0_ n1_ ho hb; obtain ⟨Ac, cc5, ec⟩ := Kd.zaC HO5.out; subst ec)
      |(go_at_call 167; (with_reducible refine (zdt kp _ _ P TP _ (Kd.zax HO5.out).2.2 (Kd.zax HO5.out).2.1 KP.out).mono ?_); rintro e w6 ⟨m6, rfl, hm6, hb⟩; (obtain rfl : m6 = TP.length := by rw [hm6.2, List.length_take]; omega); have n0_ := zaa.mk (HD.out.below hb); have n1_ := zaa.mk (Kd.zaW HO.out hb); have n2_ := zaa.mk (Kd.zaS (zjH HO5.out hm6) hb); clear HD HO HO5; have HD := n0_; have HO := n1_; have HO6 := n2_; clear n0_ n1_ n2_ hm6 hb)
      |(go_at_call 187; (with_reducible refine (zaI.calls kc _ _ O _ _ TP c2 _ (Kd.zaq HO.out).2.2 (Kd.zaq HO.out).2.1 (Kd.zax HO6.out).2.2 (Kd.zax HO6.out).2.1 KC.out).mono ?_); rintro e w7 ⟨rfl, hb⟩; have n0_ := zaa.mk (HD.out.below hb); clear HD HO HO6; have HD := n0_; clear n0_ hb))
     go_roundg kq
     case measure => omega
     case rel => exact ⟨g', rfl, NX, HD⟩
    ·have hge : g = D := by omega
     obtain ⟨km, R, hkm, hRU, hRl, hRv⟩ := hmi (hdiv.2 (by omega))
     have KM := zaa.mk hkm
     have hcc : c2 ≤ 0 := hcl.1 (hdiv.2 (by omega))
     have c4b : decide (c2 ≤ 0) = true := decide_eq_true hcc
     obtain ⟨hn1, hn, hmn, b0, u0, u1, t1, hle⟩ := FN.out
     obtain ⟨hit, e5, e6, e7, e8, htm, hd⟩ := E5.out
     obtain ⟨y1, y2, y3, y4⟩ := FY.out
     obtain ⟨hPl, hP, hcl'⟩ := HPl.out
     obtain ⟨glb, gbq, wgl⟩ := GG.out
     obtain ⟨j9, hj9⟩ : ∃ j_ : Int, (wrap64 ((Y.length : Int) + 1)) = j_ := ⟨_, rfl⟩
     have hj9w : IntKind.i64.wrap ((Y.length : Int) + 1) = j9 := (zbs _).trans hj9
     have e9 : j9 = ((n + 2 : Nat) : Int) := by rw [← hj9]; unfold wrap64; omega
     obtain ⟨Z, hZ⟩ : ∃ Z, Z = List.replicate j9.toNat (0 : Int) := ⟨_, rfl⟩
     have hZl : Z.length = n + 2 := by rw [hZ, List.length_replicate]; omega
     obtain ⟨L1, hL1⟩ : ∃ L1, L1 = L.take i.toNat ++ (Z.take (min Z.length P.length) ++ L.drop (i.toNat + min Z.length P.length)) := ⟨_, rfl⟩
     obtain ⟨L2, hL2⟩ : ∃ L2, L2 = L1.take i.toNat ++ (R.take (min R.length P.length) ++ L1.drop (i.toNat + min R.length P.length)) := ⟨_, rfl⟩
     have hLl := hd.lL
     have hin : i.toNat = t := by omega
     have hL2' : L2 = L.take t ++ ((R ++ Z.drop R.length) ++ L.drop (t + (n + 1) + 1)) := by
      rw [hL2, hL1, hin, hPl]
      exact zle L Z R t (n + 2) hZl (by omega) (by omega)
     have hL1l : L1.length = L.length := by
      rw [hL1, List.length_append, List.length_append, List.length_take, List.length_take, List.length_drop]
      omega
     have NZ := zaa.mk hZ
     have NL1 := zaa.mk hL1
     have NL2 := zaa.mk hL2
     have c5b0 : decide (0 ≤ j9) = true := decide_eq_true (by omega)
     have c5b1 : (0 ≤ j9) = True := eq_true (by omega)
     have B9 := zaa.mk (show 0 ≤ j9 ∧ j9.toNat ≤ 70368744177664 by omega)
     have FIT := zaa.mk (show i.toNat + P.length ≤ L.length ∧ i.toNat + P.length ≤ L1.length by omega)
     have KIN := zaa.mk (show (Tryz.prog.info? 109).map (·.size) = some 1 by kernel_rfl)
     have nlb : some gl ≠ some gb := fun h => by injection h with h; omega
     have nlq : some gl ≠ some gq := fun h => by injection h with h; omega
     have nqb : some gq ≠ some gb := fun h => by injection h with h; omega
     have nql : some gq ≠ some gl := fun h => by injection h with h; omega
     have GN := zaa.mk (show (some gl ≠ (Value.slice (some ⟨gb, 0, none⟩) Y.length cb).ownBlock) ∧ (some gl ≠ (Value.slice (some ⟨gq, 0, none⟩) Q0.length cq).ownBlock) ∧ (some gq ≠ (Value.slice (some ⟨gb, 0, none⟩) Y.length cb).ownBlock) ∧ (some gq ≠ (Value.slice (some ⟨gl, 0, none⟩) La.length cl).ownBlock) ∧ True ∧ w.heap.size ≤ gq from ⟨nlb, nlq, nqb, nql, trivial, by omega⟩)
     have hqq := FQ.out
     have p13 : (0 ≤ i) = True := eq_true (by omega)
     have q13 : (i < (Q0.length : Int)) = True := eq_true (by omega)
     have PI := zaa.mk (show decide (0 ≤ i) = true ∧ decide (i < (Q0.length : Int)) = true from ⟨decide_eq_true (by omega), decide_eq_true (by omega)⟩)
     have hgm : g % 4294967296 = g := by omega
     obtain ⟨j10, hj10⟩ : ∃ j_ : Int, (wrap64 (i - 1)) = j_ := ⟨_, rfl⟩
     have hj10w : IntKind.i64.wrap (i - 1) = j10 := (zbs _).trans hj10
     have e10 : j10 = (t : Int) - 1 := by rw [← hj10]; unfold wrap64; omega
     have E10 := zaa.mk e10
     have HN : zaa (ziK (lv l0 * 2 ^ s) (lv l1 * 2 ^ s) l0.length (n + 1) t L2 (Q.set i.toNat g)) := ⟨by
      have hr := zmj hd (by have := FX.out.2.2.1; omega) (by have := FX.out.2.1; have := pow_pos n; omega) htm (by omega) (R ++ Z.drop R.length) (by rw [List.length_append, List.length_drop]; omega)
       (zpj.2 ⟨hRU, by rw [hZ]; exact zht (ziH _) _⟩) (by rw [hZ, List.drop_replicate, zk8, hRv, hP, ← y2, hge, ← hD, Int.emod_def, Int.mul_comm (lv Y)])
      rw [hP, ← y2, hD] at hr
      rw [hL2', hin, hge, ← y2]
      exact hr⟩
     clear hdiv hcl hgd hcc hc2 hkc hKL hPc hko hkt hkp hmi hD hD0 hY0 hPU hpn i1 i2 i3 hge hkm hRU hRl hRv hn1 hn hmn b0 u0 u1 t1 hle hit e5 e6 e7 e8 htm hd y1 y2 y3 y4 hPl hP hcl' glb gbq wgl hj9 e9 hZ hZl hL1 hL2 hLl hin hL2' hL1l nlb nlq nqb nql hqq hj10 e10
     go_wp2_with (first
      |(go_at_call 137; (with_reducible refine (zbJ.rows ko g G2 _ KO.out).mono ?_); rintro e w3 ⟨v3, rfl, ho, hb⟩; have n0_ := zaa.mk (HD.out.below hb); clear HD; have HD := n0_; have HO := zaa.mk ho; clear n0_ ho hb; obtain ⟨Ao, co, eo⟩ := Kd.zaC HO.out; subst eo)
      |(go_at_call 136; (with_reducible refine (zaG.calls kt _ _ G2 _ _ Y O _ (Kd.zax HO.out).2.2 (Kd.zax HO.out).2.1 (Kd.zax HD.out.y).2.2 (Kd.zax HD.out.y).2.1 KT.out).mono ?_); rintro e w4 ⟨v4, rfl, ho, hb⟩; have n0_ := zaa.mk (HD.out.below hb); clear HD HO; have HD := n0_; have HO := zaa.mk ho; clear n0_ ho hb; obtain ⟨At, ct, et⟩ := Kd.zbe HO.out; subst et)
      |(go_at_call 90; (with_reducible refine (zau.calls _ _ P P _ HD.out.p PC.out KL.out).mono ?_); rintro e w5 ⟨v5, rfl, ho, hb⟩; have n0_ := zaa.mk (HD.out.below hb); have n1_ := zaa.mk (Kd.zaW HO.out hb); clear HD HO; have HD := n0_; have HO := n1_; have HO5 := zaa.mk ho; clear n0_ n1_ ho hb; obtain ⟨Ac, cc5, ec⟩ := Kd.zaC HO5.out; subst ec)
      |(go_at_call 167; (with_reducible refine (zdt kp _ _ P TP _ (Kd.zax HO5.out).2.2 (Kd.zax HO5.out).2.1 KP.out).mono ?_); rintro e w6 ⟨m6, rfl, hm6, hb⟩; (obtain rfl : m6 = TP.length := by rw [hm6.2, List.length_take]; omega); have n0_ := zaa.mk (HD.out.below hb); have n1_ := zaa.mk (Kd.zaW HO.out hb); have n2_ := zaa.mk (Kd.zaS (zjH HO5.out hm6) hb); clear HD HO HO5; have HD := n0_; have HO := n1_; have HO6 := n2_; clear n0_ n1_ n2_ hm6 hb)
      |(go_at_call 187; (with_reducible refine (zaI.calls kc _ _ O _ _ TP c2 _ (Kd.zaq HO.out).2.2 (Kd.zaq HO.out).2.1 (Kd.zax HO6.out).2.2 (Kd.zax HO6.out).2.1 KC.out).mono ?_); rintro e w7 ⟨rfl, hb⟩; have n0_ := zaa.mk (HD.out.below hb); have n1_ := zaa.mk (Kd.zaW HO.out hb); clear HD HO HO6; have HD := n0_; have HO := n1_; clear n0_ n1_ hb)
      | (go_at_call 191; (with_reducible refine (za0.calls km _ _ P _ _ O R _ HD.out.p PC.out (Kd.zaq HO.out).2.2 (Kd.zaq HO.out).2.1 KM.out).mono ?_); rintro e w8 ⟨v8, rfl, ho, hb⟩; have hlt := Kd.zcH HD.out.l gl rfl; have HR := zaa.mk (Kd.zbH (ok' := fun k => some k ≠ some gl) ho (fun k hk he => by injection he with he; omega)); have n0_ := zaa.mk (HD.out.below hb); clear HD HO hlt; have HD := n0_; clear n0_ ho hb; obtain ⟨Ar, cr, er⟩ := Kd.zbe HR.out; subst er)
      | ((with_reducible refine zaA (N := 119) rfl ?_); refine Kd.zeH (Kd.int .u32) _ 109 rfl (N := 119) rfl 39 _ _ rfl j9 rfl rfl Tryz.underlying39 (.int .u32 0) 4 zcS rfl (by decide) (by omega) 0 (ok := fun _ => True) (okp := fun _ => True) rfl (fun _ hk => hk) trivial B9.out.1 (Nat.le_trans (Nat.mul_le_mul_right _ B9.out.2) (by omega)) (Below.refl _ _) (Nat.le_refl _) ?_; intro v9 w9 ho hb hg_ hnew_; clear hg_ hnew_; rw [← NZ.out] at ho; have HZ := zaa.mk ho; have n0_ := zaa.mk (HD.out.below hb); have n1_ := zaa.mk (Kd.zaW HR.out hb); clear HD HR; have HD := n0_; have HR := n1_; clear n0_ n1_ ho hb; obtain ⟨Az, cz, ez⟩ := Kd.zaC HZ.out; subst ez)
      | ((with_reducible refine zcO (b := .copy) (xs := #[.tmp 116, .tmp 119]) rfl ?_); refine ziL (enc := Value.int .u32) (h1 := fun _ => rfl) (0 : Int) w.heap.size rfl (.tmp 116) (.tmp 119) 39 39 109 rfl Tryz.underlying39 KIN.out gl i.toNat P.length (cl - i.toNat) La.length cl L Z Az Z.length cz (fun _ => True) rfl rfl HD.out.l (Kd.zax HZ.out).2.2 HD.out.b (zad HD.out.b) FIT.out.1 ?_; intro w10 ho hb hg; rw [← NL1.out] at ho; have HL := zaa.mk (ho : Kd.R (Kd.int .u32) 109 w10 w.heap.size (fun _ => True) (.slice (some ⟨gl, 0, none⟩) La.length cl) L1); have HB := zaa.mk hb; have HY := zaa.mk (Kd.zdx HD.out.y rfl hg GN.out.1); have HQ := zaa.mk (Kd.zdx HD.out.q rfl hg GN.out.2.1); have n1_ := zaa.mk (Kd.zpd HR.out hg (fun _ hk => hk)); clear HD HR HZ; have HR := n1_; clear n1_ ho hb hg)
      | ((with_reducible refine zcO (b := .copy) (xs := #[.tmp 121, .tmp 122]) rfl ?_); refine ziL (enc := Value.int .u32) (h1 := fun _ => rfl) (0 : Int) w.heap.size rfl (.tmp 121) (.tmp 122) 39 39 109 rfl Tryz.underlying39 KIN.out gl i.toNat P.length (cl - i.toNat) La.length cl L1 R Ar R.length cr (fun _ => True) rfl rfl HL.out (Kd.zaq HR.out).2.2 HB.out (zad HB.out) FIT.out.2 ?_; intro w11 ho hb hg; rw [← NL2.out] at ho; have n0_ := zaa.mk (ho : Kd.R (Kd.int .u32) 109 w11 w.heap.size (fun _ => True) (.slice (some ⟨gl, 0, none⟩) La.length cl) L2); have n1_ := zaa.mk hb; have n2_ := zaa.mk (Kd.zdx HY.out rfl hg GN.out.1); have n3_ := zaa.mk (Kd.zdx HQ.out rfl hg GN.out.2.1); clear HL HB HY HQ HR; have HL := n0_; have HB := n1_; have HY := n2_; have HQ := n3_; clear n0_ n1_ n2_ n3_ ho hb hg; obtain ⟨hx13, hf13⟩ := Kd.zbK 0 HQ.out i (of_decide_eq_true PI.out.1) (of_decide_eq_true PI.out.2); have HP13 := Kd.zde HQ.out i g))
     go_roundg (t + 1)
     case measure => have := HKO.out; omega
     case rel => exact ⟨j10, L2, Q.set i.toNat g, rfl, ⟨t, E10.out, rfl, HKO.out.2, HN.out⟩, ⟨Kd.zdx HL.out rfl HP13.2 GN.out.2.2.2.1⟩, ⟨Kd.zdx HY.out rfl HP13.2 GN.out.2.2.1⟩, ⟨HP13.1⟩, ⟨zbo HB.out GN.out.2.2.2.2.2⟩⟩
theorem zcm.calls (A0 : Option Addr) (c0 : Nat) (l0 : List Int) (A1 : Option Addr) (c1 : Nat) (l1 : List Int) (r1 r2 : List Int) (w : World) (hr0 : Kd.C (Kd.int .u32) w A0 l0.length l0) (hc0 : l0.length ≤ c0) (hr1 : Kd.C (Kd.int .u32) w A1 l1.length l1) (hc1 : l1.length ≤ c1) (h : zcm.f l0 l1 = some (r1, r2)) :
  Calls Tryz.prog 164 #[.slice A0 l0.length c0, .slice A1 l1.length c1] w fun e w' => ∃ v0_ v1_ : Value, e = .returned (.tuple #[v0_, v1_]) ∧ Kd.R (Kd.int .u32) 109 w' w.heap.size (fun k_ => some k_ ≠ v1_.ownBlock) v0_ r1 ∧ Kd.R (Kd.int .u32) 109 w' w.heap.size (fun k_ => some k_ ≠ v0_.ownBlock) v1_ r2 ∧ Below w.heap.size w w' := by
 unfold zcm.f at h
 by_cases hok : zjI l0 l1
 case neg => rw [if_neg hok] at h; cases h
 rw [if_pos hok] at h
 injection h with h
 injection h with h1 h2
 subst h1 h2
 rcases Int.lt_or_le (lv l0) (lv l1) with hlt | hle
 ·exact zjJ A0 c0 l0 A1 c1 l1 w hr0 hc0 hr1 hc1 hok hlt
 ·rcases Nat.lt_or_ge 1 l1.length with hn | hn
  ·exact zjK A0 c0 l0 A1 c1 l1 w hr0 hc0 hr1 hc1 hok hle (l1.length - 1) (by omega) (by omega)
  ·have hne : l1.length ≠ 0 := fun e => hok.2.2.2.2.1 (List.eq_nil_of_length_eq_zero e)
   exact zlc A0 c0 l0 A1 c1 l1 w hr0 hc0 hr1 hc1 hok hle (by omega)
end Go.Proofs.YtioofhilohmfbaaGreatDoor.P
end
section
open Go.RowKit PrintWords PrintLast PrintMore
namespace Go.Proofs.YtioofhilohmfbaaGreatDoor.P
attribute [local go_sem] za3 za4 zbh zbi zaT zaU za5 za6 zbn
def zct.f (a0 : Int) (a1 : Int) (a2 : Int) : Option (Int × Int) := some ((IntKind.u64.wrap ((IntKind.u64.wrap ((IntKind.u64.wrap (a0)) + (IntKind.u64.wrap (a1)))) + (IntKind.u64.wrap (a2)))) % 4294967296, ((IntKind.u64.wrap ((IntKind.u64.wrap ((IntKind.u64.wrap (a0)) + (IntKind.u64.wrap (a1)))) + (IntKind.u64.wrap (a2)))) / 4294967296) % 4294967296)
theorem zct.calls (a0 : Int) (a1 : Int) (a2 : Int) (r1 : Int) (r2 : Int) (w : World) (h : zct.f a0 a1 a2 = some (r1, r2)) :
  Calls Tryz.prog 166 #[.int .u32 a0, .int .u32 a1, .int .u32 a2] w fun e w' => e = .returned (.tuple #[.int .u32 r1, .int .u32 r2]) ∧ zaO w w' := by
 have H : (some ((IntKind.u64.wrap ((IntKind.u64.wrap ((IntKind.u64.wrap (a0)) + (IntKind.u64.wrap (a1)))) + (IntKind.u64.wrap (a2)))) % 4294967296, ((IntKind.u64.wrap ((IntKind.u64.wrap ((IntKind.u64.wrap (a0)) + (IntKind.u64.wrap (a1)))) + (IntKind.u64.wrap (a2)))) / 4294967296) % 4294967296)) = some (r1, r2) := h
 clear h
 simp only [Option.some.injEq, Prod.mk.injEq] at H
 obtain ⟨rfl, rfl⟩ := H
 go_enter Tryz.func166, Tryz.ntmps166
 go_wp2
 go_ret2
 exact ⟨by first | rfl | (simp; done) | (simp [*]; done), by repeat (first | exact zaO.refl _ | apply zaO.step)⟩
end Go.Proofs.YtioofhilohmfbaaGreatDoor.P
end

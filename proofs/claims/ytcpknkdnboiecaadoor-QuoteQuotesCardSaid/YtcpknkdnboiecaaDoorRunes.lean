/- quote.Runes: all runes of a text. Its premise: what the laid variables hold. -/
import Derived.RangeFuncBox
import Derived.Maps.AppendAt
import Derived.Test.YtcpknkdnboiecaaDoorEach
namespace Go.Proofs.YtcpknkdnboiecaaDoor
open Go Go.RowKit Go.Shelf Go.Proofs.YtcpknkdnboiecaaDoorW.PrintWords Go.Proofs.YtcpknkdnboiecaaDoor.P
attribute [local go_sem] Oper.semAt_some

theorem infoI32 : (Tryd.prog.info? 21).map (fun i => (i.zero, i.size, i.bytes)) = some (some (.int .i32 0), 1, 4) := by kernel_rfl

theorem EachKp.trans' {n₀ Bs : Nat} {A B C : World} (h : EachKp n₀ Bs A B) (k : EachKp n₀ Bs B C) : EachKp n₀ Bs A C :=
  ⟨h.1.trans k.1, fun v hv => ⟨(k.2 v (h.2 v hv).1).1, fun hf => (k.2 v (h.2 v hv).1).2 ((h.2 v hv).2 hf)⟩⟩
theorem EachKp.putObj' {n₀ Bs B : Nat} (hn : n₀ ≤ B) (W : World) (l : Nat) (o o' : Obj) (hl : B ≤ l) (ho : W.heap[l]? = some o) (hc : o.isCells = false) : EachKp n₀ Bs W (W.putObj l o') := by
  refine ⟨(Below.refl n₀ W).grown (grownBy_putObj' W l o') ?_ (fun k e => by cases e; omega), fun v hv => ?_⟩
  · have := (Array.getElem?_eq_some_iff.1 ho).1; omega
  · have hne : Bs ≠ l := by
      rintro rfl
      unfold World.cell? at hv
      rw [ho] at hv
      cases o <;> simp [Obj.isCells] at hc <;> simp at hv
    have hh : (W.putObj l o').heap[Bs]? = W.heap[Bs]? := World.putObj_heap_other hne
    constructor
    · unfold World.cell? at hv ⊢
      rw [hh]; exact hv
    · intro hf
      unfold World.frozen? at hf ⊢
      rw [hh]; exact hf

theorem EachSt.keeps {Bs B : Nat} (hB : Bs < B) : ∀ X Y, EachSt Bs X Y → ∀ (k : Nat) (o : Obj), B ≤ k → X.heap[k]? = some o → o.isCells = false → Y.heap[k]? = some o := by
  rintro X Y (h | ⟨v, rfl⟩) k o hk ho _
  · exact (h.block k (Array.getElem?_eq_some_iff.1 ho).1).trans ho
  · rw [Below.heap_setCell _ _ _ k (by show k ≠ Bs; omega)]; exact ho

theorem Boxed.below {W W' : World} {B : Nat} {t : TypeId} {v : Value} (h : Boxed W B t v) (hb : Below W.heap.size W W') : Boxed W' B t v := (hb.block B h.lt).trans h
theorem Boxed.other' {W : World} {B C : Nat} {t : TypeId} {v : Value} (h : Boxed W B t v) (hne : B ≠ C) (u : Value) : Boxed (W.setCell ⟨C, 0, none⟩ u) B t v := (Below.heap_setCell _ _ _ B hne).trans h

/-- What the body of a collecting loop over 'each' keeps. -/
def CollectI (w : World) (B0 Bs tB e tS : Nat) (f : List (Int × ByteArray) → List Value) (pre : List (Int × ByteArray)) (W : World) : Prop :=
  (∃ v, Boxed W B0 tB v ∧ W.ownsRow w.heap.size e 1 v (f pre).length (f pre)) ∧ (∃ sv : ByteArray, Boxed W Bs tS (.string sv)) ∧ Below w.heap.size w W

theorem CollectI.own {w : World} {B0 Bs tB e tS B : Nat} {f : List (Int × ByteArray) → List Value} (hB : w.heap.size ≤ B) : OwnFrom B (CollectI w B0 Bs tB e tS f) := by
  rintro s W W' row ⟨⟨v, hv, hr⟩, ⟨sv, hs⟩, hb⟩ hg hrow
  have hne : ∀ {C t : Nat} {u : Value}, Boxed W C t u → some C ≠ row := by
    intro C t u hC e'
    obtain ⟨_, o, ho, hc⟩ := hrow C e'.symm
    rw [show W.heap[C]? = _ from hC] at ho; cases ho; cases hc
  refine ⟨⟨v, hv.kept hg (hne hv), hr.kept hg ?_⟩, ⟨sv, hs.kept hg (hne hs)⟩, hb.grown hg hb.size (fun k e' => Nat.le_trans hB (hrow k e').1)⟩
  rcases hr.2 with ⟨rfl, _⟩ | ⟨g, cap, cur, rfl, _, hgb, _⟩
  · exact .inl rfl
  · refine .inr fun e' => ?_
    obtain ⟨_, o, ho, hc⟩ := hrow g (by simpa [Value.ownBlock] using e'.symm)
    rw [hgb] at ho; cases ho; cases hc

theorem CollectI.step {w : World} {B0 Bs tB e tS : Nat} {f : List (Int × ByteArray) → List Value} (hne : B0 ≠ Bs) (hts : tS ≠ e) (hle : w.heap.size ≤ Bs) : ∀ s X Y, CollectI w B0 Bs tB e tS f s X → EachSt Bs X Y → CollectI w B0 Bs tB e tS f s Y := by
  rintro s X Y ⟨⟨v, hv, hr⟩, ⟨sv, hs⟩, hb⟩ (h | ⟨u, rfl⟩)
  · exact ⟨⟨v, Boxed.below hv h, pw_own_below hr h⟩, ⟨sv, Boxed.below hs h⟩, hb.trans (h.mono hb.size)⟩
  · refine ⟨⟨v, Boxed.other' hv hne _, hr.kept (grownBy_setCell' X Bs _) (.inr (hs.not_row hts hr).symm)⟩, ⟨u, hs.set _⟩, hb.setCell (p := ⟨Bs, 0, none⟩) hle _⟩

set_option maxRecDepth 100000 in
set_option maxHeartbeats 4000000 in
theorem runes_calls (s : ByteArray) (hs : s.size ≤ 35184372088831) (w : World) (hG : Aside0 (G w)) : Calls Tryd.prog 19 #[.string s] w fun e w' =>
    ∃ v, e = .returned v ∧ w'.ownsRow w.heap.size 21 1 v (piecesOf s).length ((piecesOf s).map fun x => .int .i32 x.1) ∧ Below w.heap.size w w' := by
  refine (callsIn_wide (n := 5)).1 ?_
  refine callsIn_of_wp_marks Tryd.func19 rfl trivial ?_ rfl
  simp only [Tryd.ntmps19, List.size_toArray, List.length_cons, List.length_nil, Nat.reduceAdd, Nat.reduceSub, Array.replicate_succ, Array.replicate_zero, List.push_toArray, List.append_toArray, List.nil_append, List.cons_append]
  gi_wp2_with (refine ⟨trivial, ?_⟩; gi_at_call 26; refine (callsIn_wide.2 (each_calls s _)).mono ?_; rintro e w1 ⟨rfl, rfl⟩)
  obtain ⟨Bs, hBs⟩ : ∃ Bs, Bs = w.heap.size + 1 := ⟨_, rfl⟩
  have hsz : ((w.alloc (.cells #[.slice none 0 0] 32)).alloc (.cells #[.string s] 9)).heap.size = w.heap.size + 2 := by simp
  have hb1 : Below w.heap.size w ((w.alloc (.cells #[.slice none 0 0] 32)).alloc (.cells #[.string s] 9)) := ((Below.refl _ w).alloc (Nat.le_refl _) _).alloc (by simp) _
  have bx0 : Boxed ((w.alloc (.cells #[.slice none 0 0] 32)).alloc (.cells #[.string s] 9)) w.heap.size 32 (.slice none 0 0) := (Boxed.new w _ _).alloc _
  have bx1 : Boxed ((w.alloc (.cells #[.slice none 0 0] 32)).alloc (.cells #[.string s] 9)) (w.heap.size + 1) 9 (.string s) := by
    have := Boxed.new (w.alloc (.cells #[.slice none 0 0] 32)) 9 (.string s)
    rwa [World.size_alloc] at this
  refine wpIn_rangeSteps rfl (by omega) (gf := 39) (lb := #[.pointer (some ⟨w.heap.size + 1, 0, none⟩)]) rfl trivial (enters_of Tryd.func39 (by kernel_rfl) rfl)
    (each1_steps (5 - 1) (by omega) s (by omega) (w.heap.size + 1) w _ hG hb1 (by omega) bx1.cell bx1.frozen)
    (fun h k => h.trans' k) (fun W l o o' hl ho hc _ => EachKp.putObj' (Nat.le_refl _) W l o o' (by rw [hsz] at hl; omega) ho hc)
    (EachSt.keeps (by rw [hsz]; omega)) (Below.refl _ _) (fun _ => rfl)
    (CollectI w w.heap.size (w.heap.size + 1) 32 21 9 (fun pre => pre.map fun x => .int .i32 x.1)) (fun _ _ _ => False)
    (CollectI.own (by rw [hsz]; omega)) (fun _ _ _ _ _ h => h.elim)
    (CollectI.step (by omega) (by decide) (by omega)) (fun _ _ _ _ h => h.elim)
    ⟨⟨_, bx0, World.ownsRow_nil _ _ _ _⟩, ⟨s, bx1⟩, hb1⟩
    (fun x => { tmps := #[.string s, undef, .pointer (some ⟨w.heap.size, 0, none⟩), .int .i32 x.1, .string s, .func (.func 39) #[] #[.pointer (some ⟨w.heap.size + 1, 0, none⟩)], .int .i32 x.1, .string x.2, undef, undef, undef, undef, undef], defers := [] }) ?assign ?body ?done ?stop
  case assign =>
    intro l x W K hK
    gi_wp2
    exact hK
  case body =>
    rintro l pre x W ⟨⟨v, hv, hrow⟩, ⟨sv, hsv⟩, hB⟩ hal
    have hlen : pre.length + 1 ≤ 35184372088832 := by
      have h1 := hal.length_le
      have h2 := piecesOf_length s
      simp at h1; omega
    have hrow' : W.ownsRow w.heap.size 21 1 v pre.length (pre.map fun x => Value.int .i32 x.1) := by
      have e : (pre.map fun x => Value.int .i32 x.1).length = pre.length := by simp
      rw [← e]; exact hrow
    clear hrow
    have hc := hv.cell
    obtain ⟨i0, hi, hz0, hz1, hz2⟩ := info_parts infoI32
    gi_wp2_with (gi_at_builtin; refine wpListIn_append_own _ rfl _ _ 32 rfl w.heap.size 21 i0 (.int .i32 0) 1 4 Tryd.underlying32 hi hz0 hz1 hz2 rfl (by decide) _ _ _ rfl (hrow'.alloc _) ⟨W.heap.size, 0, none⟩ 1 1 [.int .i32 x.1] rfl rfl (cell_one_new _ _ _) ?c2 ?c3 ?c4 ?c5 ?_)
    case c2 => simp [Value.oneCell']
    case c3 => unfold maxLen; omega
    case c4 => omega
    case c5 => have := hB.size; simp; omega
    intro v' w1 hown' hgrow _
    obtain ⟨g', cap', rfl⟩ := ownsRow_succ hown'
    obtain ⟨hv1, hv2, hr2, hk2, hb2⟩ := hv.appended (by decide) hrow' hB.size (Nat.le_refl _) hown' hgrow
    have hc1 := hv1.cell
    have hf1 := hv1.frozen
    gi_wp2
    have hs2 : Boxed (w1.setCell ⟨w.heap.size, 0, none⟩ (.slice (some ⟨g', 0, none⟩) (pre.length + 1) cap')) (w.heap.size + 1) 9 (.string sv) :=
      Boxed.other' ((hsv.alloc _).kept hgrow (hsv.not_row (by decide) hrow')) (by omega) _
    refine ⟨hk2.from _, ⟨hb2, fun u hu => ?_⟩, ⟨_, hv2, ?_⟩, ⟨sv, hs2⟩, hB.trans hb2⟩
    · rw [hsv.cell] at hu
      cases hu
      exact ⟨hs2.cell, fun _ => hs2.frozen⟩
    · simpa using hr2
  case done =>
    rintro D ys W hD rfl ⟨⟨v, hv, hrow⟩, ⟨sv, hsv⟩, hB⟩ hK
    have hc := hv.cell
    have hf := hv.frozen
    obtain ⟨ao, an, ac, rfl⟩ : ∃ ao an ac, v = .slice ao an ac := by
      rcases hrow.2 with ⟨rfl, _⟩ | ⟨g, cap, cur, rfl, _⟩
      · exact ⟨_, _, _, rfl⟩
      · exact ⟨_, _, _, rfl⟩
    gi_wp2
    have hK' := (KeepsOthers.setCell W ⟨w.heap.size, 0, none⟩ (.slice ao an ac)).same D _ hK rfl
    have hD' : w.heap.size + 2 ≤ D := by rw [hsz] at hD; exact hD
    refine ⟨by simp, .inl ⟨_, _, rfl, run_takeDeferred hK', ?_⟩⟩
    have hc2 : ((W.setCell ⟨w.heap.size, 0, none⟩ (.slice ao an ac)).putObj D (.deferred none)).cell? ⟨w.heap.size, 0, none⟩ = some (.slice ao an ac) := by
      have e : ((W.setCell ⟨w.heap.size, 0, none⟩ (.slice ao an ac)).putObj D (.deferred none)).heap[w.heap.size]? = (W.setCell ⟨w.heap.size, 0, none⟩ (.slice ao an ac)).heap[w.heap.size]? := World.putObj_heap_other (by omega)
      exact (show Boxed _ w.heap.size 32 (.slice ao an ac) from e.trans (hv.set _)).cell
    refine ⟨.slice ao an ac, by simp [results, Tryd.results19, go_sem, hc2], _, rfl, ?_, ?_⟩
    · have h2 := ownsRow_putObj (hrow.kept (grownBy_setCell' W w.heap.size (.slice ao an ac)) (.inr (hv.not_row (by decide) hrow).symm)) (.deferred none) hK' rfl
      simpa using h2
    · exact (hB.setCell (p := ⟨w.heap.size, 0, none⟩) (Nat.le_refl _) _).trans (belowK_b (w := w) (Nat.le_refl _) _ D _ _ (by omega) hK' rfl rfl)
  case stop =>
    rintro D c pre W _ _ h _
    exact h.elim
end Go.Proofs.YtcpknkdnboiecaaDoor
namespace Go.Proofs.YtcpknkdnboiecaaDoor.P
open Go Go.RowKit Go.Proofs.YtcpknkdnboiecaaDoorW.PrintWords

def quote_Runes.f (a0 : ByteArray) : Option (List Int) := if a0.size ≤ 35184372088831 then some ((piecesOf a0).map fun x => x.1) else none

theorem quote_Runes.calls (a0 : ByteArray) (r : List Int) (w : World) (hG : Aside0 (G w)) (h : quote_Runes.f a0 = some r) :
    Calls Tryd.prog 19 #[.string a0] w fun e w' => ∃ v0_ : Value, e = .returned v0_ ∧ Kd.R (Kd.int .i32) 21 w' w.heap.size (fun _ => True) v0_ r ∧ Below w.heap.size w w' := by
  unfold quote_Runes.f at h
  split at h
  · cases h
    refine (runes_calls a0 ‹_› w hG).mono ?_
    rintro e w' ⟨v, rfl, ho, hb⟩
    refine ⟨v, rfl, Kd.R_of_own (enc := Value.int .i32) (h1 := fun _ => rfl) ?_ (fun _ _ => trivial), hb⟩
    simpa [encs, Function.comp_def] using ho
  · cases h
end Go.Proofs.YtcpknkdnboiecaaDoor.P

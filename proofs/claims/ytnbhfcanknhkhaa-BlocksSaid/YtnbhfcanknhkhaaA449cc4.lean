/- Texts of this claim, one behind the other: FT, FW, F33, FB, F14, F54, F37, F68, F69, F61, F53, F59, F60, F36, F62, F63, F38, F73, F70, RepBase, F64, F65. -/
import Derived.Test.YtnbhfcanknhkhaaProg
import Derived.Below
import Derived.Deep.Draws
import Derived.Deep.AppendLies
import Derived.Maps.AppendAt
import Derived.OwnWalk
import Derived.Laws.BytesArg
import Derived.Laws.MakeOwn
import Derived.Laws.OwnMore
import Derived.Deep.OwnRows
import Derived.Tactics
import Derived.Lib.ConvBytes
import Derived.Laws.Slices
import Derived.WalkKit
import Derived.KernelRfl
import Derived.RowKit3
import Derived.Deep.LoopGhost
import Derived.Deep.QuietTactic
import Derived.BigQuiet
import Derived.WideLaws
import Derived.Deep.DeepCutAuto
import Derived.Deep.CutBlock
import Derived.Deep.RegionHeld3
import Derived.Laws.Rows
import Derived.Lib.AppendStr
import Derived.ArgAppend
import Derived.Laws.IdiomCopy
import Derived.OrdersHeld
import Derived.Laws.BitsLemmas
import Derived.RowKit
import Derived.Test.YtnbhfcanknhkhaaWWords
import Derived.Test.YtnbhfcanknhkhaaWLast
import Derived.Test.YtnbhfcanknhkhaaWTab
import Derived.Test.YtnbhfcanknhkhaaWFour
import Derived.Test.YtnbhfcanknhkhaaWQPut
import Derived.Test.YtnbhfcanknhkhaaWApart
import Derived.Test.YtnbhfcanknhkhaaWArr
import Derived.Test.YtnbhfcanknhkhaaWZeros
import Derived.Test.YtnbhfcanknhkhaaWFoot
import Derived.Test.YtnbhfcanknhkhaaWKept
import Derived.Test.YtnbhfcanknhkhaaWShare
import Derived.Test.YtnbhfcanknhkhaaWN
import Derived.Test.YtnbhfcanknhkhaaWFootNe
import Derived.Test.YtnbhfcanknhkhaaWAt
import Derived.Test.YtnbhfcanknhkhaaWEqStruct
import Derived.Test.YtnbhfcanknhkhaaWRepsOne
import Derived.Test.YtnbhfcanknhkhaaWInv
import Derived.Test.YtnbhfcanknhkhaaWInvWords
import Derived.Test.YtnbhfcanknhkhaaWGuard
import Derived.Test.YtnbhfcanknhkhaaWNEv
import Derived.Test.YtnbhfcanknhkhaaWMore
import Derived.Laws.CopyOwn
import Derived.Deep.RegionLaw
section
namespace Go.Proofs.Ytnbhfcanknhkhaa.PAll
open Go.RowKit Go.Proofs.YtnbhfcanknhkhaaW.PrintWords Go.Proofs.YtnbhfcanknhkhaaW.PrintLast Go.Proofs.YtnbhfcanknhkhaaW.PrintMore
attribute [local go_sem] max2_int min2_int max_two min_two max_three min_three max_four min_four   -- for this text's walks alone
set_option linter.unusedVariables false
set_option linter.unusedSimpArgs false
set_option maxHeartbeats 8000000
set_option maxRecDepth 100000



def errW : Option Int → Value
  | none => .nilIface
  | some c => .iface 0 (.int .i64 c)
theorem eWn : errW none = .nilIface := rfl
theorem eWs (c : Int) : errW (some c) = .iface 0 (.int .i64 c) := rfl

theorem info3 : (Try.prog.info? 3).map (fun i => (i.zero, i.size, i.bytes)) = some (some (.int .i64 0), 1, 8) := by kernel_rfl
theorem info4 : (Try.prog.info? 4).map (fun i => (i.zero, i.size, i.bytes)) = some (some (.bool false), 1, 1) := by kernel_rfl
theorem info53 : (Try.prog.info? 53).map (fun i => (i.zero, i.size, i.bytes)) = some (some (.agg #[(.int .i64 0), (.int .i64 0), (.int .i64 0)]), 3, 24) := by kernel_rfl
-- the values' own types
/-! #### struct type 53 -/
structure S53 where
  f0 : Int
  f1 : Int
  f2 : Int
def z53 : S53 := ⟨(0 : Int), (0 : Int), (0 : Int)⟩
def k53 : Kd S53 := Kd.iso (Kd.pair (Kd.int .i64) (Kd.pair (Kd.int .i64) (Kd.int .i64))) (fun x : S53 => (x.f0, x.f1, x.f2))
theorem k53_heap : Kd.Heap k53 := Kd.heap_iso _ (Kd.heap_pair (Kd.heap_int .i64) (Kd.heap_pair (Kd.heap_int .i64) (Kd.heap_int .i64)))
theorem k53_open {w : World} {x : S53} {cs : List Value} (h : k53.K w x cs) : cs = [.int .i64 x.f0, .int .i64 x.f1, .int .i64 x.f2] := by
  obtain ⟨_, _, rfl, rfl, ⟨_, _, rfl, rfl, rfl⟩⟩ := h
  exact rfl
theorem k53_openM {w : World} {base : Nat} {ok : Nat → Prop} {x : S53} {cs : List Value} (h : k53.M w base ok x cs) : cs = [.int .i64 x.f0, .int .i64 x.f1, .int .i64 x.f2] := by
  obtain ⟨_, _, rfl, rfl, ⟨_, _, rfl, rfl, rfl⟩⟩ := h
  exact rfl
theorem k53_mk (w : World) (x : S53)  : k53.K w x [.int .i64 x.f0, .int .i64 x.f1, .int .i64 x.f2] := ⟨[.int .i64 x.f0], [.int .i64 x.f1, .int .i64 x.f2], rfl, rfl, ⟨[.int .i64 x.f1], [.int .i64 x.f2], rfl, rfl, rfl⟩⟩
theorem k53_mkM (w : World) (base : Nat) (ok : Nat → Prop) (x : S53)  : k53.M w base ok x [.int .i64 x.f0, .int .i64 x.f1, .int .i64 x.f2] := ⟨[.int .i64 x.f0], [.int .i64 x.f1, .int .i64 x.f2], rfl, rfl, ⟨[.int .i64 x.f1], [.int .i64 x.f2], rfl, rfl, rfl⟩⟩
def rd_T53 (xs : List S53) (i : Int) : S53 := xs.getD i.toNat z53
theorem at_T53 {w : World} {A : Option Addr} {n : Nat} {xs : List S53} (h : Kd.C k53 w A n xs) (i : Int) (h0 : 0 ≤ i) (h1 : i < n) : ∃ ad , A = some ad ∧ w.cell? (ad.add (i.toNat * 3)) = some (.int .i64 (rd_T53 xs i).f0) ∧ w.cell? ⟨(ad.add (i.toNat * 3)).block, (ad.add (i.toNat * 3)).off + 1, none⟩ = some (.int .i64 (rd_T53 xs i).f1) ∧ w.cell? ⟨(ad.add (i.toNat * 3)).block, (ad.add (i.toNat * 3)).off + 2, none⟩ = some (.int .i64 (rd_T53 xs i).f2) := by
  obtain ⟨ad, c, e, _, hK, hc0⟩ := Kd.C_get h z53 i h0 h1
  have hc : ∀ j u, c[j]? = some u → w.cell? (ad.add (i.toNat * 3 + j)) = some u := hc0
  obtain rfl := k53_open hK
  exact ⟨ad, e, hc 0 _ rfl, by rw [← add_field _ _ 1 (by omega)]; exact hc 1 _ rfl, by rw [← add_field _ _ 2 (by omega)]; exact hc 2 _ rfl⟩
theorem ak {p : Prop} (h : p) : Aside0 p := ⟨h⟩
theorem od {p : Prop} [Decidable p] (h : decide p = true := by first | (with_reducible assumption) | assumption) : p := of_decide_eq_true h
theorem bkat {w : World} {g : Nat} {t : TypeId} {cs : Array Value} (h : w.heap[g]? = some (.cells cs t (0, 0))) (i : Nat) {v : Value} (hv : cs[i]? = some v := by rfl) : w.cell? ⟨g, i, none⟩ = some v := (blk_cell h i).trans hv
theorem ds {p : Prop} (h : p := by first | rfl | (simp; done) | (simp [*]; done)) : p := h
theorem de {p : Prop} (h : p := by first | rfl | (simp [eWn, eWs] <;> rfl) | (simp [*, eWn, eWs] <;> rfl)) : p := h
end Go.Proofs.Ytnbhfcanknhkhaa.PAll
end

section
namespace Go.Proofs.Ytnbhfcanknhkhaa.PAll
open Go.RowKit Go.Proofs.YtnbhfcanknhkhaaW.PrintWords Go.Proofs.YtnbhfcanknhkhaaW.PrintLast Go.Proofs.YtnbhfcanknhkhaaW.PrintMore
set_option linter.unusedVariables false
set_option maxHeartbeats 8000000
set_option maxRecDepth 100000
def mk (n k : Nat) : Array Bool := ((List.range n).map (Nat.testBit k)).toArray
section
variable {P : Program} {ops : Array Oper} {Q : Exit → Act → World → Prop} {md : Region.Mode} {S : World → Prop} {ds : List Nat} {T : Bool × List (List Nat × List Nat)} {B : List Nat} {oi : Oper} {v : Value} {fuel : Nat} {l : Array Bool} {a a' : Act} {w : World}
theorem pu (i N : Nat) (l' : Array Bool) (HT : Aside0 (rtab md ops = T)) (h : wpAnyLast P md ops Q S ds fuel l' a' w) (hi : ops[i]? = some oi := by rfl) (hN : oi.dst = some N := by rfl)
    (hc : anyT T l.toList l'.toList i = true := by kernel_rfl) (hQ : ∀ c a w, Q (.panic c) (a.put oi.dst v) w → Q (.panic c) a w := by exact fun _ _ _ h => h)
    (hy : Yields P ops oi v a := by (refine Or.inl ⟨by rfl, ?_⟩; intro w'; go_simp; with_reducible rfl))
    (ha : a.put (some N) v = a' := by (simp only [Act.put, List.setIfInBounds_toArray, List.set_cons_zero, List.set_cons_succ, i64_w, i32_w]; rfl)) : wpAnyLast P md ops Q S ds (fuel + 1) l a w :=
  pure_ l' hi hN (any_of HT.out hc) hQ hy ha h
theorem ta (i N : Nat) (l' : Array Bool) (hi : ops[i]? = some oi) (hN : oi.dst = some N) (HT : Aside0 (rtab md ops = T)) (HW : Aside0 (waitsOk T.2 B = true)) (hS : S w) (hy : YieldsIf P ops S oi v a) (h : wpAnyLast P md ops Q S ds fuel l' a' w)
    (hc : takeW T B ds l.toList l'.toList i = true := by kernel_rfl) (hQ : ∀ c a w, Q (.panic c) (a.put oi.dst v) w → Q (.panic c) a w := by exact fun _ _ _ h => h)
    (ha : a.put (some N) v = a' := by (simp only [Act.put, List.setIfInBounds_toArray, List.set_cons_zero, List.set_cons_succ, i64_w, i32_w]; rfl)) : wpAnyLast P md ops Q S ds (fuel + 1) l a w :=
  take_ l' hi hN (take_ofW HT.out HW.out hc) hQ hy hS ha h
theorem po (i N : Nat) (l' : Array Bool) (HT : Aside0 (rtab md ops = T)) (h : wpAnyLast P md ops Q S ds fuel l' a' w) (hi : ops[i]? = some oi := by rfl) (hN : oi.dst = some N := by rfl)
    (hc : anyT T l.toList l'.toList i = true := by kernel_rfl) (hQ : ∀ c a w, Q (.panic c) (a.put oi.dst undef) w → Q (.panic c) a w := by exact fun _ _ _ h => h)
    (hw : Region.wanted oi (yielded ops a.tmps) = false := by rfl)
    (ha : a.put (some N) undef = a' := by (simp only [Act.put, List.setIfInBounds_toArray, List.set_cons_zero, List.set_cons_succ, i64_w, i32_w]; rfl)) : wpAnyLast P md ops Q S ds (fuel + 1) l a w :=
  pure_ l' hi hN (any_of HT.out hc) hQ (Or.inr ⟨hw, rfl⟩) ha h
theorem no {N : Option Tmp} (h : wpAnyLast P md ops Q S ds fuel l a' w) (ha : a.put N v = a' := by (simp only [Act.put, List.setIfInBounds_toArray, List.set_cons_zero, List.set_cons_succ, i64_w, i32_w]; rfl)) : wpAnyLast P md ops Q S ds fuel l (a.put N v) w := norm_ ha h
theorem nq (N : Nat) (h : wpAnyLast P md ops Q S ds fuel l a' w) (ha : a.put (some N) v = a' := by (simp only [Act.put, List.setIfInBounds_toArray, List.set_cons_zero, List.set_cons_succ, i64_w, i32_w]; rfl)) : wpAnyLast P md ops Q S ds fuel l (a.put (some N) v) w := norm_ ha h
theorem gl {rest : List Oper} {f : FuncId} {fn : Func} {os : Array Operand} {ts : Array TypeId} (N : Nat) (hf : P.funcs[f]? = some fn) (args : Array Value)
    (h : Calls P f args w fun e w' => ∃ v, e = .returned v ∧ wpList P ops Q rest (a.put (some N) v) w') (hd : oi.dst = some N := by rfl) (hg : oi.guard = none := by rfl) (hname : (fn.name == "runtime.NumGoroutine") = false := by kernel_rfl) (hb : fn.body.isSome = true := by rfl)
    (hop : oi.op = .call { callee := .value (.func f), args := os, argTypes := ts } := by rfl) (hargs : os.map a.eval = args := by ((try simp only [List.map_toArray, List.map_cons, List.map_nil]); first | done | rfl | (simp only [List.length_drop, List.length_take]; rfl))) : wpList P ops Q (oi :: rest) a w := goesL_ (some N) hd hg hf hname hb args hop hargs h
theorem gs {N : Option Tmp} {K : Act → World → Prop} {f : FuncId} {fn : Func} {os : Array Operand} {ts : Array TypeId} (hf : P.funcs[f]? = some fn) (args : Array Value)
    (h : Calls P f args w fun e w' => ∃ v, e = .returned v ∧ K (a.put N v) w') (hN : oi.dst = N := by rfl) (hw : Region.wanted oi (yielded ops a.tmps) = true := by rfl) (hname : (fn.name == "runtime.NumGoroutine") = false := by kernel_rfl) (hb : fn.body.isSome = true := by rfl)
    (hop : oi.op = .call { callee := .value (.func f), args := os, argTypes := ts } := by rfl) (hargs : os.map a.eval = args := by ((try simp only [List.map_toArray, List.map_cons, List.map_nil]); first | done | rfl | (simp only [List.length_drop, List.length_take]; rfl))) : if Region.wanted oi (yielded ops a.tmps) = true then Oper.wp P oi a w K Q else K (a.put N undef) w := goes_ hf hname hb args hw hN hop hargs h
end
section
open Go.RowKit Go.Proofs.YtnbhfcanknhkhaaW.PrintWords Go.Proofs.YtnbhfcanknhkhaaW.PrintLast Go.Proofs.YtnbhfcanknhkhaaW.PrintMore
theorem bq0 {P Q : Prop} (h : P)  (k : P → Q := by (intro h_; repeat (first | (with_reducible first | exact h_ | apply below_alloc | apply pw_below_drewN | apply below_drew1) | exact h_))) : Q := k h
theorem bq1 {P Q : Prop} {G0 : Prop} (h : P) (g0 : G0) (k : P → G0 → Q := by (intro h_ g0_; repeat (first | (with_reducible first | exact h_ | apply below_alloc | apply pw_below_drewN | apply below_drew1 | refine below_set ?_ g0_) | exact h_))) : Q := k h g0
theorem bq2 {P Q : Prop} {G0 : Prop} {G1 : Prop} (h : P) (g0 : G0) (g1 : G1) (k : P → G0 → G1 → Q := by (intro h_ g0_ g1_; repeat (first | (with_reducible first | exact h_ | apply below_alloc | apply pw_below_drewN | apply below_drew1 | refine below_set ?_ g0_ | refine below_set ?_ g1_) | exact h_))) : Q := k h g0 g1
theorem bq3 {P Q : Prop} {G0 : Prop} {G1 : Prop} {G2 : Prop} (h : P) (g0 : G0) (g1 : G1) (g2 : G2) (k : P → G0 → G1 → G2 → Q := by (intro h_ g0_ g1_ g2_; repeat (first | (with_reducible first | exact h_ | apply below_alloc | apply pw_below_drewN | apply below_drew1 | refine below_set ?_ g0_ | refine below_set ?_ g1_ | refine below_set ?_ g2_) | exact h_))) : Q := k h g0 g1 g2
theorem bq4 {P Q : Prop} {G0 : Prop} {G1 : Prop} {G2 : Prop} {G3 : Prop} (h : P) (g0 : G0) (g1 : G1) (g2 : G2) (g3 : G3) (k : P → G0 → G1 → G2 → G3 → Q := by (intro h_ g0_ g1_ g2_ g3_; repeat (first | (with_reducible first | exact h_ | apply below_alloc | apply pw_below_drewN | apply below_drew1 | refine below_set ?_ g0_ | refine below_set ?_ g1_ | refine below_set ?_ g2_ | refine below_set ?_ g3_) | exact h_))) : Q := k h g0 g1 g2 g3
theorem kq0 {P Q : Prop} (h : P)  (k : P → Q := by (intro h_; repeat (first | (with_reducible first | exact h_ | apply Kept.alloc | apply Kept.drewN | apply Kept.drew) | exact h_))) : Q := k h
theorem kq1 {P Q : Prop} {G0 : Prop} (h : P) (g0 : G0) (k : P → G0 → Q := by (intro h_ g0_; repeat (first | (with_reducible first | exact h_ | apply Kept.alloc | apply Kept.drewN | apply Kept.drew | refine Kept.setCell ?_ (.inr g0_) _) | exact h_))) : Q := k h g0
theorem bk {P Q : Prop} (h : P) (k : P → Q := by (intro h_; (with_reducible repeat (first | refine blk_drewN ?_ _ | refine blk_drew ?_ | refine blk_alloc ?_ _)); exact h_)) : Q := k h
theorem br {P Q : Prop} (h : P) (k : P → Q := by (intro h_; (with_reducible repeat (first | apply Kd.R_alloc | apply Kd.R_drewN | apply Kd.R_drew)); exact h_)) : Q := k h
theorem bc {P Q : Prop} (h : P) (k : P → Q := by (intro h_; repeat (first | exact h_ | (with_reducible refine Kd.C_alloc ?_ _) | (with_reducible refine Kd.C_drewN ?_ _) | (with_reducible refine Kd.C_drew ?_)))) : Q := k h
end
section
open Go.RowKit Go.Proofs.YtnbhfcanknhkhaaW.PrintWords Go.Proofs.YtnbhfcanknhkhaaW.PrintLast Go.Proofs.YtnbhfcanknhkhaaW.PrintMore
theorem bl {w w' : World} {g : Nat} {o : Obj} (h : w'.heap[g]? = some o) (k : Below w'.heap.size w' w := by ((repeat (first | with_reducible apply below_alloc | with_reducible apply pw_below_drewN | with_reducible apply below_drew1)); exact Below.refl _ _)) : w.heap[g]? = some o := blk_below h k
theorem rl {α : Type} {d : Kd α} {e base : Nat} {ok : Nat → Prop} {v : Value} {xs : List α} {w w' : World} (h : d.R e w' base ok v xs) (k : Below w'.heap.size w' w := by ((repeat (first | with_reducible apply below_alloc | with_reducible apply pw_below_drewN | with_reducible apply below_drew1)); exact Below.refl _ _)) : d.R e w base ok v xs := Kd.R_below h k
theorem bce {w w' : World} {a : Addr} {v : Value} (hB : Below w.heap.size w w') (h : w.cell? a = some v) : w'.cell? a = some v := (hB.cell (World.block_lt_of_cell? w _ h)).trans h
end
end Go.Proofs.Ytnbhfcanknhkhaa.PAll
end

section
namespace Go.Proofs.Ytnbhfcanknhkhaa.PAll
open Go.RowKit Go.Proofs.YtnbhfcanknhkhaaW.PrintWords Go.Proofs.YtnbhfcanknhkhaaW.PrintLast Go.Proofs.YtnbhfcanknhkhaaW.PrintMore
attribute [local go_sem] max2_int min2_int max_two min_two max_three min_three max_four min_four   -- for this text's walks alone
set_option linter.unusedVariables false
set_option linter.unusedSimpArgs false
set_option maxHeartbeats 8000000
set_option maxRecDepth 100000
def tw_CopyInts.f (l0 : List Int) : Option (List Int) := (some (([] : List Int) : List Int)).bind fun y101 => (if y101.length + l0.length < 17592186044416 then (some (y101 ++ l0)) else (none))
theorem tw_CopyInts.calls (A0 : Option Addr) (c0 : Nat) (l0 : List Int) (r : List Int) (w : World) (hr0 : Kd.C (Kd.int .i64) w A0 l0.length l0) (hc0 : l0.length ≤ c0) (h : tw_CopyInts.f l0 = some r) :
    Calls Try.prog 33 #[.slice A0 l0.length c0] w fun e w' => ∃ v0_ : Value, e = .returned (v0_) ∧ Kd.R (Kd.int .i64) 3 w' w.heap.size (fun _ => True) v0_ r ∧ Below w.heap.size w w' := by
  have HR0 := ak hr0; have HC0 := ak hc0; clear hr0 hc0; have HB := ak (Below.refl w.heap.size w); have H : ((some (([] : List Int) : List Int)).bind fun y101 => (if y101.length + l0.length < 17592186044416 then (some (y101 ++ l0)) else (none))) = some r := h; clear h
  obtain ⟨y101, hy101⟩ : ∃ y_ : List Int, y_ = (([] : List Int)) := ⟨_, rfl⟩
  replace H : (if y101.length + l0.length < 17592186044416 then (some (y101 ++ l0)) else (none)) = some r := by first | (rw [hy101]; with_reducible exact H) | (have H2_ := (Option.bind_some _ _).symm.trans H; rw [hy101]; with_reducible exact H2_) | (have H2_ := (Option.bind_some _ _).symm.trans H; with_reducible exact H2_) | with_reducible exact H | (rw [hy101]; exact H) | exact H
  have Ny101 := ak hy101; clear hy101
  by_cases c2 : y101.length + l0.length < 17592186044416
  · rw [if_pos c2] at H
    have LMc2 := ak c2; clear c2
    obtain ⟨y104, hy104⟩ : ∃ y_ : List Int, y_ = (y101 ++ l0) := ⟨_, rfl⟩
    replace H : (some y104) = some r := by first | (rw [hy104]; with_reducible exact H) | (have H2_ := (Option.bind_some _ _).symm.trans H; rw [hy104]; with_reducible exact H2_) | (have H2_ := (Option.bind_some _ _).symm.trans H; with_reducible exact H2_) | with_reducible exact H | (rw [hy104]; exact H) | exact H
    have Ny104 := ak hy104; clear hy104; obtain rfl := Option.some.inj H
    go_enter Try.func33, Try.ntmps33
    go_wp2_with (first | ((with_reducible refine gate_dst (N := 3) rfl ?_); refine Kd.R_lit (Kd.int .i64) _ 3 ?hg (N := 3) ?hd (xs := ([] : List Int)) (inner := []) (ok := fun _ => True) (okp := fun _ => True) ?hr ?hp (fun _ hk => hk) trivial (Below.refl _ _) (Nat.le_refl _) (by simp) ?_; (case hd => rfl); (case hg => rfl); (case hr => first | (go_simp; done) | (go_simp; rfl)); (case hp => exact (Reps.none _ _)); intro v102 w3 ho4 hb hg_ hnew_; clear hg_ hnew_; (first | rw [← Ny101.out] at ho4 | (simp only [Int.reduceToNat] at ho4; rw [← Ny101.out] at ho4)); have HO103 := ak (Kd.R_lower ho4 (below_size HB.out)); replace HB := ak (below_step HB.out hb); clear hb ho4) | ((with_reducible refine gate_builtin (b := .append) (xs := #[.tmp 3, .tmp 4]) rfl ?_); at_builtin; refine Kd.R_append_rows (Kd.int .i64) (w0 := w) w.heap.size rfl (.tmp 3) (.tmp 4) 25 3 (.int .i64 0) 8 rfl Try.underlying25 info3 rfl (by decide) (by omega) v102 y101 l0 _ _ _ (fun _ => True) (fun _ => False) rfl rfl ?aO ?aR (fun _ _ h => h) (fun _ h => h.elim) ?aF ?aB ?aS ?aL ?_; (case aR => exact (Kd.C_below HR0.out HB.out)); (case aB => exact HB.out); (case aF => exact (fun _ _ => trivial)); (case aO => exact HO103.out); (case aS => exact (below_size HB.out)); (case aL => have := LMc2.out; omega); intro v105 w5 ho hb hg hat; rw [← Ny104.out] at ho; replace HB := ak (hb); have HO106 := ak (ho); clear HO103; clear ho hb hg hat))
    go_ret
    exact ⟨_, de, by refine rl ?_; exact HO106.out, bq0 HB.out⟩
  · rw [if_neg c2] at H
    exact absurd H (by simp)

def kz : List Int := [(-7777), (-8888)]
theorem kz_len (l : List Int) : (l ++ kz).length = l.length + 2 := by simp [kz]
theorem kept_le {l : List Int} {c : Nat} (h : (l ++ kz).length ≤ c) : l.length ≤ c := by rw [kz_len] at h; omega
theorem kept_c {w : World} {A : Option Addr} {l : List Int} (h : Kd.C (Kd.int .i64) w A (l ++ kz).length (l ++ kz)) : Kd.C (Kd.int .i64) w A l.length l := by
  have h0 : ReadsOf (Value.int .i64) 0 w A (l ++ kz).length (l ++ kz) := Kd.reads_of_C h
  have h2 := h0.take_ l.length (by rw [kz_len]; omega)
  rw [List.take_left' rfl] at h2
  exact Kd.C_of_reads (h1 := fun _ => rfl) h2
theorem kept_0 (l : List Int) : rd (l ++ kz) (l.length : Int) = -7777 := by simp [rd, kz]
theorem kept_1 (l : List Int) : rd (l ++ kz) ((l.length : Int) + 1) = -8888 := by
  have h : ((l.length : Int) + 1).toNat = l.length + 1 := by omega
  simp [rd, kz, h, List.getElem?_append_right]
theorem kept_wrap (n : Nat) (j : Int) (h : n + 2 < 17592186044416) (h0 : 0 ≤ j) (h2 : j ≤ 2) : wrap64 ((n : Int) + j) = (n : Int) + j := by unfold wrap64; omega
/-- a value that is the front of an own row with the two marks behind it -/
def LentR (W : World) (b : Nat) (ok : Nat → Prop) (v : Value) (l : List Int) : Prop := ∃ A c, v = .slice A l.length c ∧ Kd.R (Kd.int .i64) 3 W b ok (.slice A (l ++ kz).length c) (l ++ kz)
theorem kept_v {W : World} {b : Nat} {ok : Nat → Prop} {v : Value} {l : List Int} (h : LentR W b ok v l) : ∃ v1, (∀ A c, v1 = .slice A (l ++ kz).length c → v = .slice A l.length c) ∧ Kd.R (Kd.int .i64) 3 W b ok v1 (l ++ kz) := by
  obtain ⟨A, c, rfl, h⟩ := h
  exact ⟨_, fun A1 c1 e => by injection e with e1 e2 e3; rw [e1, e3], h⟩
theorem kept_cut {P : Program} (t e : TypeId) {i : TypeInfo} (ht : P.underlying t = some (.slice e)) (hi : P.info? e = some i) (A : Option Addr) (n c : Nat) (j : Int) (h0 : 0 ≤ j) (hm : j ≤ c) :
    ∀ W : World, (Instr.slice t (.slice A n c) none (some (.int .i64 j)) none).run P W = .ok (.slice A j.toNat c) W := by
  intro W
  have hel : P.elem t = e := by simp [Program.elem, ht]
  have hu : P.underlying t = some (.slice (P.elem t)) := by rw [hel]; exact ht
  have ha : (A.map fun x => x.add 0) = A := by cases A <;> simp [Addr.add]
  rw [run_slice_h W t A n c hu .i64 j h0 (by omega), hel]
  simp [sizeOf, typeInfo, hi, sliced, Result.andThen, ha]
def tw_LendInts.f (l0 : List Int) : Option (List Int) := (tw_CopyInts.f l0).bind fun t107 => (if t107.length + 2 < 17592186044416 then (some t107) else none)
theorem tw_LendInts.calls (A0 : Option Addr) (c0 : Nat) (l0 : List Int) (r : List Int) (w : World) (hr0 : Kd.C (Kd.int .i64) w A0 l0.length l0) (hc0 : l0.length ≤ c0) (h : tw_LendInts.f l0 = some r) :
    Calls Try.prog 14 #[.slice A0 l0.length c0] w fun e w' => ∃ v0_ : Value, e = .returned (v0_) ∧ LentR w' w.heap.size (fun _ => True) v0_ r ∧ Below w.heap.size w w' := by
  have HR0 := ak hr0; have HC0 := ak hc0; clear hr0 hc0; have HB := ak (Below.refl w.heap.size w); replace h := Option.bind_eq_some_iff.mp h; obtain ⟨t107, A20, H⟩ := h; have A2 := ak A20
  have hl7 : t107 = l0 := by
    clear H A2; simp only [tw_CopyInts.f] at A20; simp only [Option.bind_some] at A20
    split at A20
    · rename_i h1; have := Option.some.inj A20; rw [← this]; simp
    · exact absurd A20 (by simp)
  clear A20
  by_cases c3 : t107.length + 2 < 17592186044416
  · rw [if_pos c3] at H
    obtain rfl : t107 = r := Option.some.inj H
    obtain ⟨y110, hy110⟩ : ∃ y_ : List Int, y_ = (([(-7777), (-8888)] : List Int)) := ⟨_, rfl⟩
    have hy110l : y110.length = 2 := by rw [hy110]; rfl
    have Ny110 := ak hy110; clear hy110; have LMc3 := ak (show t107.length + y110.length < 17592186044416 by rw [hy110l]; exact c3); clear c3
    obtain ⟨y113, hy113⟩ : ∃ y_ : List Int, y_ = (t107 ++ y110) := ⟨_, rfl⟩
    have hy113l : (l0.length : Int) ≤ (y113.length : Int) := by rw [hy113, List.length_append, hl7]; omega
    have Ny113 := ak hy113; clear hy113; have c4b0 := eq_true (show 0 ≤ (l0.length : Int) by omega); have c4b1 : decide (0 ≤ (l0.length : Int)) = true := dt (by omega); have c5b0 := eq_true hy113l; have c5b1 : decide ((l0.length : Int) ≤ (y113.length : Int)) = true := dt hy113l; clear hy113l
    go_enter Try.func14, Try.ntmps14
    go_wp2_with (first | ((with_reducible refine gate_callee (f := 33) rfl ?_); refine goesL_ (some 5) rfl rfl Try.func33 (by kernel_rfl) rfl #[.slice A0 l0.length c0] rfl (by (try simp only [List.map_toArray, List.map_cons, List.map_nil]); first | done | rfl | (simp only [List.length_drop, List.length_take]; rfl)) ?_; (with_reducible refine (tw_CopyInts.calls _ _ l0 t107 _ ?side1 ?side2 A2.out).mono ?_); (case side1 => exact HR0.out); (case side2 => exact HC0.out); rintro e w6 ⟨v108, rfl, ho0, hb⟩; refine ⟨_, rfl, ?_⟩; have HO109 := ak (Kd.R_lower ho0 (below_size HB.out)); replace HB := ak (below_step HB.out hb); (try clear hb); (try clear ho0)) | ((with_reducible refine gate_dst (N := 6) rfl ?_); refine Kd.R_lit (Kd.int .i64) _ 3 ?hg (N := 6) ?hd (xs := ([(-7777), (-8888)] : List Int)) (inner := [.int .i64 (-7777), .int .i64 (-8888)]) (ok := fun _ => True) (okp := fun _ => True) ?hr ?hp (fun _ hk => hk) trivial (Below.refl _ _) (Nat.le_refl _) (by simp) ?_; (case hd => rfl); (case hg => rfl); (case hr => first | (go_simp; done) | (go_simp; rfl)); (case hp => exact (Reps.one (show Kd.M (Kd.int .i64) _ _ _ (-7777) [.int .i64 (-7777)] from rfl) (Reps.one (show Kd.M (Kd.int .i64) _ _ _ (-8888) [.int .i64 (-8888)] from rfl) (Reps.none _ _)))); intro v111 w7 ho8 hb hg_ hnew_; clear hg_ hnew_; (first | rw [← Ny110.out] at ho8 | (simp only [Int.reduceToNat] at ho8; rw [← Ny110.out] at ho8)); have HO112 := ak (Kd.R_lower (Kd.R_new' ho8 (Kd.R_lt HO109.out)) (below_size HB.out)); replace HO109 := ak (Kd.R_elder' HO109.out (Kd.R_base ho8) hb); replace HB := ak (below_step HB.out hb); clear hb ho8; obtain ⟨Ao10, co10, eo10⟩ := Kd.R_slice HO112.out; subst eo10) | ((with_reducible refine gate_builtin (b := .append) (xs := #[.tmp 5, .tmp 6]) rfl ?_); at_builtin; refine Kd.R_append_rows (Kd.int .i64) (w0 := w) w.heap.size rfl (.tmp 5) (.tmp 6) 25 3 (.int .i64 0) 8 rfl Try.underlying25 info3 rfl (by decide) (by omega) v108 t107 y110 _ _ _ (fun k_ => some k_ ≠ (.slice Ao10 y110.length co10 : Value).ownBlock) (fun _ => False) rfl rfl ?aO ?aR (fun _ _ h => h) (fun _ h => h.elim) ?aF ?aB ?aS ?aL ?_; (case aR => exact (Kd.R_reads' HO112.out).2.2); (case aB => exact HB.out); (case aF => exact (fun k_ hk => Kd.fresh' (Kd.R_lt HO112.out) k_ hk)); (case aO => exact (by refine rl ?_; exact Kd.R_mono HO109.out (fun _ hk => hk.2))); (case aS => exact (below_size HB.out)); (case aL => have := LMc3.out; omega); intro v114 w9 ho hb hg hat; rw [← Ny113.out] at ho; replace HO112 := ak (Kd.R_after (ok := (fun _ => True)) HO112.out hg hat); replace HB := ak (hb); have HO115 := ak (ho); clear HO109; clear ho hb hg hat; obtain ⟨Ao11, co11, eo11⟩ := Kd.R_slice HO115.out; subst eo11; have q12 : ((l0.length : Int) : Int) ≤ ((y113.length : Int) : Int) := od; obtain ⟨i012, hi012, _, hsz12, _⟩ := info_parts info3; have hcut12 := cut_to (P := Try.prog) 25 3 .i64 Try.underlying25 hi012 Ao11 y113.length co11 (l0.length : Int) (od) q12 (Kd.R_reads' HO115.out).2.1; clear hi012 hsz12; replace q12 := eq_true q12))
    go_ret
    refine ⟨_, rfl, ⟨Ao11, co11, ?_, ?_⟩, bq0 HB.out⟩
    · subst hl7; rfl
    · have e7 : y113 = t107 ++ kz := by rw [Ny113.out, Ny110.out]; rfl
      have h9 := Kd.R_mono HO115.out (ok' := fun _ => True) (fun _ hk => trivial); rw [e7] at h9
      first | exact h9 | (rw [hl7] at h9; exact h9)
  · rw [if_neg c3] at H
    exact absurd H (by simp)
def graph_Has.f (a0_0 : Int) (l0_1 : List (S53)) (a1 : Int) : Option (Bool) := if a1 ≥ 0 then (some (decide (a1 < a0_0))) else (some false)
theorem graph_Has.calls (a0_0 : Int) (A0_1 : Option Addr) (c0_1 : Nat) (l0_1 : List (S53)) (a1 : Int) (r : Bool) (w : World) (hr0_1 : Kd.C k53 w A0_1 l0_1.length l0_1) (hc0_1 : l0_1.length ≤ c0_1) (h : graph_Has.f a0_0 l0_1 a1 = some r) :
    Calls Try.prog 54 #[.agg #[.int .i64 a0_0, .slice A0_1 l0_1.length c0_1], .int .i64 a1] w fun e w' => e = .returned (.bool r) ∧ Below w.heap.size w w' := by
  have hu24 := Try.underlying24; have HR0_1 := ak hr0_1; have HC0_1 := ak hc0_1; clear hr0_1 hc0_1; have HB := ak (Below.refl w.heap.size w); have H : (if a1 ≥ 0 then (some (decide (a1 < a0_0))) else (some false)) = some r := h; clear h
  by_cases c3 : a1 ≥ 0
  · rw [if_pos c3] at H
    have c3b0 : decide (0 ≤ a1) = true := dt c3; clear c3; obtain rfl := Option.some.inj H
    go_enter Try.func54, Try.ntmps54
    go_wp2_with (first | ((with_reducible refine gate_dst (N := 2) rfl ?_); refine box_event ?hg (N := 2) ?hd (cs := #[.int .i64 a0_0, .slice A0_1 l0_1.length c0_1]) (t := 24) ?hr ?_; (case hd => rfl); (case hg => rfl); (case hr => first | (go_simp; done) | (go_simp; rfl)); intro gb119 hg w4 hbox hb; have BK119 := ak (hbox); have GW119 := ak ((by rw [hg]; exact (below_size HB.out) : w.heap.size ≤ gb119)); have GE119 := ak ((by rw [hg]; exact (below_size HB.out) : w.heap.size ≤ gb119)); replace HB := ak (below_step HB.out hb); clear hb hbox hg; have hcz5_0 := bkat BK119.out 0; have hcz5_1 := bkat BK119.out 1; have hfz5_0 := bfz BK119.out 0; have hfz5_1 := bfz BK119.out 1))
    go_ret
    exact ⟨de, bq1 HB.out GE119.out⟩
  · rw [if_neg c3] at H
    have c3b0 : decide (0 ≤ a1) = false := df c3; clear c3; obtain rfl := Option.some.inj H
    go_enter Try.func54, Try.ntmps54
    go_wp2_with (first | ((with_reducible refine gate_dst (N := 2) rfl ?_); refine box_event ?hg (N := 2) ?hd (cs := #[.int .i64 a0_0, .slice A0_1 l0_1.length c0_1]) (t := 24) ?hr ?_; (case hd => rfl); (case hg => rfl); (case hr => first | (go_simp; done) | (go_simp; rfl)); intro gb119 hg w6 hbox hb; have BK119 := ak (hbox); have GW119 := ak ((by rw [hg]; exact (below_size HB.out) : w.heap.size ≤ gb119)); have GE119 := ak ((by rw [hg]; exact (below_size HB.out) : w.heap.size ≤ gb119)); replace HB := ak (below_step HB.out hb); clear hb hbox hg))
    go_ret
    exact ⟨de, bq1 HB.out GE119.out⟩
def rate_Is.f (a0 : Int) : Option (Bool) := if a0 ≥ 0 then (some (decide (a0 ≤ 4611686018427387904))) else (some false)
theorem rate_Is.calls (a0 : Int) (r : Bool) (w : World) (h : rate_Is.f a0 = some r) :
    Calls Try.prog 37 #[.int .i64 a0] w fun e w' => e = .returned (.bool r) ∧ Drawn0 w w' := by
  have H : (if a0 ≥ 0 then (some (decide (a0 ≤ 4611686018427387904))) else (some false)) = some r := h; clear h
  by_cases c2 : a0 ≥ 0
  · rw [if_pos c2] at H
    have c2b0 : decide (0 ≤ a0) = true := dt c2; clear c2; obtain rfl := Option.some.inj H
    go_enter Try.func37, Try.ntmps37
    go_wp2
    go_ret
    exact ⟨ds, by repeat (first | exact Drawn0.refl _ | apply Drawn0.step)⟩
  · rw [if_neg c2] at H
    have c2b0 : decide (0 ≤ a0) = false := df c2; clear c2; obtain rfl := Option.some.inj H
    go_enter Try.func37, Try.ntmps37
    go_wp2
    go_ret
    exact ⟨ds, by repeat (first | exact Drawn0.refl _ | apply Drawn0.step)⟩
def rate_Sum.l0 : Nat → Int → List Int → Int → Int → Option (Int × Bool)
  | 0, _, _, _, _ => none
  | k + 1, x4, x7, x8, x9 => if x9 < x8 then (if 0 ≤ x9 then (if x9 < (x7.length : Int) then ((rate_Is.f (rd x7 x9)).bind fun t121 => (if t121 = true then (if (rd x7 x9) > (wrap64 (4611686018427387904 - x4)) then (some (0, false)) else (rate_Sum.l0 k (wrap64 (x4 + (rd x7 x9))) x7 x8 (wrap64 (x9 + 1)))) else (some (0, false)))) else (none)) else (none)) else (some (x4, true))
def rate_Sum.f (k : Nat) (l0 : List Int) : Option (Int × Bool) := rate_Sum.l0 k 0 l0 (l0.length : Int) 0
theorem rate_Sum.calls (k : Nat) (A0 : Option Addr) (c0 : Nat) (l0 : List Int) (r1 : Int) (r2 : Bool) (w : World) (hr0 : Kd.C (Kd.int .i64) w A0 l0.length l0) (hc0 : l0.length ≤ c0) (h : rate_Sum.f k l0 = some (r1, r2)) :
    Calls Try.prog 68 #[.slice A0 l0.length c0] w fun e w' => e = .returned (.tuple #[.int .i64 r1, .bool r2]) ∧ Drawn0 w w' := by
  have HR0 := ak hr0; have HC0 := ak hc0; clear hr0 hc0; have H : (rate_Sum.l0 k 0 l0 (l0.length : Int) 0) = some (r1, r2) := h; clear h; have H' := ak H; clear H
  go_enter Try.func68, Try.ntmps68
  go_wp2
  go_loopg [4, 9] k (fun kq v4 v9 w' => ∃ (x4_1 : Int) (x9_1 : Int), v4 = .int .i64 x4_1 ∧ v9 = .int .i64 x9_1 ∧ Aside0 (rate_Sum.l0 kq x4_1 l0 (l0.length : Int) x9_1 = some (r1, r2)) ∧ Aside0 (kq ≤ k) ∧ Drawn0 w w')
  case atStart => exact ⟨(0), (0), ds, ds, H', ⟨Nat.le_refl _⟩, by repeat (first | exact Drawn0.refl _ | apply Drawn0.step)⟩
  case round =>
    clear H'; obtain ⟨x4_1, x9_1, rfl, rfl, HA, HK1, ⟨m1, rfl⟩⟩ := hrel; cases gk with
    | zero => exact absurd HA.out (by simp [rate_Sum.l0])
    | succ k1 =>
      have H := HA.out; clear HA; simp only [rate_Sum.l0] at H
      by_cases c2 : x9_1 < (l0.length : Int)
      · rw [if_pos c2] at H
        have c2b0 : decide (x9_1 < (l0.length : Int)) = true := dt c2; clear c2
        by_cases c3 : 0 ≤ x9_1
        · rw [if_pos c3] at H
          have c3b0 : decide (0 ≤ x9_1) = true := dt c3; clear c3
          by_cases c4 : x9_1 < (l0.length : Int)
          · rw [if_pos c4] at H
            have c4b0 : decide (x9_1 < (l0.length : Int)) = true := dt c4; clear c4; replace H := Option.bind_eq_some_iff.mp H; obtain ⟨t121, A50, H⟩ := H; replace H : (if t121 = true then (if (rd l0 x9_1) > (wrap64 (4611686018427387904 - x4_1)) then (some (0, false)) else (rate_Sum.l0 k1 (wrap64 (x4_1 + (rd l0 x9_1))) l0 (l0.length : Int) (wrap64 (x9_1 + 1)))) else (some (0, false))) = some (r1, r2) := H; have A5 := ak A50; clear A50
            by_cases c6 : t121 = true
            · subst c6
              have H1 : (if (rd l0 x9_1) > (wrap64 (4611686018427387904 - x4_1)) then (some (0, false)) else (rate_Sum.l0 k1 (wrap64 (x4_1 + (rd l0 x9_1))) l0 (l0.length : Int) (wrap64 (x9_1 + 1)))) = some (r1, r2) := by rw [if_pos rfl] at H; exact H
              clear H; have H := H1; clear H1
              by_cases c7 : (rd l0 x9_1) > (wrap64 (4611686018427387904 - x4_1))
              · rw [if_pos c7] at H
                have c7b0 : decide ((wrap64 (4611686018427387904 - x4_1)) < (rd l0 x9_1)) = true := dt c7; clear c7; simp only [Option.some.injEq, Prod.mk.injEq] at H; obtain ⟨rfl, rfl⟩ := H; have p120 : 0 ≤ (x9_1 : Int) := od; have q120 : x9_1 < (l0.length : Int) := od; obtain ⟨ad120, e120, hx120_0⟩ := Kd.at_int HR0.out x9_1 p120 q120; cases e120; replace p120 := eq_true p120; replace q120 := eq_true q120
                go_wp2_with (first | ((with_reducible refine gate_callee (f := 37) rfl ?_); refine gl 14 Try.func37 #[.int .i64 (rd l0 x9_1)] ?_; (with_reducible refine (rate_Is.calls (rd l0 x9_1) true _ A5.out).mono ?_); rintro e w' ⟨rfl, ⟨nd, rfl⟩⟩; refine ⟨_, rfl, ?_⟩))
                go_ret2
                exact ⟨ds, by repeat (first | exact Drawn0.refl _ | apply Drawn0.step)⟩
              · rw [if_neg c7] at H
                have c7b0 : decide ((wrap64 (4611686018427387904 - x4_1)) < (rd l0 x9_1)) = false := df c7; clear c7; have H' := ak H; clear H; have p120 : 0 ≤ (x9_1 : Int) := od; have q120 : x9_1 < (l0.length : Int) := od; obtain ⟨ad120, e120, hx120_0⟩ := Kd.at_int HR0.out x9_1 p120 q120; cases e120; replace p120 := eq_true p120; replace q120 := eq_true q120
                go_wp2_with (first | ((with_reducible refine gate_callee (f := 37) rfl ?_); refine gl 14 Try.func37 #[.int .i64 (rd l0 x9_1)] ?_; (with_reducible refine (rate_Is.calls (rd l0 x9_1) true _ A5.out).mono ?_); rintro e w' ⟨rfl, ⟨nd, rfl⟩⟩; refine ⟨_, rfl, ?_⟩))
                go_roundg k1
                case measure => have := HK1.out; omega
                case rel => exact ⟨(wrap64 (x4_1 + (rd l0 x9_1))), (wrap64 (x9_1 + 1)), ds, ds, H', ⟨by have := HK1.out; omega⟩, by repeat (first | exact Drawn0.refl _ | apply Drawn0.step)⟩
            · replace c6 := Bool.eq_false_iff.mpr c6
              subst c6
              have H1 : (some (0, false)) = some (r1, r2) := by rw [if_neg (show ¬ (false = true) by decide)] at H; exact H
              clear H; have H := H1; clear H1; simp only [Option.some.injEq, Prod.mk.injEq] at H; obtain ⟨rfl, rfl⟩ := H; have p120 : 0 ≤ (x9_1 : Int) := od; have q120 : x9_1 < (l0.length : Int) := od; obtain ⟨ad120, e120, hx120_0⟩ := Kd.at_int HR0.out x9_1 p120 q120; cases e120; replace p120 := eq_true p120; replace q120 := eq_true q120
              go_wp2_with (first | ((with_reducible refine gate_callee (f := 37) rfl ?_); refine gl 14 Try.func37 #[.int .i64 (rd l0 x9_1)] ?_; (with_reducible refine (rate_Is.calls (rd l0 x9_1) false _ A5.out).mono ?_); rintro e w' ⟨rfl, ⟨nd, rfl⟩⟩; refine ⟨_, rfl, ?_⟩))
              go_ret2
              exact ⟨ds, by repeat (first | exact Drawn0.refl _ | apply Drawn0.step)⟩
          · rw [if_neg c4] at H
            exact absurd H (by simp)
        · rw [if_neg c3] at H
          exact absurd H (by simp)
      · rw [if_neg c2] at H
        have c2b0 : decide (x9_1 < (l0.length : Int)) = false := df c2; clear c2; simp only [Option.some.injEq, Prod.mk.injEq] at H; obtain ⟨rfl, rfl⟩ := H
        go_wp2
        go_ret2
        exact ⟨ds, by repeat (first | exact Drawn0.refl _ | apply Drawn0.step)⟩
def graph_Caps.l0 : Nat → List Int → List (S53) → Int → Int → Option (List Int)
  | 0, _, _, _, _ => none
  | k + 1, x3, x7, x8, x9 => if x9 < x8 then (if 0 ≤ x9 then (if x9 < (x7.length : Int) then (if x3.length < 17592186044416 then (graph_Caps.l0 k (x3 ++ [(rd_T53 x7 x9).f2]) x7 x8 (wrap64 (x9 + 1))) else (none)) else (none)) else (none)) else (some x3)
def graph_Caps.f (k : Nat) (a0_0 : Int) (l0_1 : List (S53)) : Option (List Int) := graph_Caps.l0 k ([] : List Int) l0_1 (l0_1.length : Int) 0
theorem graph_Caps.calls (k : Nat) (a0_0 : Int) (A0_1 : Option Addr) (c0_1 : Nat) (l0_1 : List (S53)) (r : List Int) (w : World) (hr0_1 : Kd.C k53 w A0_1 l0_1.length l0_1) (hc0_1 : l0_1.length ≤ c0_1) (h : graph_Caps.f k a0_0 l0_1 = some r) :
    Calls Try.prog 69 #[.agg #[.int .i64 a0_0, .slice A0_1 l0_1.length c0_1]] w fun e w' => ∃ v0_ : Value, e = .returned (v0_) ∧ Kd.R (Kd.int .i64) 3 w' w.heap.size (fun _ => True) v0_ r ∧ Below w.heap.size w w' := by
  have hu24 := Try.underlying24; have hu53 := Try.underlying53; have HR0_1 := ak hr0_1; have HC0_1 := ak hc0_1; clear hr0_1 hc0_1; have HB := ak (Below.refl w.heap.size w); have H : (graph_Caps.l0 k ([] : List Int) l0_1 (l0_1.length : Int) 0) = some r := h; clear h; have H' := ak H; clear H
  go_enter Try.func69, Try.ntmps69
  go_wp2_with (first | ((with_reducible refine gate_dst (N := 1) rfl ?_); refine box_event ?hg (N := 1) ?hd (cs := #[.int .i64 a0_0, .slice A0_1 l0_1.length c0_1]) (t := 24) ?hr ?_; (case hd => rfl); (case hg => rfl); (case hr => first | (go_simp; done) | (go_simp; rfl)); intro gb122 hg w2 hbox hb; have BK122 := ak (hbox); have GW122 := ak ((by rw [hg]; exact (below_size HB.out) : w.heap.size ≤ gb122)); have GE122 := ak ((by rw [hg]; exact (below_size HB.out) : w.heap.size ≤ gb122)); replace HB := ak (below_step HB.out hb); clear hb hbox hg; have hcz3_0 := bkat BK122.out 0; have hcz3_1 := bkat BK122.out 1; have hfz3_0 := bfz BK122.out 0; have hfz3_1 := bfz BK122.out 1))
  go_loopg [3, 9] k (fun kq v3 v9 w' => ∃ (x3_1 : List Int) (x9_1 : Int), v9 = .int .i64 x9_1 ∧ Aside0 (graph_Caps.l0 kq x3_1 l0_1 (l0_1.length : Int) x9_1 = some r) ∧ Aside0 (kq ≤ k) ∧ Aside0 (Kd.R (Kd.int .i64) 3 w' w.heap.size (fun _ => True) v3 x3_1) ∧ Aside0 (w'.heap[gb122]? = some (.cells #[.int .i64 a0_0, (.slice A0_1 l0_1.length c0_1)] 24 (0, 0))) ∧ Aside0 (Below w.heap.size w w'))
  case atStart => exact ⟨(([] : List Int)), (0), ds, H', ⟨Nat.le_refl _⟩, ⟨by first | exact Kd.R_nil _ _ _ _ _ | exact Kd.N_nil _ _ _ _ _ | exact Kd.V_nil _ _ _ _ _ | exact Kd.Q_nil _ _ _ _ _ | exact Kd.S_nil _ _ _ _ _⟩, ⟨BK122.out⟩, ⟨HB.out⟩⟩
  case round =>
    clear H'
    repeat (first | clear p2 | clear hcz3_0 | clear hcz3_1 | clear hfz3_0 | clear hfz3_1)
    obtain ⟨x3_1, x9_1, rfl, HA, HK1, HO_3, BK122, HB⟩ := hrel; cases gk with
    | zero => exact absurd HA.out (by simp [graph_Caps.l0])
    | succ k1 =>
      have H := HA.out; clear HA; simp only [graph_Caps.l0] at H
      by_cases c4 : x9_1 < (l0_1.length : Int)
      · rw [if_pos c4] at H
        have c4b0 : decide (x9_1 < (l0_1.length : Int)) = true := dt c4; clear c4
        by_cases c5 : 0 ≤ x9_1
        · rw [if_pos c5] at H
          have c5b0 : decide (0 ≤ x9_1) = true := dt c5; clear c5
          by_cases c6 : x9_1 < (l0_1.length : Int)
          · rw [if_pos c6] at H
            have c6b0 : decide (x9_1 < (l0_1.length : Int)) = true := dt c6; clear c6
            by_cases c7 : x3_1.length < 17592186044416
            · rw [if_pos c7] at H
              have LMc7 := ak c7; clear c7
              obtain ⟨y125, hy125⟩ : ∃ y_ : List Int, y_ = (x3_1 ++ [(rd_T53 l0_1 x9_1).f2]) := ⟨_, rfl⟩
              replace H : (graph_Caps.l0 k1 y125 l0_1 (l0_1.length : Int) (wrap64 (x9_1 + 1))) = some r := by first | (rw [hy125]; with_reducible exact H) | (have H2_ := (Option.bind_some _ _).symm.trans H; rw [hy125]; with_reducible exact H2_) | (have H2_ := (Option.bind_some _ _).symm.trans H; with_reducible exact H2_) | with_reducible exact H | (rw [hy125]; exact H) | exact H
              have Ny125 := ak hy125; clear hy125; have H' := ak H; clear H; have p123 : 0 ≤ (x9_1 : Int) := od; have q123 : x9_1 < (l0_1.length : Int) := od; obtain ⟨ad123, e123, hx123_0, hx123_1, hx123_2⟩ := at_T53 HR0_1.out x9_1 p123 q123; cases e123; replace hx123_0 := bce HB.out hx123_0; replace hx123_1 := bce HB.out hx123_1; replace hx123_2 := bce HB.out hx123_2; replace p123 := eq_true p123; replace q123 := eq_true q123
              go_wp2_with (first | ((with_reducible refine gate_dst (N := 5) rfl ?_); refine box_event ?hg (N := 5) ?hd (cs := #[.int .i64 0, .int .i64 0, .int .i64 0]) (t := 53) ?hr ?_; (case hd => rfl); (case hg => rfl); (case hr => first | (go_simp; done) | (go_simp; rfl)); intro gb124 hg w8 hbox hb; replace HO_3 := ak (Kd.R_below (br HO_3.out) hb); have BK124 := ak (hbox); have GW124 := ak ((by rw [hg]; exact (below_size (bq1 HB.out GE122.out)) : w.heap.size ≤ gb124)); have GE124 := ak ((by rw [hg]; exact (below_size (bq1 HB.out GE122.out)) : w.heap.size ≤ gb124)); replace HB := ak (below_step (bq1 HB.out GE122.out) hb); have NB122_124 := ak ((by rw [hg]; exact Nat.ne_of_lt (blk_lt (g := gb122) (o := .cells #[.int .i64 a0_0, .slice (some ad123) l0_1.length c0_1] 24 (0, 0)) (bk BK122.out)) : gb122 ≠ gb124)); have NB124_122 := ak ((by rw [hg]; exact Nat.ne_of_gt (blk_lt (g := gb122) (o := .cells #[.int .i64 a0_0, .slice (some ad123) l0_1.length c0_1] 24 (0, 0)) (bk BK122.out)) : gb124 ≠ gb122)); replace BK122 := ak (blk_below (g := gb122) (o := .cells #[.int .i64 a0_0, .slice (some ad123) l0_1.length c0_1] 24 (0, 0)) (bk BK122.out) hb); clear hb hbox hg; have hnb9 := NB124_122.out; have hnc9 := NB122_124.out; have hcz10_0 := bkat BK124.out 0; have hcz10_1 := bkat BK124.out 1; have hcz10_2 := bkat BK124.out 2; have hfz10_0 := bfz BK124.out 0; have hfz10_1 := bfz BK124.out 1; have hfz10_2 := bfz BK124.out 2) | ((with_reducible refine gate_builtin (b := .append) (xs := #[.tmp 13, .tmp 16]) rfl ?_); at_builtin; refine Kd.R_append (Kd.int .i64) (w0 := w) w.heap.size rfl (.tmp 13) (.tmp 16) 25 3 (.int .i64 0) 8 rfl Try.underlying25 info3 rfl (by decide) (by omega) u3 x3_1 ((rd_T53 l0_1 x9_1).f2) [.int .i64 ((rd_T53 l0_1 x9_1).f2)] (fun _ => True) (fun _ => False) rfl (by first | (go_simp; done) | (go_simp; rfl)) ?aP (fun _ hk => hk.elim) ?aF ?aO ?aB ?aS ?aL ?_; (case aP => exact rfl); (case aB => exact (bq2 HB.out GE122.out GE124.out)); (case aF => exact (fun _ _ => trivial)); (case aO => exact (by refine rl ?_; exact Kd.R_mono (Kd.R_far (p := ⟨gb124, 2, none⟩) (Kd.R_far (p := ⟨gb124, 1, none⟩) (Kd.R_far (p := ⟨gb124, 0, none⟩) (Kd.R_types HO_3.out BK124.out (by decide)) (fun _ hk => hk.2) (.int .i64 ((rd_T53 l0_1 x9_1).f0))) (fun _ hk => hk.2) (.int .i64 ((rd_T53 l0_1 x9_1).f1))) (fun _ hk => hk.2) (.int .i64 ((rd_T53 l0_1 x9_1).f2))) (fun _ hk => trivial))); (case aS => exact (below_size (bq2 HB.out GE122.out GE124.out))); (case aL => have := LMc7.out; omega); intro v126 w11 ho hb hg hat; rw [← Ny125.out] at ho; replace BK122 := ak (blk_grown (g := gb122) (o := .cells #[.int .i64 a0_0, .slice (some ad123) l0_1.length c0_1] 24 (0, 0)) (by refine bl ?_; refine blk_far ?_ NB122_124.out _; refine bl ?_; refine blk_far ?_ NB122_124.out _; refine bl ?_; refine blk_far ?_ NB122_124.out _; refine bl ?_; exact BK122.out) hg (Kd.R_ne HO_3.out BK122.out (by decide))); replace BK124 := ak (blk_grown (g := gb124) (o := .cells #[.int .i64 ((rd_T53 l0_1 x9_1).f0), .int .i64 ((rd_T53 l0_1 x9_1).f1), .int .i64 ((rd_T53 l0_1 x9_1).f2)] 53 (0, 0)) (by refine bl ?_; refine blk_put (cs := #[.int .i64 ((rd_T53 l0_1 x9_1).f0), .int .i64 ((rd_T53 l0_1 x9_1).f1), .int .i64 0]) ?_ 2 _ rfl; refine bl ?_; refine blk_put (cs := #[.int .i64 ((rd_T53 l0_1 x9_1).f0), .int .i64 0, .int .i64 0]) ?_ 1 _ rfl; refine bl ?_; refine blk_put (cs := #[.int .i64 0, .int .i64 0, .int .i64 0]) ?_ 0 _ rfl; refine bl ?_; exact BK124.out) hg (Kd.R_ne HO_3.out BK124.out (by decide))); replace HB := ak (hb); have HO127 := ak (ho); clear HO_3; clear ho hb hg hat))
              go_roundg k1
              case measure => have := HK1.out; omega
              case rel => exact ⟨(y125), (wrap64 (x9_1 + 1)), ds, H', ⟨by have := HK1.out; omega⟩, ⟨HO127.out⟩, ⟨BK122.out⟩, ⟨HB.out⟩⟩
            · rw [if_neg c7] at H
              exact absurd H (by simp)
          · rw [if_neg c6] at H
            exact absurd H (by simp)
        · rw [if_neg c5] at H
          exact absurd H (by simp)
      · rw [if_neg c4] at H
        have c4b0 : decide (x9_1 < (l0_1.length : Int)) = false := df c4; clear c4; obtain rfl := Option.some.inj H
        go_wp2
        go_ret
        exact ⟨_, de, by refine rl ?_; exact HO_3.out, bq1 HB.out GE122.out⟩
mutual
def graph_May.j0 : Nat → Bool → Int → List (S53) → Option (Bool)
 | 0, _, _, _ => none
 | k + 1, x20, xkb, xka => if x20 = true then (some false) else (graph_May.l0 k xka (xka.length : Int) 0 xkb xka)
def graph_May.l0 : Nat → List (S53) → Int → Int → Int → List (S53) → Option (Bool)
 | 0, _, _, _, _, _ => none
 | k + 1, x22, x23, x24, xkb, xka => if x24 < x23 then (if 0 ≤ x24 then (if x24 < (x22.length : Int) then ((graph_Has.f xkb xka ((rd_T53 x22 x24).f0)).bind fun t136 => (if t136 = true then ((graph_Has.f xkb xka ((rd_T53 x22 x24).f1)).bind fun t137 => (if t137 = true then (if ((rd_T53 x22 x24).f0) = ((rd_T53 x22 x24).f1) then (some false) else (graph_May.l0 k x22 x23 (wrap64 (x24 + 1)) xkb xka)) else (some false))) else (some false))) else (none)) else (none)) else ((graph_Caps.f k xkb xka).bind fun t129 => ((rate_Sum.f k t129).bind fun bt132 => (some bt132.2)))
end
def graph_May.f (k : Nat) (a0_0 : Int) (l0_1 : List (S53)) : Option (Bool) := if a0_0 < 2 then (graph_May.j0 k true a0_0 l0_1) else (if a0_0 > 8 then (graph_May.j0 k true a0_0 l0_1) else (graph_May.j0 k (decide ((l0_1.length : Int) > 16)) a0_0 l0_1))
theorem graph_May.calls (k : Nat) (a0_0 : Int) (A0_1 : Option Addr) (c0_1 : Nat) (l0_1 : List (S53)) (r : Bool) (w : World) (hr0_1 : Kd.C k53 w A0_1 l0_1.length l0_1) (hc0_1 : l0_1.length ≤ c0_1) (h : graph_May.f k a0_0 l0_1 = some r) :
  Calls Try.prog 61 #[.agg #[.int .i64 a0_0, .slice A0_1 l0_1.length c0_1]] w fun e w' => e = .returned (.bool r) ∧ Below w.heap.size w w' := by
 have hu24 := Try.underlying24; have hu53 := Try.underlying53; have HR0_1 := ak hr0_1; have HC0_1 := ak hc0_1; clear hr0_1 hc0_1; have HB := ak (Below.refl w.heap.size w); have H : (if a0_0 < 2 then (graph_May.j0 k true a0_0 l0_1) else (if a0_0 > 8 then (graph_May.j0 k true a0_0 l0_1) else (graph_May.j0 k (decide ((l0_1.length : Int) > 16)) a0_0 l0_1))) = some r := h; clear h; have HC2 := ak H; clear H
 go_enter Try.func61, Try.ntmps61
 go_upto_region 1 with (first | ((with_reducible refine gate_dst (N := 1) rfl ?_); (try (refine gate_guard (by rfl) ?_; dsimp only)); refine box_event ?hg (N := 1) ?hd (cs := #[.int .i64 a0_0, .slice A0_1 l0_1.length c0_1]) (t := 24) ?hr ?_; (case hd => rfl); (case hg => rfl); (case hr => first | (go_simp; done) | (go_simp; rfl)); intro gb128 hg w3 hbox hb; have BK128 := ak (hbox); have GW128 := ak ((by rw [hg]; exact (below_size HB.out) : w.heap.size ≤ gb128)); have GE128 := ak ((by rw [hg]; exact (below_size HB.out) : w.heap.size ≤ gb128)); replace HB := ak (below_step HB.out hb); clear hb hbox hg))
 (try simp only [Act.put, List.setIfInBounds_toArray, List.set_cons_zero, List.set_cons_succ])
 go_cut [20] (fun v20 wc => ∃ (kq : Nat) (x20_1 : Bool), v20 = .bool x20_1 ∧ Aside0 (graph_May.j0 kq x20_1 a0_0 l0_1 = some r) ∧ Aside0 (kq ≤ k) ∧ Aside0 (wc.heap[gb128]? = some (.cells #[.int .i64 a0_0, (.slice A0_1 l0_1.length c0_1)] 24 (0, 0))) ∧ Aside0 (Below w.heap.size w wc))
 case first =>
  have H := HC2.out; clear HC2
  by_cases c4 : a0_0 < 2
  ·
   rw [if_pos c4] at H; have c4b0 : decide (a0_0 < 2) = true := dt c4; clear c4; (first | rw [c4b0] | (simp only [i64_w, i32_w]; rw [c4b0]) | skip); have H' := ak H; clear H; have hcz5_0 := bkat BK128.out 0; have hcz5_1 := bkat BK128.out 1; have hfz5_0 := bfz BK128.out 0; have hfz5_1 := bfz BK128.out 1
   go_wp2
   go_meet
   case rel => exact ⟨_, (true), ds, H', ⟨by first | omega | exact Nat.le_refl _⟩, ⟨BK128.out⟩, ⟨HB.out⟩⟩
  ·
   rw [if_neg c4] at H; have c4b0 : decide (a0_0 < 2) = false := df c4; clear c4; (first | rw [c4b0] | (simp only [i64_w, i32_w]; rw [c4b0]) | skip)
   by_cases c6 : a0_0 > 8
   ·
    rw [if_pos c6] at H; have c6b0 : decide (8 < a0_0) = true := dt c6; clear c6; have H' := ak H; clear H; have hcz7_0 := bkat BK128.out 0; have hcz7_1 := bkat BK128.out 1; have hfz7_0 := bfz BK128.out 0; have hfz7_1 := bfz BK128.out 1
    go_wp2
    go_meet
    case rel => exact ⟨_, (true), ds, H', ⟨by first | omega | exact Nat.le_refl _⟩, ⟨BK128.out⟩, ⟨HB.out⟩⟩
   ·
    rw [if_neg c6] at H; have c6b0 : decide (8 < a0_0) = false := df c6; clear c6; have H' := ak H; clear H; have hcz8_0 := bkat BK128.out 0; have hcz8_1 := bkat BK128.out 1; have hfz8_0 := bfz BK128.out 0; have hfz8_1 := bfz BK128.out 1
    go_wp2
    go_meet
    case rel => exact ⟨_, (decide ((l0_1.length : Int) > 16)), ds, H', ⟨by first | omega | exact Nat.le_refl _⟩, ⟨BK128.out⟩, ⟨HB.out⟩⟩
 case rest =>
  clear HC2
  repeat (first | clear p2 | clear c4 | clear c4b0 | clear c6 | clear c6b0 | clear hcz5_0 | clear hcz5_1 | clear hcz7_0 | clear hcz7_1 | clear hcz8_0 | clear hcz8_1 | clear hfz5_0 | clear hfz5_1 | clear hfz7_0 | clear hfz7_1 | clear hfz8_0 | clear hfz8_1)
  obtain ⟨kq, x20_1, rfl, HA, HJ1, BK128, HB⟩ := hcut; cases kq with
  | zero => exact absurd HA.out (by simp [graph_May.j0])
  | succ kj1 =>
   have H := HA.out; clear HA; simp only [graph_May.j0] at H
   by_cases c9 : x20_1 = true
   ·
    subst c9
    have H1 : (some false) = some r := by rw [if_pos rfl] at H; exact H
    clear H; have H := H1; clear H1; obtain rfl := Option.some.inj H
    go_wp2
    go_ret
    exact ⟨de, bq1 HB.out GE128.out⟩
   ·
    replace c9 := Bool.eq_false_iff.mpr c9; subst c9
    have H1 : (graph_May.l0 kj1 l0_1 (l0_1.length : Int) 0 a0_0 l0_1) = some r := by rw [if_neg (show ¬ (false = true) by decide)] at H; exact H
    clear H; have H := H1; clear H1; have H' := ak H; clear H; have hcz10_0 := bkat BK128.out 0; have hcz10_1 := bkat BK128.out 1; have hfz10_0 := bfz BK128.out 0; have hfz10_1 := bfz BK128.out 1
    go_wp2
    go_loopg [24] kj1 (fun kq v24 w' => ∃ (x24_2 : Int), v24 = .int .i64 x24_2 ∧ Aside0 (graph_May.l0 kq l0_1 (l0_1.length : Int) x24_2 a0_0 l0_1 = some r) ∧ Aside0 (kq ≤ kj1) ∧ Aside0 (w'.heap[gb128]? = some (.cells #[.int .i64 a0_0, (.slice A0_1 l0_1.length c0_1)] 24 (0, 0))) ∧ Aside0 (Below w.heap.size w w'))
    case atStart => exact ⟨(0), ds, H', ⟨Nat.le_refl _⟩, ⟨BK128.out⟩, ⟨HB.out⟩⟩
    case round =>
     clear H'
     repeat (first | clear p2 | clear c4 | clear c4b0 | clear c6 | clear c6b0 | clear c9 | clear hcz10_0 | clear hcz10_1 | clear hcz5_0 | clear hcz5_1 | clear hcz7_0 | clear hcz7_1 | clear hcz8_0 | clear hcz8_1 | clear hfz10_0 | clear hfz10_1 | clear hfz5_0 | clear hfz5_1 | clear hfz7_0 | clear hfz7_1 | clear hfz8_0 | clear hfz8_1)
     obtain ⟨x24_2, rfl, HA, HK2, BK128, HB⟩ := hrel; cases gk with
     | zero => exact absurd HA.out (by simp [graph_May.l0])
     | succ k2 =>
      have H := HA.out; clear HA; simp only [graph_May.l0] at H
      by_cases c11 : x24_2 < (l0_1.length : Int)
      ·
       rw [if_pos c11] at H; have c11b0 : decide (x24_2 < (l0_1.length : Int)) = true := dt c11; clear c11
       by_cases c12 : 0 ≤ x24_2
       ·
        rw [if_pos c12] at H; have c12b0 : decide (0 ≤ x24_2) = true := dt c12; clear c12
        by_cases c13 : x24_2 < (l0_1.length : Int)
        ·
         rw [if_pos c13] at H; have c13b0 : decide (x24_2 < (l0_1.length : Int)) = true := dt c13; clear c13; replace H := Option.bind_eq_some_iff.mp H; obtain ⟨t136, A140, H⟩ := H; replace H : (if t136 = true then ((graph_Has.f a0_0 l0_1 ((rd_T53 l0_1 x24_2).f1)).bind fun t137 => (if t137 = true then (if ((rd_T53 l0_1 x24_2).f0) = ((rd_T53 l0_1 x24_2).f1) then (some false) else (graph_May.l0 k2 l0_1 (l0_1.length : Int) (wrap64 (x24_2 + 1)) a0_0 l0_1)) else (some false))) else (some false)) = some r := H; have A14 := ak A140; clear A140
         by_cases c15 : t136 = true
         ·
          subst c15
          have H1 : ((graph_Has.f a0_0 l0_1 ((rd_T53 l0_1 x24_2).f1)).bind fun t137 => (if t137 = true then (if ((rd_T53 l0_1 x24_2).f0) = ((rd_T53 l0_1 x24_2).f1) then (some false) else (graph_May.l0 k2 l0_1 (l0_1.length : Int) (wrap64 (x24_2 + 1)) a0_0 l0_1)) else (some false))) = some r := by rw [if_pos rfl] at H; exact H
          clear H; have H := H1; clear H1; replace H := Option.bind_eq_some_iff.mp H; obtain ⟨t137, A160, H⟩ := H; replace H : (if t137 = true then (if ((rd_T53 l0_1 x24_2).f0) = ((rd_T53 l0_1 x24_2).f1) then (some false) else (graph_May.l0 k2 l0_1 (l0_1.length : Int) (wrap64 (x24_2 + 1)) a0_0 l0_1)) else (some false)) = some r := H; have A16 := ak A160; clear A160
          by_cases c17 : t137 = true
          ·
           subst c17
           have H1 : (if ((rd_T53 l0_1 x24_2).f0) = ((rd_T53 l0_1 x24_2).f1) then (some false) else (graph_May.l0 k2 l0_1 (l0_1.length : Int) (wrap64 (x24_2 + 1)) a0_0 l0_1)) = some r := by rw [if_pos rfl] at H; exact H
           clear H; have H := H1; clear H1
           by_cases c18 : ((rd_T53 l0_1 x24_2).f0) = ((rd_T53 l0_1 x24_2).f1)
           ·
            rw [if_pos c18] at H; have c18b0 : (((rd_T53 l0_1 x24_2).f0) == ((rd_T53 l0_1 x24_2).f1)) = true := beq_iff_eq.mpr c18; have c18b1 : (((rd_T53 l0_1 x24_2).f0) != ((rd_T53 l0_1 x24_2).f1)) = false := bne_eq_false_iff_eq.mpr c18; clear c18; obtain rfl := Option.some.inj H; have p134 : 0 ≤ (x24_2 : Int) := od; have q134 : x24_2 < (l0_1.length : Int) := od; obtain ⟨ad134, e134, hx134_0, hx134_1, hx134_2⟩ := at_T53 HR0_1.out x24_2 p134 q134; cases e134; replace hx134_0 := bce HB.out hx134_0; replace hx134_1 := bce HB.out hx134_1; replace hx134_2 := bce HB.out hx134_2; replace p134 := eq_true p134; replace q134 := eq_true q134
            go_wp2_with (first | ((with_reducible refine gate_dst (N := 4) rfl ?_); (try (refine gate_guard (by rfl) ?_; dsimp only)); refine box_event ?hg (N := 4) ?hd (cs := #[.int .i64 0, .int .i64 0, .int .i64 0]) (t := 53) ?hr ?_; (case hd => rfl); (case hg => rfl); (case hr => first | (go_simp; done) | (go_simp; rfl)); intro gb135 hg w19 hbox hb; have BK135 := ak (hbox); have GW135 := ak ((by rw [hg]; exact (below_size HB.out) : w.heap.size ≤ gb135)); have GE135 := ak ((by rw [hg]; exact (below_size HB.out) : w.heap.size ≤ gb135)); replace HB := ak (below_step HB.out hb); have NB128_135 := ak ((by rw [hg]; exact Nat.ne_of_lt (blk_lt (g := gb128) (o := .cells #[.int .i64 a0_0, .slice (some ad134) l0_1.length c0_1] 24 (0, 0)) BK128.out) : gb128 ≠ gb135)); have NB135_128 := ak ((by rw [hg]; exact Nat.ne_of_gt (blk_lt (g := gb128) (o := .cells #[.int .i64 a0_0, .slice (some ad134) l0_1.length c0_1] 24 (0, 0)) BK128.out) : gb135 ≠ gb128)); replace BK128 := ak (blk_below (g := gb128) (o := .cells #[.int .i64 a0_0, .slice (some ad134) l0_1.length c0_1] 24 (0, 0)) (bk BK128.out) hb); clear hb hbox hg; have hnb20 := NB135_128.out; have hnc20 := NB128_135.out; have hcz21_0 := bkat BK135.out 0; have hcz21_1 := bkat BK135.out 1; have hcz21_2 := bkat BK135.out 2; have hfz21_0 := bfz BK135.out 0; have hfz21_1 := bfz BK135.out 1; have hfz21_2 := bfz BK135.out 2; have hcz22_0 := bkat BK128.out 0; have hcz22_1 := bkat BK128.out 1; have hfz22_0 := bfz BK128.out 0; have hfz22_1 := bfz BK128.out 1) | ((with_reducible refine gate_callee (f := 54) rfl ?_); refine gl 31 Try.func54 #[.agg #[.int .i64 a0_0, .slice (some ad134) l0_1.length c0_1], .int .i64 ((rd_T53 l0_1 x24_2).f0)] ?_; (with_reducible refine (graph_Has.calls a0_0 _ _ l0_1 ((rd_T53 l0_1 x24_2).f0) true _ ?side1 ?side2 A14.out).mono ?_); (case side1 => exact Kd.C_below HR0_1.out (bq2 HB.out GE128.out GE135.out)); (case side2 => exact HC0_1.out); rintro e w23 ⟨rfl, hb⟩; refine ⟨_, rfl, ?_⟩; replace BK128 := ak (blk_below (g := gb128) (o := .cells #[.int .i64 a0_0, .slice (some ad134) l0_1.length c0_1] 24 (0, 0)) (by refine bl ?_; refine blk_far ?_ NB128_135.out _; refine bl ?_; refine blk_far ?_ NB128_135.out _; refine bl ?_; refine blk_far ?_ NB128_135.out _; refine bl ?_; exact BK128.out) hb); replace BK135 := ak (blk_below (g := gb135) (o := .cells #[.int .i64 ((rd_T53 l0_1 x24_2).f0), .int .i64 ((rd_T53 l0_1 x24_2).f1), .int .i64 ((rd_T53 l0_1 x24_2).f2)] 53 (0, 0)) (by refine bl ?_; refine blk_put (cs := #[.int .i64 ((rd_T53 l0_1 x24_2).f0), .int .i64 ((rd_T53 l0_1 x24_2).f1), .int .i64 0]) ?_ 2 _ rfl; refine bl ?_; refine blk_put (cs := #[.int .i64 ((rd_T53 l0_1 x24_2).f0), .int .i64 0, .int .i64 0]) ?_ 1 _ rfl; refine bl ?_; refine blk_put (cs := #[.int .i64 0, .int .i64 0, .int .i64 0]) ?_ 0 _ rfl; refine bl ?_; exact BK135.out) hb); replace HB := ak (below_step (bq2 HB.out GE128.out GE135.out) hb); (try clear hb); have hcz24_0 := bkat BK128.out 0; have hcz24_1 := bkat BK128.out 1; have hfz24_0 := bfz BK128.out 0; have hfz24_1 := bfz BK128.out 1; have hcz25_0 := bkat BK135.out 0; have hcz25_1 := bkat BK135.out 1; have hcz25_2 := bkat BK135.out 2; have hfz25_0 := bfz BK135.out 0; have hfz25_1 := bfz BK135.out 1; have hfz25_2 := bfz BK135.out 2) | (go_at_call 54; (with_reducible refine (graph_Has.calls a0_0 _ _ l0_1 ((rd_T53 l0_1 x24_2).f1) true _ ?side1 ?side2 A16.out).mono ?_); (case side1 => exact bc (Kd.C_below HR0_1.out HB.out)); (case side2 => exact HC0_1.out); rintro e w26 ⟨rfl, hb⟩; have n0_ := ak (blk_below (g := gb128) (o := .cells #[.int .i64 a0_0, .slice (some ad134) l0_1.length c0_1] 24 (0, 0)) (bk BK128.out) hb); have n1_ := ak (blk_below (g := gb135) (o := .cells #[.int .i64 ((rd_T53 l0_1 x24_2).f0), .int .i64 ((rd_T53 l0_1 x24_2).f1), .int .i64 ((rd_T53 l0_1 x24_2).f2)] 53 (0, 0)) (bk BK135.out) hb); have n2_ := ak (below_step HB.out hb); clear BK128; clear BK135; clear HB; have BK128 := n0_; have BK135 := n1_; have HB := n2_; clear n0_ n1_ n2_; (try clear hb); have hcz27_0 := bkat BK135.out 0; have hcz27_1 := bkat BK135.out 1; have hcz27_2 := bkat BK135.out 2; have hfz27_0 := bfz BK135.out 0; have hfz27_1 := bfz BK135.out 1; have hfz27_2 := bfz BK135.out 2))
            go_ret
            exact ⟨de, bq2 HB.out GE128.out GE135.out⟩
           ·
            rw [if_neg c18] at H; have c18b0 : (((rd_T53 l0_1 x24_2).f0) == ((rd_T53 l0_1 x24_2).f1)) = false := beq_eq_false_iff_ne.mpr c18; have c18b1 : (((rd_T53 l0_1 x24_2).f0) != ((rd_T53 l0_1 x24_2).f1)) = true := bne_iff_ne.mpr c18; have H' := ak H; clear H; have p134 : 0 ≤ (x24_2 : Int) := od; have q134 : x24_2 < (l0_1.length : Int) := od; obtain ⟨ad134, e134, hx134_0, hx134_1, hx134_2⟩ := at_T53 HR0_1.out x24_2 p134 q134; cases e134; replace hx134_0 := bce HB.out hx134_0; replace hx134_1 := bce HB.out hx134_1; replace hx134_2 := bce HB.out hx134_2; replace p134 := eq_true p134; replace q134 := eq_true q134
            go_wp2_with (first | ((with_reducible refine gate_dst (N := 4) rfl ?_); (try (refine gate_guard (by rfl) ?_; dsimp only)); refine box_event ?hg (N := 4) ?hd (cs := #[.int .i64 0, .int .i64 0, .int .i64 0]) (t := 53) ?hr ?_; (case hd => rfl); (case hg => rfl); (case hr => first | (go_simp; done) | (go_simp; rfl)); intro gb135 hg w28 hbox hb; have BK135 := ak (hbox); have GW135 := ak ((by rw [hg]; exact (below_size HB.out) : w.heap.size ≤ gb135)); have GE135 := ak ((by rw [hg]; exact (below_size HB.out) : w.heap.size ≤ gb135)); replace HB := ak (below_step HB.out hb); have NB128_135 := ak ((by rw [hg]; exact Nat.ne_of_lt (blk_lt (g := gb128) (o := .cells #[.int .i64 a0_0, .slice (some ad134) l0_1.length c0_1] 24 (0, 0)) BK128.out) : gb128 ≠ gb135)); have NB135_128 := ak ((by rw [hg]; exact Nat.ne_of_gt (blk_lt (g := gb128) (o := .cells #[.int .i64 a0_0, .slice (some ad134) l0_1.length c0_1] 24 (0, 0)) (bk BK128.out)) : gb135 ≠ gb128)); replace BK128 := ak (blk_below (g := gb128) (o := .cells #[.int .i64 a0_0, .slice (some ad134) l0_1.length c0_1] 24 (0, 0)) (bk BK128.out) hb); clear hb hbox hg; have hnb29 := NB135_128.out; have hnc29 := NB128_135.out; have hcz30_0 := bkat BK135.out 0; have hcz30_1 := bkat BK135.out 1; have hcz30_2 := bkat BK135.out 2; have hfz30_0 := bfz BK135.out 0; have hfz30_1 := bfz BK135.out 1; have hfz30_2 := bfz BK135.out 2; have hcz31_0 := bkat BK128.out 0; have hcz31_1 := bkat BK128.out 1; have hfz31_0 := bfz BK128.out 0; have hfz31_1 := bfz BK128.out 1) | ((with_reducible refine gate_callee (f := 54) rfl ?_); refine gl 31 Try.func54 #[.agg #[.int .i64 a0_0, .slice (some ad134) l0_1.length c0_1], .int .i64 ((rd_T53 l0_1 x24_2).f0)] ?_; (with_reducible refine (graph_Has.calls a0_0 _ _ l0_1 ((rd_T53 l0_1 x24_2).f0) true _ ?side1 ?side2 A14.out).mono ?_); (case side1 => exact Kd.C_below HR0_1.out (bq2 HB.out GE128.out GE135.out)); (case side2 => exact HC0_1.out); rintro e w32 ⟨rfl, hb⟩; refine ⟨_, rfl, ?_⟩; replace BK128 := ak (blk_below (g := gb128) (o := .cells #[.int .i64 a0_0, .slice (some ad134) l0_1.length c0_1] 24 (0, 0)) (by refine bl ?_; refine blk_far ?_ NB128_135.out _; refine bl ?_; refine blk_far ?_ NB128_135.out _; refine bl ?_; refine blk_far ?_ NB128_135.out _; refine bl ?_; exact BK128.out) hb); replace BK135 := ak (blk_below (g := gb135) (o := .cells #[.int .i64 ((rd_T53 l0_1 x24_2).f0), .int .i64 ((rd_T53 l0_1 x24_2).f1), .int .i64 ((rd_T53 l0_1 x24_2).f2)] 53 (0, 0)) (by refine bl ?_; refine blk_put (cs := #[.int .i64 ((rd_T53 l0_1 x24_2).f0), .int .i64 ((rd_T53 l0_1 x24_2).f1), .int .i64 0]) ?_ 2 _ rfl; refine bl ?_; refine blk_put (cs := #[.int .i64 ((rd_T53 l0_1 x24_2).f0), .int .i64 0, .int .i64 0]) ?_ 1 _ rfl; refine bl ?_; refine blk_put (cs := #[.int .i64 0, .int .i64 0, .int .i64 0]) ?_ 0 _ rfl; refine bl ?_; exact BK135.out) hb); replace HB := ak (below_step (bq2 HB.out GE128.out GE135.out) hb); (try clear hb); have hcz33_0 := bkat BK128.out 0; have hcz33_1 := bkat BK128.out 1; have hfz33_0 := bfz BK128.out 0; have hfz33_1 := bfz BK128.out 1; have hcz34_0 := bkat BK135.out 0; have hcz34_1 := bkat BK135.out 1; have hcz34_2 := bkat BK135.out 2; have hfz34_0 := bfz BK135.out 0; have hfz34_1 := bfz BK135.out 1; have hfz34_2 := bfz BK135.out 2) | (go_at_call 54; (with_reducible refine (graph_Has.calls a0_0 _ _ l0_1 ((rd_T53 l0_1 x24_2).f1) true _ ?side1 ?side2 A16.out).mono ?_); (case side1 => exact bc (Kd.C_below HR0_1.out HB.out)); (case side2 => exact HC0_1.out); rintro e w35 ⟨rfl, hb⟩; have n0_ := ak (blk_below (g := gb128) (o := .cells #[.int .i64 a0_0, .slice (some ad134) l0_1.length c0_1] 24 (0, 0)) (bk BK128.out) hb); have n1_ := ak (blk_below (g := gb135) (o := .cells #[.int .i64 ((rd_T53 l0_1 x24_2).f0), .int .i64 ((rd_T53 l0_1 x24_2).f1), .int .i64 ((rd_T53 l0_1 x24_2).f2)] 53 (0, 0)) BK135.out hb); have n2_ := ak (below_step HB.out hb); clear BK128; clear BK135; clear HB; have BK128 := n0_; have BK135 := n1_; have HB := n2_; clear n0_ n1_ n2_; (try clear hb); have hcz36_0 := bkat BK135.out 0; have hcz36_1 := bkat BK135.out 1; have hcz36_2 := bkat BK135.out 2; have hfz36_0 := bfz BK135.out 0; have hfz36_1 := bfz BK135.out 1; have hfz36_2 := bfz BK135.out 2))
            go_roundg k2
            case measure => have := HJ1.out; have := HK2.out; omega
            case rel => exact ⟨(wrap64 (x24_2 + 1)), ds, H', ⟨by have := HJ1.out; have := HK2.out; omega⟩, ⟨BK128.out⟩, ⟨HB.out⟩⟩
          ·
           replace c17 := Bool.eq_false_iff.mpr c17; subst c17
           have H1 : (some false) = some r := by rw [if_neg (show ¬ (false = true) by decide)] at H; exact H
           clear H; have H := H1; clear H1; obtain rfl := Option.some.inj H; have p134 : 0 ≤ (x24_2 : Int) := od; have q134 : x24_2 < (l0_1.length : Int) := od; obtain ⟨ad134, e134, hx134_0, hx134_1, hx134_2⟩ := at_T53 HR0_1.out x24_2 p134 q134; cases e134; replace hx134_0 := bce HB.out hx134_0; replace hx134_1 := bce HB.out hx134_1; replace hx134_2 := bce HB.out hx134_2; replace p134 := eq_true p134; replace q134 := eq_true q134
           go_wp2_with (first | ((with_reducible refine gate_dst (N := 4) rfl ?_); (try (refine gate_guard (by rfl) ?_; dsimp only)); refine box_event ?hg (N := 4) ?hd (cs := #[.int .i64 0, .int .i64 0, .int .i64 0]) (t := 53) ?hr ?_; (case hd => rfl); (case hg => rfl); (case hr => first | (go_simp; done) | (go_simp; rfl)); intro gb135 hg w37 hbox hb; have BK135 := ak (hbox); have GW135 := ak ((by rw [hg]; exact (below_size HB.out) : w.heap.size ≤ gb135)); have GE135 := ak ((by rw [hg]; exact (below_size HB.out) : w.heap.size ≤ gb135)); replace HB := ak (below_step HB.out hb); have NB128_135 := ak ((by rw [hg]; exact Nat.ne_of_lt (blk_lt (g := gb128) (o := .cells #[.int .i64 a0_0, .slice (some ad134) l0_1.length c0_1] 24 (0, 0)) (bk BK128.out)) : gb128 ≠ gb135)); have NB135_128 := ak ((by rw [hg]; exact Nat.ne_of_gt (blk_lt (g := gb128) (o := .cells #[.int .i64 a0_0, .slice (some ad134) l0_1.length c0_1] 24 (0, 0)) (bk BK128.out)) : gb135 ≠ gb128)); replace BK128 := ak (blk_below (g := gb128) (o := .cells #[.int .i64 a0_0, .slice (some ad134) l0_1.length c0_1] 24 (0, 0)) (bk BK128.out) hb); clear hb hbox hg; have hnb38 := NB135_128.out; have hnc38 := NB128_135.out; have hcz39_0 := bkat BK135.out 0; have hcz39_1 := bkat BK135.out 1; have hcz39_2 := bkat BK135.out 2; have hfz39_0 := bfz BK135.out 0; have hfz39_1 := bfz BK135.out 1; have hfz39_2 := bfz BK135.out 2; have hcz40_0 := bkat BK128.out 0; have hcz40_1 := bkat BK128.out 1; have hfz40_0 := bfz BK128.out 0; have hfz40_1 := bfz BK128.out 1) | ((with_reducible refine gate_callee (f := 54) rfl ?_); refine gl 31 Try.func54 #[.agg #[.int .i64 a0_0, .slice (some ad134) l0_1.length c0_1], .int .i64 ((rd_T53 l0_1 x24_2).f0)] ?_; (with_reducible refine (graph_Has.calls a0_0 _ _ l0_1 ((rd_T53 l0_1 x24_2).f0) true _ ?side1 ?side2 A14.out).mono ?_); (case side1 => exact Kd.C_below HR0_1.out (bq2 HB.out GE128.out GE135.out)); (case side2 => exact HC0_1.out); rintro e w41 ⟨rfl, hb⟩; refine ⟨_, rfl, ?_⟩; replace BK128 := ak (blk_below (g := gb128) (o := .cells #[.int .i64 a0_0, .slice (some ad134) l0_1.length c0_1] 24 (0, 0)) (by refine bl ?_; refine blk_far ?_ NB128_135.out _; refine bl ?_; refine blk_far ?_ NB128_135.out _; refine bl ?_; refine blk_far ?_ NB128_135.out _; refine bl ?_; exact BK128.out) hb); replace BK135 := ak (blk_below (g := gb135) (o := .cells #[.int .i64 ((rd_T53 l0_1 x24_2).f0), .int .i64 ((rd_T53 l0_1 x24_2).f1), .int .i64 ((rd_T53 l0_1 x24_2).f2)] 53 (0, 0)) (by refine bl ?_; refine blk_put (cs := #[.int .i64 ((rd_T53 l0_1 x24_2).f0), .int .i64 ((rd_T53 l0_1 x24_2).f1), .int .i64 0]) ?_ 2 _ rfl; refine bl ?_; refine blk_put (cs := #[.int .i64 ((rd_T53 l0_1 x24_2).f0), .int .i64 0, .int .i64 0]) ?_ 1 _ rfl; refine bl ?_; refine blk_put (cs := #[.int .i64 0, .int .i64 0, .int .i64 0]) ?_ 0 _ rfl; refine bl ?_; exact BK135.out) hb); replace HB := ak (below_step (bq2 HB.out GE128.out GE135.out) hb); (try clear hb); have hcz42_0 := bkat BK128.out 0; have hcz42_1 := bkat BK128.out 1; have hfz42_0 := bfz BK128.out 0; have hfz42_1 := bfz BK128.out 1; have hcz43_0 := bkat BK135.out 0; have hcz43_1 := bkat BK135.out 1; have hcz43_2 := bkat BK135.out 2; have hfz43_0 := bfz BK135.out 0; have hfz43_1 := bfz BK135.out 1; have hfz43_2 := bfz BK135.out 2) | (go_at_call 54; (with_reducible refine (graph_Has.calls a0_0 _ _ l0_1 ((rd_T53 l0_1 x24_2).f1) false _ ?side1 ?side2 A16.out).mono ?_); (case side1 => exact bc (Kd.C_below HR0_1.out HB.out)); (case side2 => exact HC0_1.out); rintro e w44 ⟨rfl, hb⟩; have n0_ := ak (blk_below (g := gb128) (o := .cells #[.int .i64 a0_0, .slice (some ad134) l0_1.length c0_1] 24 (0, 0)) (bk BK128.out) hb); have n1_ := ak (blk_below (g := gb135) (o := .cells #[.int .i64 ((rd_T53 l0_1 x24_2).f0), .int .i64 ((rd_T53 l0_1 x24_2).f1), .int .i64 ((rd_T53 l0_1 x24_2).f2)] 53 (0, 0)) (bk BK135.out) hb); have n2_ := ak (below_step (bq2 HB.out GE128.out GE135.out) hb); clear BK128; clear BK135; clear HB; have BK128 := n0_; have BK135 := n1_; have HB := n2_; clear n0_ n1_ n2_; (try clear hb)))
           go_ret
           exact ⟨de, bq2 HB.out GE128.out GE135.out⟩
         ·
          replace c15 := Bool.eq_false_iff.mpr c15; subst c15
          have H1 : (some false) = some r := by rw [if_neg (show ¬ (false = true) by decide)] at H; exact H
          clear H; have H := H1; clear H1; obtain rfl := Option.some.inj H; have p134 : 0 ≤ (x24_2 : Int) := od; have q134 : x24_2 < (l0_1.length : Int) := od; obtain ⟨ad134, e134, hx134_0, hx134_1, hx134_2⟩ := at_T53 HR0_1.out x24_2 p134 q134; cases e134; replace hx134_0 := bce HB.out hx134_0; replace hx134_1 := bce HB.out hx134_1; replace hx134_2 := bce HB.out hx134_2; replace p134 := eq_true p134; replace q134 := eq_true q134
          go_wp2_with (first | ((with_reducible refine gate_dst (N := 4) rfl ?_); (try (refine gate_guard (by rfl) ?_; dsimp only)); refine box_event ?hg (N := 4) ?hd (cs := #[.int .i64 0, .int .i64 0, .int .i64 0]) (t := 53) ?hr ?_; (case hd => rfl); (case hg => rfl); (case hr => first | (go_simp; done) | (go_simp; rfl)); intro gb135 hg w45 hbox hb; have BK135 := ak (hbox); have GW135 := ak ((by rw [hg]; exact (below_size (bq1 HB.out GE128.out)) : w.heap.size ≤ gb135)); have GE135 := ak ((by rw [hg]; exact (below_size (bq1 HB.out GE128.out)) : w.heap.size ≤ gb135)); replace HB := ak (below_step (bq1 HB.out GE128.out) hb); have NB128_135 := ak ((by rw [hg]; exact Nat.ne_of_lt (blk_lt (g := gb128) (o := .cells #[.int .i64 a0_0, .slice (some ad134) l0_1.length c0_1] 24 (0, 0)) (bk BK128.out)) : gb128 ≠ gb135)); have NB135_128 := ak ((by rw [hg]; exact Nat.ne_of_gt (blk_lt (g := gb128) (o := .cells #[.int .i64 a0_0, .slice (some ad134) l0_1.length c0_1] 24 (0, 0)) (bk BK128.out)) : gb135 ≠ gb128)); replace BK128 := ak (blk_below (g := gb128) (o := .cells #[.int .i64 a0_0, .slice (some ad134) l0_1.length c0_1] 24 (0, 0)) (bk BK128.out) hb); clear hb hbox hg; have hnb46 := NB135_128.out; have hnc46 := NB128_135.out; have hcz47_0 := bkat BK135.out 0; have hcz47_1 := bkat BK135.out 1; have hcz47_2 := bkat BK135.out 2; have hfz47_0 := bfz BK135.out 0; have hfz47_1 := bfz BK135.out 1; have hfz47_2 := bfz BK135.out 2; have hcz48_0 := bkat BK128.out 0; have hcz48_1 := bkat BK128.out 1; have hfz48_0 := bfz BK128.out 0; have hfz48_1 := bfz BK128.out 1) | ((with_reducible refine gate_callee (f := 54) rfl ?_); refine gl 31 Try.func54 #[.agg #[.int .i64 a0_0, .slice (some ad134) l0_1.length c0_1], .int .i64 ((rd_T53 l0_1 x24_2).f0)] ?_; (with_reducible refine (graph_Has.calls a0_0 _ _ l0_1 ((rd_T53 l0_1 x24_2).f0) false _ ?side1 ?side2 A14.out).mono ?_); (case side1 => exact Kd.C_below HR0_1.out (bq2 HB.out GE128.out GE135.out)); (case side2 => exact HC0_1.out); rintro e w49 ⟨rfl, hb⟩; refine ⟨_, rfl, ?_⟩; replace BK128 := ak (blk_below (g := gb128) (o := .cells #[.int .i64 a0_0, .slice (some ad134) l0_1.length c0_1] 24 (0, 0)) (by refine bl ?_; refine blk_far ?_ NB128_135.out _; refine bl ?_; refine blk_far ?_ NB128_135.out _; refine bl ?_; refine blk_far ?_ NB128_135.out _; refine bl ?_; exact BK128.out) hb); replace BK135 := ak (blk_below (g := gb135) (o := .cells #[.int .i64 ((rd_T53 l0_1 x24_2).f0), .int .i64 ((rd_T53 l0_1 x24_2).f1), .int .i64 ((rd_T53 l0_1 x24_2).f2)] 53 (0, 0)) (by refine bl ?_; refine blk_put (cs := #[.int .i64 ((rd_T53 l0_1 x24_2).f0), .int .i64 ((rd_T53 l0_1 x24_2).f1), .int .i64 0]) ?_ 2 _ rfl; refine bl ?_; refine blk_put (cs := #[.int .i64 ((rd_T53 l0_1 x24_2).f0), .int .i64 0, .int .i64 0]) ?_ 1 _ rfl; refine bl ?_; refine blk_put (cs := #[.int .i64 0, .int .i64 0, .int .i64 0]) ?_ 0 _ rfl; refine bl ?_; exact BK135.out) hb); replace HB := ak (below_step (bq2 HB.out GE128.out GE135.out) hb); (try clear hb)))
          go_ret
          exact ⟨de, bq2 HB.out GE128.out GE135.out⟩
        ·
         rw [if_neg c13] at H; exact absurd H (by simp)
       ·
        rw [if_neg c12] at H; exact absurd H (by simp)
      ·
       rw [if_neg c11] at H; have c11b0 : decide (x24_2 < (l0_1.length : Int)) = false := df c11; clear c11; replace H := Option.bind_eq_some_iff.mp H; obtain ⟨t129, A500, H⟩ := H; replace H : ((rate_Sum.f k2 t129).bind fun bt132 => (some bt132.2)) = some r := H; have A50 := ak A500; clear A500; replace H := Option.bind_eq_some_iff.mp H; obtain ⟨⟨t132, t133⟩, A510, H⟩ := H; replace H : (some t133) = some r := H; have A51 := ak A510; clear A510; obtain rfl := Option.some.inj H; have hcz52_0 := bkat BK128.out 0; have hcz52_1 := bkat BK128.out 1; have hfz52_0 := bfz BK128.out 0; have hfz52_1 := bfz BK128.out 1
       go_wp2_with (first | ((with_reducible refine gate_callee (f := 69) rfl ?_); refine gl 50 Try.func69 #[.agg #[.int .i64 a0_0, .slice A0_1 l0_1.length c0_1]] ?_; (with_reducible refine (graph_Caps.calls k2 a0_0 _ _ l0_1 t129 _ ?side1 ?side2 A50.out).mono ?_); (case side1 => exact (Kd.C_below HR0_1.out HB.out)); (case side2 => exact HC0_1.out); rintro e w53 ⟨v130, rfl, ho0, hb⟩; refine ⟨_, rfl, ?_⟩; have HO131 := ak (Kd.R_lower ho0 (below_size HB.out)); replace BK128 := ak (blk_below (g := gb128) (o := .cells #[.int .i64 a0_0, .slice A0_1 l0_1.length c0_1] 24 (0, 0)) BK128.out hb); replace HB := ak (below_step HB.out hb); (try clear hb); (try clear ho0); obtain ⟨Ao54, co54, eo54⟩ := Kd.R_slice HO131.out; subst eo54) | ((with_reducible refine gate_callee (f := 68) rfl ?_); refine gl 51 Try.func68 #[.slice Ao54 t129.length co54] ?_; (with_reducible refine (rate_Sum.calls k2 _ _ t129 t132 t133 _ ?side1 ?side2 A51.out).mono ?_); (case side1 => exact (Kd.R_reads' HO131.out).2.2); (case side2 => exact (Kd.R_reads' HO131.out).2.1); rintro e w' ⟨rfl, ⟨nd, rfl⟩⟩; refine ⟨_, rfl, ?_⟩))
       go_ret
       exact ⟨de, bq1 HB.out GE128.out⟩
mutual
def graph_Takes.j0 : Nat → List Int → Bool → Int → List (S53) → Option (Bool)
 | 0, _, _, _, _ => none
 | k + 1, x1, x17, xkb, xka => if x17 = true then (some false) else (graph_Takes.l0 k x1 (x1.length : Int) 0 xkb xka)
def graph_Takes.l0 : Nat → List Int → Int → Int → Int → List (S53) → Option (Bool)
 | 0, _, _, _, _, _ => none
 | k + 1, x18, x19, x20, xkb, xka => if x20 < x19 then (if 0 ≤ x20 then (if x20 < (x18.length : Int) then (if (rd x18 x20) < 0 then (some false) else (if x20 < (xka.length : Int) then (if (rd x18 x20) > ((rd_T53 xka x20).f2) then (some false) else (graph_Takes.l0 k x18 x19 (wrap64 (x20 + 1)) xkb xka)) else (none))) else (none)) else (none)) else (some true)
end
def graph_Takes.f (k : Nat) (a0_0 : Int) (l0_1 : List (S53)) (l1 : List Int) : Option (Bool) := (graph_May.f k a0_0 l0_1).bind fun t139 => (if t139 = true then (graph_Takes.j0 k l1 ((l1.length : Int) != (l0_1.length : Int)) a0_0 l0_1) else (graph_Takes.j0 k l1 true a0_0 l0_1))
theorem graph_Takes.calls (k : Nat) (a0_0 : Int) (A0_1 : Option Addr) (c0_1 : Nat) (l0_1 : List (S53)) (A1 : Option Addr) (c1 : Nat) (l1 : List Int) (r : Bool) (w : World) (hr0_1 : Kd.C k53 w A0_1 l0_1.length l0_1) (hc0_1 : l0_1.length ≤ c0_1) (hr1 : Kd.C (Kd.int .i64) w A1 l1.length l1) (hc1 : l1.length ≤ c1) (h : graph_Takes.f k a0_0 l0_1 l1 = some r) :
  Calls Try.prog 53 #[.agg #[.int .i64 a0_0, .slice A0_1 l0_1.length c0_1], .slice A1 l1.length c1] w fun e w' => e = .returned (.bool r) ∧ Below w.heap.size w w' := by
 have hu24 := Try.underlying24; have HR0_1 := ak hr0_1; have HC0_1 := ak hc0_1; clear hr0_1 hc0_1; have HR1 := ak hr1; have HC1 := ak hc1; clear hr1 hc1; have HB := ak (Below.refl w.heap.size w); have H : ((graph_May.f k a0_0 l0_1).bind fun t139 => (if t139 = true then (graph_Takes.j0 k l1 ((l1.length : Int) != (l0_1.length : Int)) a0_0 l0_1) else (graph_Takes.j0 k l1 true a0_0 l0_1))) = some r := h; clear h; have HC3 := ak H; clear H
 go_enter Try.func53, Try.ntmps53
 go_upto_region 1 with (first | ((with_reducible refine gate_dst (N := 2) rfl ?_); (try (refine gate_guard (by rfl) ?_; dsimp only)); refine box_event ?hg (N := 2) ?hd (cs := #[.int .i64 a0_0, .slice A0_1 l0_1.length c0_1]) (t := 24) ?hr ?_; (case hd => rfl); (case hg => rfl); (case hr => first | (go_simp; done) | (go_simp; rfl)); intro gb138 hg w4 hbox hb; have BK138 := ak (hbox); have GW138 := ak ((by rw [hg]; exact (below_size HB.out) : w.heap.size ≤ gb138)); have GE138 := ak ((by rw [hg]; exact (below_size HB.out) : w.heap.size ≤ gb138)); replace HB := ak (below_step HB.out hb); clear hb hbox hg))
 (try simp only [Act.put, List.setIfInBounds_toArray, List.set_cons_zero, List.set_cons_succ])
 go_cut [17] (fun v17 wc => ∃ (kq : Nat) (x17_2 : Bool), v17 = .bool x17_2 ∧ Aside0 (graph_Takes.j0 kq l1 x17_2 a0_0 l0_1 = some r) ∧ Aside0 (kq ≤ k) ∧ Aside0 (wc.heap[gb138]? = some (.cells #[.int .i64 a0_0, (.slice A0_1 l0_1.length c0_1)] 24 (0, 0))) ∧ Aside0 (Below w.heap.size w wc))
 case first =>
  have H := HC3.out; clear HC3; replace H := Option.bind_eq_some_iff.mp H; obtain ⟨t139, A50, H⟩ := H; replace H : (if t139 = true then (graph_Takes.j0 k l1 ((l1.length : Int) != (l0_1.length : Int)) a0_0 l0_1) else (graph_Takes.j0 k l1 true a0_0 l0_1)) = some r := H; have A5 := ak A50; clear A50
  by_cases c6 : t139 = true
  ·
   subst c6
   have H1 : (graph_Takes.j0 k l1 ((l1.length : Int) != (l0_1.length : Int)) a0_0 l0_1) = some r := by rw [if_pos rfl] at H; exact H
   clear H; have H := H1; clear H1; have H' := ak H; clear H; have hcz7_0 := bkat BK138.out 0; have hcz7_1 := bkat BK138.out 1; have hfz7_0 := bfz BK138.out 0; have hfz7_1 := bfz BK138.out 1
   go_wp2_with (first | ((with_reducible refine gate_callee (f := 61) rfl ?_); refine gl 8 Try.func61 #[.agg #[.int .i64 a0_0, .slice A0_1 l0_1.length c0_1]] ?_; (with_reducible refine (graph_May.calls k a0_0 _ _ l0_1 true _ ?side1 ?side2 A5.out).mono ?_); (case side1 => exact (Kd.C_below HR0_1.out HB.out)); (case side2 => exact HC0_1.out); rintro e w8 ⟨rfl, hb⟩; refine ⟨_, rfl, ?_⟩; replace BK138 := ak (blk_below BK138.out hb); replace HB := ak (below_step HB.out hb); (try clear hb); have hcz9_0 := bkat BK138.out 0; have hcz9_1 := bkat BK138.out 1; have hfz9_0 := bfz BK138.out 0; have hfz9_1 := bfz BK138.out 1))
   go_meet
   case rel => exact ⟨_, (((l1.length : Int) != (l0_1.length : Int))), ds, H', ⟨by first | omega | exact Nat.le_refl _⟩, ⟨BK138.out⟩, ⟨HB.out⟩⟩
  ·
   replace c6 := Bool.eq_false_iff.mpr c6; subst c6
   have H1 : (graph_Takes.j0 k l1 true a0_0 l0_1) = some r := by rw [if_neg (show ¬ (false = true) by decide)] at H; exact H
   clear H; have H := H1; clear H1; have H' := ak H; clear H; have hcz10_0 := bkat BK138.out 0; have hcz10_1 := bkat BK138.out 1; have hfz10_0 := bfz BK138.out 0; have hfz10_1 := bfz BK138.out 1
   go_wp2_with (first | ((with_reducible refine gate_callee (f := 61) rfl ?_); refine gl 8 Try.func61 #[.agg #[.int .i64 a0_0, .slice A0_1 l0_1.length c0_1]] ?_; (with_reducible refine (graph_May.calls k a0_0 _ _ l0_1 false _ ?side1 ?side2 A5.out).mono ?_); (case side1 => exact (Kd.C_below HR0_1.out HB.out)); (case side2 => exact HC0_1.out); rintro e w11 ⟨rfl, hb⟩; refine ⟨_, rfl, ?_⟩; replace BK138 := ak (blk_below BK138.out hb); replace HB := ak (below_step HB.out hb); (try clear hb)))
   go_meet
   case rel => exact ⟨_, (true), ds, H', ⟨by first | omega | exact Nat.le_refl _⟩, ⟨BK138.out⟩, ⟨HB.out⟩⟩
 case rest =>
  clear HC3
  repeat (first | clear c1 | clear p2 | clear c5 | clear c6 | clear hcz10_0 | clear hcz10_1 | clear hcz7_0 | clear hcz7_1 | clear hcz9_0 | clear hcz9_1 | clear hfz10_0 | clear hfz10_1 | clear hfz7_0 | clear hfz7_1 | clear hfz9_0 | clear hfz9_1)
  obtain ⟨kq, x17_2, rfl, HA, HJ2, BK138, HB⟩ := hcut; cases kq with
  | zero => exact absurd HA.out (by simp [graph_Takes.j0])
  | succ kj2 =>
   have H := HA.out; clear HA; simp only [graph_Takes.j0] at H
   by_cases c12 : x17_2 = true
   ·
    subst c12
    have H1 : (some false) = some r := by rw [if_pos rfl] at H; exact H
    clear H; have H := H1; clear H1; obtain rfl := Option.some.inj H
    go_wp2
    go_ret
    exact ⟨de, bq1 HB.out GE138.out⟩
   ·
    replace c12 := Bool.eq_false_iff.mpr c12; subst c12
    have H1 : (graph_Takes.l0 kj2 l1 (l1.length : Int) 0 a0_0 l0_1) = some r := by rw [if_neg (show ¬ (false = true) by decide)] at H; exact H
    clear H; have H := H1; clear H1; have H' := ak H; clear H
    go_wp2
    go_loopg [20] kj2 (fun kq v20 w' => ∃ (x20_2 : Int), v20 = .int .i64 x20_2 ∧ Aside0 (graph_Takes.l0 kq l1 (l1.length : Int) x20_2 a0_0 l0_1 = some r) ∧ Aside0 (kq ≤ kj2) ∧ Aside0 (w'.heap[gb138]? = some (.cells #[.int .i64 a0_0, (.slice A0_1 l0_1.length c0_1)] 24 (0, 0))) ∧ Aside0 (Below w.heap.size w w'))
    case atStart => exact ⟨(0), ds, H', ⟨Nat.le_refl _⟩, ⟨BK138.out⟩, ⟨HB.out⟩⟩
    case round =>
     clear H'
     repeat (first | clear c1 | clear p2 | clear c5 | clear c6 | clear c12 | clear hcz10_0 | clear hcz10_1 | clear hcz7_0 | clear hcz7_1 | clear hcz9_0 | clear hcz9_1 | clear hfz10_0 | clear hfz10_1 | clear hfz7_0 | clear hfz7_1 | clear hfz9_0 | clear hfz9_1)
     obtain ⟨x20_2, rfl, HA, HK2, BK138, HB⟩ := hrel; cases gk with
     | zero => exact absurd HA.out (by simp [graph_Takes.l0])
     | succ k2 =>
      have H := HA.out; clear HA; simp only [graph_Takes.l0] at H
      by_cases c13 : x20_2 < (l1.length : Int)
      ·
       rw [if_pos c13] at H; have c13b0 : decide (x20_2 < (l1.length : Int)) = true := dt c13; clear c13
       by_cases c14 : 0 ≤ x20_2
       ·
        rw [if_pos c14] at H; have c14b0 : decide (0 ≤ x20_2) = true := dt c14; clear c14
        by_cases c15 : x20_2 < (l1.length : Int)
        ·
         rw [if_pos c15] at H; have c15b0 : decide (x20_2 < (l1.length : Int)) = true := dt c15; clear c15
         by_cases c16 : (rd l1 x20_2) < 0
         ·
          rw [if_pos c16] at H; have c16b0 : decide ((rd l1 x20_2) < 0) = true := dt c16; clear c16; obtain rfl := Option.some.inj H; have p140 : 0 ≤ (x20_2 : Int) := od; have q140 : x20_2 < (l1.length : Int) := od; obtain ⟨ad140, e140, hx140_0⟩ := Kd.at_int HR1.out x20_2 p140 q140; cases e140; replace hx140_0 := bce HB.out hx140_0; replace p140 := eq_true p140; replace q140 := eq_true q140
          go_wp2
          go_ret
          exact ⟨de, bq1 HB.out GE138.out⟩
         ·
          rw [if_neg c16] at H; have c16b0 : decide ((rd l1 x20_2) < 0) = false := df c16; clear c16
          by_cases c17 : x20_2 < (l0_1.length : Int)
          ·
           rw [if_pos c17] at H; have c17b0 : decide (x20_2 < (l0_1.length : Int)) = true := dt c17; clear c17
           by_cases c18 : (rd l1 x20_2) > ((rd_T53 l0_1 x20_2).f2)
           ·
            rw [if_pos c18] at H; have c18b0 : decide (((rd_T53 l0_1 x20_2).f2) < (rd l1 x20_2)) = true := dt c18; clear c18; obtain rfl := Option.some.inj H; have p140 : 0 ≤ (x20_2 : Int) := od; have q140 : x20_2 < (l1.length : Int) := od; obtain ⟨ad140, e140, hx140_0⟩ := Kd.at_int HR1.out x20_2 p140 q140; cases e140; replace hx140_0 := bce HB.out hx140_0; replace p140 := eq_true p140; replace q140 := eq_true q140; have hcz19_0 := bkat BK138.out 0; have hcz19_1 := bkat BK138.out 1; have hfz19_0 := bfz BK138.out 0; have hfz19_1 := bfz BK138.out 1; have p141 : 0 ≤ (x20_2 : Int) := od; have q141 : x20_2 < (l0_1.length : Int) := od; obtain ⟨ad141, e141, hx141_0, hx141_1, hx141_2⟩ := at_T53 HR0_1.out x20_2 p141 q141; cases e141; replace hx141_0 := bce HB.out hx141_0; replace hx141_1 := bce HB.out hx141_1; replace hx141_2 := bce HB.out hx141_2; replace p141 := eq_true p141; replace q141 := eq_true q141
            go_wp2
            go_ret
            exact ⟨de, bq1 HB.out GE138.out⟩
           ·
            rw [if_neg c18] at H; have c18b0 : decide (((rd_T53 l0_1 x20_2).f2) < (rd l1 x20_2)) = false := df c18; clear c18; have H' := ak H; clear H; have p140 : 0 ≤ (x20_2 : Int) := od; have q140 : x20_2 < (l1.length : Int) := od; obtain ⟨ad140, e140, hx140_0⟩ := Kd.at_int HR1.out x20_2 p140 q140; cases e140; replace hx140_0 := bce HB.out hx140_0; replace p140 := eq_true p140; replace q140 := eq_true q140; have hcz20_0 := bkat BK138.out 0; have hcz20_1 := bkat BK138.out 1; have hfz20_0 := bfz BK138.out 0; have hfz20_1 := bfz BK138.out 1; have p141 : 0 ≤ (x20_2 : Int) := od; have q141 : x20_2 < (l0_1.length : Int) := od; obtain ⟨ad141, e141, hx141_0, hx141_1, hx141_2⟩ := at_T53 HR0_1.out x20_2 p141 q141; cases e141; replace hx141_0 := bce HB.out hx141_0; replace hx141_1 := bce HB.out hx141_1; replace hx141_2 := bce HB.out hx141_2; replace p141 := eq_true p141; replace q141 := eq_true q141
            go_wp2
            go_roundg k2
            case measure => have := HJ2.out; have := HK2.out; omega
            case rel => exact ⟨(wrap64 (x20_2 + 1)), ds, H', ⟨by have := HJ2.out; have := HK2.out; omega⟩, ⟨BK138.out⟩, ⟨HB.out⟩⟩
          ·
           rw [if_neg c17] at H; exact absurd H (by simp)
        ·
         rw [if_neg c15] at H; exact absurd H (by simp)
       ·
        rw [if_neg c14] at H; exact absurd H (by simp)
      ·
       rw [if_neg c13] at H; have c13b0 : decide (x20_2 < (l1.length : Int)) = false := df c13; clear c13; obtain rfl := Option.some.inj H
       go_wp2
       go_ret
       exact ⟨de, bq1 HB.out GE138.out⟩
mutual
def stream_Lies.j0 : Nat → List Int → List Int → Bool → Option (Bool)
 | 0, _, _, _ => none
 | k + 1, x1, x2, x19 => if x19 = true then (some false) else (stream_Lies.l0 k x1 x2 (x2.length : Int) 0)
def stream_Lies.l0 : Nat → List Int → List Int → Int → Int → Option (Bool)
 | 0, _, _, _, _ => none
 | k + 1, x1, x20, x21, x22 => if x22 < x21 then (if 0 ≤ x22 then (if x22 < (x20.length : Int) then (if (rd x20 x22) < 0 then (some false) else (if x22 < (x1.length : Int) then (if (rd x20 x22) > (rd x1 x22) then (some false) else (stream_Lies.l0 k x1 x20 x21 (wrap64 (x22 + 1)))) else (none))) else (none)) else (none)) else (some true)
end
def stream_Lies.f (k : Nat) (a0_0 : Int) (l0_1 : List (S53)) (l1 : List Int) (l2 : List Int) : Option (Bool) := (graph_Takes.f k a0_0 l0_1 l1).bind fun t143 => (if t143 = true then (stream_Lies.j0 k l1 l2 ((l2.length : Int) != (l1.length : Int))) else (stream_Lies.j0 k l1 l2 true))
theorem stream_Lies.calls (k : Nat) (a0_0 : Int) (A0_1 : Option Addr) (c0_1 : Nat) (l0_1 : List (S53)) (A1 : Option Addr) (c1 : Nat) (l1 : List Int) (A2 : Option Addr) (c2 : Nat) (l2 : List Int) (r : Bool) (w : World) (hr0_1 : Kd.C k53 w A0_1 l0_1.length l0_1) (hc0_1 : l0_1.length ≤ c0_1) (hr1 : Kd.C (Kd.int .i64) w A1 l1.length l1) (hc1 : l1.length ≤ c1) (hr2 : Kd.C (Kd.int .i64) w A2 l2.length l2) (hc2 : l2.length ≤ c2) (h : stream_Lies.f k a0_0 l0_1 l1 l2 = some r) :
  Calls Try.prog 59 #[.agg #[.int .i64 a0_0, .slice A0_1 l0_1.length c0_1], .slice A1 l1.length c1, .slice A2 l2.length c2] w fun e w' => e = .returned (.bool r) ∧ Below w.heap.size w w' := by
 have hu24 := Try.underlying24; have HR0_1 := ak hr0_1; have HC0_1 := ak hc0_1; clear hr0_1 hc0_1; have HR1 := ak hr1; have HC1 := ak hc1; clear hr1 hc1; have HR2 := ak hr2; have HC2 := ak hc2; clear hr2 hc2; have HB := ak (Below.refl w.heap.size w); have H : ((graph_Takes.f k a0_0 l0_1 l1).bind fun t143 => (if t143 = true then (stream_Lies.j0 k l1 l2 ((l2.length : Int) != (l1.length : Int))) else (stream_Lies.j0 k l1 l2 true))) = some r := h; clear h; have HC4 := ak H; clear H
 go_enter Try.func59, Try.ntmps59
 go_upto_region 1 with (first | ((with_reducible refine gate_dst (N := 3) rfl ?_); (try (refine gate_guard (by rfl) ?_; dsimp only)); refine box_event ?hg (N := 3) ?hd (cs := #[.int .i64 a0_0, .slice A0_1 l0_1.length c0_1]) (t := 24) ?hr ?_; (case hd => rfl); (case hg => rfl); (case hr => first | (go_simp; done) | (go_simp; rfl)); intro gb142 hg w5 hbox hb; have BK142 := ak (hbox); have GW142 := ak ((by rw [hg]; exact (below_size HB.out) : w.heap.size ≤ gb142)); have GE142 := ak ((by rw [hg]; exact (below_size HB.out) : w.heap.size ≤ gb142)); replace HB := ak (below_step HB.out hb); clear hb hbox hg))
 (try simp only [Act.put, List.setIfInBounds_toArray, List.set_cons_zero, List.set_cons_succ])
 go_cut [19] (fun v19 wc => ∃ (kq : Nat) (x19_3 : Bool), v19 = .bool x19_3 ∧ Aside0 (stream_Lies.j0 kq l1 l2 x19_3 = some r) ∧ Aside0 (kq ≤ k) ∧ Aside0 (wc.heap[gb142]? = some (.cells #[.int .i64 a0_0, (.slice A0_1 l0_1.length c0_1)] 24 (0, 0))) ∧ Aside0 (Below w.heap.size w wc))
 case first =>
  have H := HC4.out; clear HC4; replace H := Option.bind_eq_some_iff.mp H; obtain ⟨t143, A60, H⟩ := H; replace H : (if t143 = true then (stream_Lies.j0 k l1 l2 ((l2.length : Int) != (l1.length : Int))) else (stream_Lies.j0 k l1 l2 true)) = some r := H; have A6 := ak A60; clear A60
  by_cases c7 : t143 = true
  ·
   subst c7
   have H1 : (stream_Lies.j0 k l1 l2 ((l2.length : Int) != (l1.length : Int))) = some r := by rw [if_pos rfl] at H; exact H
   clear H; have H := H1; clear H1; have H' := ak H; clear H; have hcz8_0 := bkat BK142.out 0; have hcz8_1 := bkat BK142.out 1; have hfz8_0 := bfz BK142.out 0; have hfz8_1 := bfz BK142.out 1
   go_wp2_with (first | ((with_reducible refine gate_callee (f := 53) rfl ?_); refine gl 11 Try.func53 #[.agg #[.int .i64 a0_0, .slice A0_1 l0_1.length c0_1], .slice A1 l1.length c1] ?_; (with_reducible refine (graph_Takes.calls k a0_0 _ _ l0_1 _ _ l1 true _ ?side1 ?side2 ?side3 ?side4 A6.out).mono ?_); (case side1 => exact (Kd.C_below HR0_1.out HB.out)); (case side2 => exact HC0_1.out); (case side3 => exact (Kd.C_below HR1.out HB.out)); (case side4 => exact HC1.out); rintro e w9 ⟨rfl, hb⟩; refine ⟨_, rfl, ?_⟩; replace BK142 := ak (blk_below BK142.out hb); replace HB := ak (below_step HB.out hb); (try clear hb)))
   go_meet
   case rel => exact ⟨_, (((l2.length : Int) != (l1.length : Int))), ds, H', ⟨by first | omega | exact Nat.le_refl _⟩, ⟨BK142.out⟩, ⟨HB.out⟩⟩
  ·
   replace c7 := Bool.eq_false_iff.mpr c7; subst c7
   have H1 : (stream_Lies.j0 k l1 l2 true) = some r := by rw [if_neg (show ¬ (false = true) by decide)] at H; exact H
   clear H; have H := H1; clear H1; have H' := ak H; clear H; have hcz10_0 := bkat BK142.out 0; have hcz10_1 := bkat BK142.out 1; have hfz10_0 := bfz BK142.out 0; have hfz10_1 := bfz BK142.out 1
   go_wp2_with (first | ((with_reducible refine gate_callee (f := 53) rfl ?_); refine gl 11 Try.func53 #[.agg #[.int .i64 a0_0, .slice A0_1 l0_1.length c0_1], .slice A1 l1.length c1] ?_; (with_reducible refine (graph_Takes.calls k a0_0 _ _ l0_1 _ _ l1 false _ ?side1 ?side2 ?side3 ?side4 A6.out).mono ?_); (case side1 => exact (Kd.C_below HR0_1.out HB.out)); (case side2 => exact HC0_1.out); (case side3 => exact (Kd.C_below HR1.out HB.out)); (case side4 => exact HC1.out); rintro e w11 ⟨rfl, hb⟩; refine ⟨_, rfl, ?_⟩; replace BK142 := ak (blk_below BK142.out hb); replace HB := ak (below_step HB.out hb); (try clear hb)))
   go_meet
   case rel => exact ⟨_, (true), ds, H', ⟨by first | omega | exact Nat.le_refl _⟩, ⟨BK142.out⟩, ⟨HB.out⟩⟩
 case rest =>
  clear HC4
  repeat (first | clear c1 | clear c2 | clear p2 | clear c5 | clear c7 | clear hcz10_0 | clear hcz10_1 | clear hcz8_0 | clear hcz8_1 | clear hfz10_0 | clear hfz10_1 | clear hfz8_0 | clear hfz8_1)
  obtain ⟨kq, x19_3, rfl, HA, HJ3, BK142, HB⟩ := hcut; cases kq with
  | zero => exact absurd HA.out (by simp [stream_Lies.j0])
  | succ kj3 =>
   have H := HA.out; clear HA; simp only [stream_Lies.j0] at H
   by_cases c12 : x19_3 = true
   ·
    subst c12
    have H1 : (some false) = some r := by rw [if_pos rfl] at H; exact H
    clear H; have H := H1; clear H1; obtain rfl := Option.some.inj H
    go_wp2
    go_ret
    exact ⟨de, bq1 HB.out GE142.out⟩
   ·
    replace c12 := Bool.eq_false_iff.mpr c12; subst c12
    have H1 : (stream_Lies.l0 kj3 l1 l2 (l2.length : Int) 0) = some r := by rw [if_neg (show ¬ (false = true) by decide)] at H; exact H
    clear H; have H := H1; clear H1; have H' := ak H; clear H
    go_wp2
    go_loopg [22] kj3 (fun kq v22 w' => ∃ (x22_2 : Int), v22 = .int .i64 x22_2 ∧ Aside0 (stream_Lies.l0 kq l1 l2 (l2.length : Int) x22_2 = some r) ∧ Aside0 (kq ≤ kj3) ∧ Aside0 (w'.heap[gb142]? = some (.cells #[.int .i64 a0_0, (.slice A0_1 l0_1.length c0_1)] 24 (0, 0))) ∧ Aside0 (Below w.heap.size w w'))
    case atStart => exact ⟨(0), ds, H', ⟨Nat.le_refl _⟩, ⟨BK142.out⟩, ⟨HB.out⟩⟩
    case round =>
     clear H'
     repeat (first | clear c1 | clear c2 | clear p2 | clear c5 | clear c7 | clear c12 | clear hcz10_0 | clear hcz10_1 | clear hcz8_0 | clear hcz8_1 | clear hfz10_0 | clear hfz10_1 | clear hfz8_0 | clear hfz8_1)
     obtain ⟨x22_2, rfl, HA, HK2, BK142, HB⟩ := hrel; cases gk with
     | zero => exact absurd HA.out (by simp [stream_Lies.l0])
     | succ k2 =>
      have H := HA.out; clear HA; simp only [stream_Lies.l0] at H
      by_cases c13 : x22_2 < (l2.length : Int)
      ·
       rw [if_pos c13] at H; have c13b0 : decide (x22_2 < (l2.length : Int)) = true := dt c13; clear c13
       by_cases c14 : 0 ≤ x22_2
       ·
        rw [if_pos c14] at H; have c14b0 : decide (0 ≤ x22_2) = true := dt c14; clear c14
        by_cases c15 : x22_2 < (l2.length : Int)
        ·
         rw [if_pos c15] at H; have c15b0 : decide (x22_2 < (l2.length : Int)) = true := dt c15; clear c15
         by_cases c16 : (rd l2 x22_2) < 0
         ·
          rw [if_pos c16] at H; have c16b0 : decide ((rd l2 x22_2) < 0) = true := dt c16; clear c16; obtain rfl := Option.some.inj H; have p144 : 0 ≤ (x22_2 : Int) := od; have q144 : x22_2 < (l2.length : Int) := od; obtain ⟨ad144, e144, hx144_0⟩ := Kd.at_int HR2.out x22_2 p144 q144; cases e144; replace hx144_0 := bce HB.out hx144_0; replace p144 := eq_true p144; replace q144 := eq_true q144
          go_wp2
          go_ret
          exact ⟨de, bq1 HB.out GE142.out⟩
         ·
          rw [if_neg c16] at H; have c16b0 : decide ((rd l2 x22_2) < 0) = false := df c16; clear c16
          by_cases c17 : x22_2 < (l1.length : Int)
          ·
           rw [if_pos c17] at H; have c17b0 : decide (x22_2 < (l1.length : Int)) = true := dt c17; clear c17
           by_cases c18 : (rd l2 x22_2) > (rd l1 x22_2)
           ·
            rw [if_pos c18] at H; have c18b0 : decide ((rd l1 x22_2) < (rd l2 x22_2)) = true := dt c18; clear c18; obtain rfl := Option.some.inj H; have p144 : 0 ≤ (x22_2 : Int) := od; have q144 : x22_2 < (l2.length : Int) := od; obtain ⟨ad144, e144, hx144_0⟩ := Kd.at_int HR2.out x22_2 p144 q144; cases e144; replace hx144_0 := bce HB.out hx144_0; replace p144 := eq_true p144; replace q144 := eq_true q144; have p145 : 0 ≤ (x22_2 : Int) := od; have q145 : x22_2 < (l1.length : Int) := od; obtain ⟨ad145, e145, hx145_0⟩ := Kd.at_int HR1.out x22_2 p145 q145; cases e145; replace hx145_0 := bce HB.out hx145_0; replace p145 := eq_true p145; replace q145 := eq_true q145
            go_wp2
            go_ret
            exact ⟨de, bq1 HB.out GE142.out⟩
           ·
            rw [if_neg c18] at H; have c18b0 : decide ((rd l1 x22_2) < (rd l2 x22_2)) = false := df c18; clear c18; have H' := ak H; clear H; have p144 : 0 ≤ (x22_2 : Int) := od; have q144 : x22_2 < (l2.length : Int) := od; obtain ⟨ad144, e144, hx144_0⟩ := Kd.at_int HR2.out x22_2 p144 q144; cases e144; replace hx144_0 := bce HB.out hx144_0; replace p144 := eq_true p144; replace q144 := eq_true q144; have p145 : 0 ≤ (x22_2 : Int) := od; have q145 : x22_2 < (l1.length : Int) := od; obtain ⟨ad145, e145, hx145_0⟩ := Kd.at_int HR1.out x22_2 p145 q145; cases e145; replace hx145_0 := bce HB.out hx145_0; replace p145 := eq_true p145; replace q145 := eq_true q145
            go_wp2
            go_roundg k2
            case measure => have := HJ3.out; have := HK2.out; omega
            case rel => exact ⟨(wrap64 (x22_2 + 1)), ds, H', ⟨by have := HJ3.out; have := HK2.out; omega⟩, ⟨BK142.out⟩, ⟨HB.out⟩⟩
          ·
           rw [if_neg c17] at H; exact absurd H (by simp)
        ·
         rw [if_neg c15] at H; exact absurd H (by simp)
       ·
        rw [if_neg c14] at H; exact absurd H (by simp)
      ·
       rw [if_neg c13] at H; have c13b0 : decide (x22_2 < (l2.length : Int)) = false := df c13; clear c13; obtain rfl := Option.some.inj H
       go_wp2
       go_ret
       exact ⟨de, bq1 HB.out GE142.out⟩
def stream_gains.l0 : Nat → List Int → List Int → List (S53) → Int → Int → Option (List Int)
 | 0, _, _, _, _, _ => none
 | k + 1, x1, x5, x12, x13, x14 => if x14 < x13 then (if 0 ≤ x14 then (if x14 < (x12.length : Int) then (if 0 ≤ ((rd_T53 x12 x14).f0) then (if ((rd_T53 x12 x14).f0) < (x5.length : Int) then (if x14 < (x1.length : Int) then ((some (x5.set (((rd_T53 x12 x14).f0) : Int).toNat (wrap64 ((rd x5 ((rd_T53 x12 x14).f0)) + (rd x1 x14))) : List Int)).bind fun y154 => (if 0 ≤ ((rd_T53 x12 x14).f1) then (if ((rd_T53 x12 x14).f1) < (x5.length : Int) then (stream_gains.l0 k x1 (y154.set (((rd_T53 x12 x14).f1) : Int).toNat (wrap64 ((rd y154 ((rd_T53 x12 x14).f1)) - (rd x1 x14)))) x12 x13 (wrap64 (x14 + 1))) else (none)) else (none))) else (none)) else (none)) else (none)) else (none)) else (none)) else (some x5)
def stream_gains.f (k : Nat) (a0_0 : Int) (l0_1 : List (S53)) (l1 : List Int) : Option (List Int) := if 0 ≤ a0_0 then (if (a0_0 : Int).toNat ≤ 35184372088832 then (stream_gains.l0 k l1 (List.replicate (a0_0 : Int).toNat 0) l0_1 (l0_1.length : Int) 0) else (none)) else (none)
def stream_gains.T5 : Bool × List (List Nat × List Nat) := (true, [([], []), ([], []), ([1], [1]), ([0, 2], [0, 2]), ([3], [3]), ([], []), ([], []), ([5, 6], [5, 6]), ([7], [7]), ([4, 8], [4, 8]), ([0, 2, 0, 1, 2, 3, 4, 5, 6, 7, 8, 9], [0, 2]), ([10, 9, 0, 1, 2, 3, 4, 5, 6, 7, 8, 9], [9, 10])])
def stream_gains.B5 : List Nat := [0, 0, 2, 7, 15, 0, 0, 96, 224, 511, 1023, 2047]
theorem stream_gains.tab5 : rtab .any (opsOf Try.f60 5) = stream_gains.T5 := by kernel_rfl
theorem stream_gains.bits5 : waitsOk stream_gains.T5.2 stream_gains.B5 = true := by kernel_rfl
def stream_gains.T6 : Bool × List (List Nat × List Nat) := (true, [([], []), ([], []), ([1], [1]), ([0, 2], [0, 2]), ([3], [3]), ([], []), ([], []), ([5, 6], [5, 6]), ([7], [7]), ([4, 8], [4, 8]), ([0, 2, 0, 1, 2, 3, 4, 5, 6, 7, 8, 9], [0, 2]), ([10, 9, 0, 1, 2, 3, 4, 5, 6, 7, 8, 9], [9, 10])])
def stream_gains.B6 : List Nat := [0, 0, 2, 7, 15, 0, 0, 96, 224, 511, 1023, 2047]
theorem stream_gains.tab6 : rtab .any (opsOf Try.f60 6) = stream_gains.T6 := by kernel_rfl
theorem stream_gains.bits6 : waitsOk stream_gains.T6.2 stream_gains.B6 = true := by kernel_rfl
theorem stream_gains.calls (k : Nat) (a0_0 : Int) (A0_1 : Option Addr) (c0_1 : Nat) (l0_1 : List (S53)) (A1 : Option Addr) (c1 : Nat) (l1 : List Int) (r : List Int) (w : World) (hr0_1 : Kd.C k53 w A0_1 l0_1.length l0_1) (hc0_1 : l0_1.length ≤ c0_1) (hr1 : Kd.C (Kd.int .i64) w A1 l1.length l1) (hc1 : l1.length ≤ c1) (h : stream_gains.f k a0_0 l0_1 l1 = some r) :
  Calls Try.prog 60 #[.agg #[.int .i64 a0_0, .slice A0_1 l0_1.length c0_1], .slice A1 l1.length c1] w fun e w' => ∃ v0_ : Value, e = .returned (v0_) ∧ Kd.R (Kd.int .i64) 3 w' w.heap.size (fun _ => True) v0_ r ∧ Below w.heap.size w w' := by
 have hu24 := Try.underlying24; have hu53 := Try.underlying53; have HR0_1 := ak hr0_1; have HC0_1 := ak hc0_1; clear hr0_1 hc0_1; have HR1 := ak hr1; have HC1 := ak hc1; clear hr1 hc1; have HB := ak (Below.refl w.heap.size w); have H : (if 0 ≤ a0_0 then (if (a0_0 : Int).toNat ≤ 35184372088832 then (stream_gains.l0 k l1 (List.replicate (a0_0 : Int).toNat 0) l0_1 (l0_1.length : Int) 0) else (none)) else (none)) = some r := h; clear h
 by_cases c3 : 0 ≤ a0_0
 ·
  rw [if_pos c3] at H; have c3b0 := eq_true c3; have c3b1 : decide (0 ≤ a0_0) = true := dt c3; clear c3
  by_cases c4 : (a0_0 : Int).toNat ≤ 35184372088832
  ·
   rw [if_pos c4] at H; have c4b0 := eq_true c4; have c4b1 : decide ((a0_0 : Int).toNat ≤ 35184372088832) = true := dt c4; clear c4
   obtain ⟨y147, hy147⟩ : ∃ y_ : List Int, y_ = (List.replicate (a0_0 : Int).toNat 0) := ⟨_, rfl⟩
   replace H : (stream_gains.l0 k l1 y147 l0_1 (l0_1.length : Int) 0) = some r := by first | (rw [hy147]; with_reducible exact H) | (have H2_ := (Option.bind_some _ _).symm.trans H; rw [hy147]; with_reducible exact H2_) | (have H2_ := (Option.bind_some _ _).symm.trans H; with_reducible exact H2_) | with_reducible exact H | (rw [hy147]; exact H) | exact H
   have Ny147 := ak hy147; clear hy147; have H' := ak H; clear H
   go_enter Try.func60, Try.ntmps60
   go_wp2_with (first | ((with_reducible refine gate_dst (N := 2) rfl ?_); refine box_event ?hg (N := 2) ?hd (cs := #[.int .i64 a0_0, .slice A0_1 l0_1.length c0_1]) (t := 24) ?hr ?_; (case hd => rfl); (case hg => rfl); (case hr => first | (go_simp; done) | (go_simp; rfl)); intro gb146 hg w5 hbox hb; have BK146 := ak (hbox); have GW146 := ak ((by rw [hg]; exact (below_size HB.out) : w.heap.size ≤ gb146)); have GE146 := ak ((by rw [hg]; exact (below_size HB.out) : w.heap.size ≤ gb146)); replace HB := ak (below_step HB.out hb); clear hb hbox hg; have hcz6_0 := bkat BK146.out 0; have hcz6_1 := bkat BK146.out 1; have hfz6_0 := bfz BK146.out 0; have hfz6_1 := bfz BK146.out 1) | ((with_reducible refine gate_dst (N := 10) rfl ?_); refine Kd.R_make (Kd.int .i64) _ 3 rfl (N := 10) rfl 25 _ _ rfl a0_0 rfl rfl Try.underlying25 (.int .i64 0) 8 info3 rfl (by decide) (by omega) 0 (ok := fun _ => True) (okp := fun _ => True) rfl (fun _ hk => hk) trivial (od) (Nat.le_trans (Nat.mul_le_mul_right _ (od : a0_0.toNat ≤ 35184372088832)) (by omega)) (Below.refl _ _) (Nat.le_refl _) ?_; intro v148 w7 ho8 hb hg_ hnew_; clear hg_ hnew_; (first | rw [← Ny147.out] at ho8 | (simp only [Int.reduceToNat] at ho8; rw [← Ny147.out] at ho8)); have HO149 := ak (Kd.R_lower ho8 (below_size HB.out)); replace BK146 := ak (blk_below BK146.out hb); replace HB := ak (below_step HB.out hb); clear hb ho8; have hcz9_0 := bkat BK146.out 0; have hcz9_1 := bkat BK146.out 1; have hfz9_0 := bfz BK146.out 0; have hfz9_1 := bfz BK146.out 1))
   go_loopg [14] k (fun kq v14 w' => ∃ (x5_1 : List Int) (x14_1 : Int), v14 = .int .i64 x14_1 ∧ Aside0 (stream_gains.l0 kq l1 x5_1 l0_1 (l0_1.length : Int) x14_1 = some r) ∧ Aside0 (kq ≤ k) ∧ Aside0 (Kd.R (Kd.int .i64) 3 w' w.heap.size (fun _ => True) v148 x5_1) ∧ Aside0 (w'.heap[gb146]? = some (.cells #[.int .i64 a0_0, (.slice A0_1 l0_1.length c0_1)] 24 (0, 0))) ∧ Aside0 (Below w.heap.size w w'))
   case atStart => exact ⟨(y147), (0), ds, H', ⟨Nat.le_refl _⟩, ⟨HO149.out⟩, ⟨BK146.out⟩, ⟨HB.out⟩⟩
   case round =>
    clear H'
    repeat (first | clear c1 | clear p2 | clear c3 | clear c3b0 | clear c3b1 | clear c4 | clear c4b0 | clear c4b1 | clear c6 | clear hcz6_0 | clear hcz6_1 | clear hcz9_0 | clear hcz9_1 | clear hfz6_0 | clear hfz6_1 | clear hfz9_0 | clear hfz9_1)
    obtain ⟨x5_1, x14_1, rfl, HA, HK1, HO_5, BK146, HB⟩ := hrel; cases gk with
    | zero => exact absurd HA.out (by simp [stream_gains.l0])
    | succ k1 =>
     have H := HA.out; clear HA; simp only [stream_gains.l0] at H
     by_cases c10 : x14_1 < (l0_1.length : Int)
     ·
      rw [if_pos c10] at H; have c10b0 : decide (x14_1 < (l0_1.length : Int)) = true := dt c10; clear c10
      by_cases c11 : 0 ≤ x14_1
      ·
       rw [if_pos c11] at H; have c11b0 : decide (0 ≤ x14_1) = true := dt c11; clear c11
       by_cases c12 : x14_1 < (l0_1.length : Int)
       ·
        rw [if_pos c12] at H; have c12b0 : decide (x14_1 < (l0_1.length : Int)) = true := dt c12; clear c12
        by_cases c13 : 0 ≤ ((rd_T53 l0_1 x14_1).f0)
        ·
         rw [if_pos c13] at H; have c13b0 : decide (0 ≤ ((rd_T53 l0_1 x14_1).f0)) = true := dt c13; clear c13
         by_cases c14 : ((rd_T53 l0_1 x14_1).f0) < (x5_1.length : Int)
         ·
          rw [if_pos c14] at H; have c14b0 : decide (((rd_T53 l0_1 x14_1).f0) < (x5_1.length : Int)) = true := dt c14; clear c14
          by_cases c15 : x14_1 < (l1.length : Int)
          ·
           rw [if_pos c15] at H; have c15b0 : decide (x14_1 < (l1.length : Int)) = true := dt c15; clear c15
           obtain ⟨y154, hy154⟩ : ∃ y_ : List Int, y_ = (x5_1.set (((rd_T53 l0_1 x14_1).f0) : Int).toNat (wrap64 ((rd x5_1 ((rd_T53 l0_1 x14_1).f0)) + (rd l1 x14_1)))) := ⟨_, rfl⟩
           replace H : (if 0 ≤ ((rd_T53 l0_1 x14_1).f1) then (if ((rd_T53 l0_1 x14_1).f1) < (x5_1.length : Int) then (stream_gains.l0 k1 l1 (y154.set (((rd_T53 l0_1 x14_1).f1) : Int).toNat (wrap64 ((rd y154 ((rd_T53 l0_1 x14_1).f1)) - (rd l1 x14_1)))) l0_1 (l0_1.length : Int) (wrap64 (x14_1 + 1))) else (none)) else (none)) = some r := by first | (rw [hy154]; with_reducible exact H) | (have H2_ := (Option.bind_some _ _).symm.trans H; rw [hy154]; with_reducible exact H2_) | (have H2_ := (Option.bind_some _ _).symm.trans H; with_reducible exact H2_) | with_reducible exact H | (rw [hy154]; exact H) | exact H
           have Ny154 := ak hy154; clear hy154
           by_cases c17 : 0 ≤ ((rd_T53 l0_1 x14_1).f1)
           ·
            rw [if_pos c17] at H; have c17b0 : decide (0 ≤ ((rd_T53 l0_1 x14_1).f1)) = true := dt c17; clear c17
            by_cases c18 : ((rd_T53 l0_1 x14_1).f1) < (x5_1.length : Int)
            ·
             rw [if_pos c18] at H; have c18b0 : decide (((rd_T53 l0_1 x14_1).f1) < (x5_1.length : Int)) = true := dt c18; clear c18
             obtain ⟨y157, hy157⟩ : ∃ y_ : List Int, y_ = (y154.set (((rd_T53 l0_1 x14_1).f1) : Int).toNat (wrap64 ((rd y154 ((rd_T53 l0_1 x14_1).f1)) - (rd l1 x14_1)))) := ⟨_, rfl⟩
             replace H : (stream_gains.l0 k1 l1 y157 l0_1 (l0_1.length : Int) (wrap64 (x14_1 + 1))) = some r := by first | (rw [hy157]; with_reducible exact H) | (have H2_ := (Option.bind_some _ _).symm.trans H; rw [hy157]; with_reducible exact H2_) | (have H2_ := (Option.bind_some _ _).symm.trans H; with_reducible exact H2_) | with_reducible exact H | (rw [hy157]; exact H) | exact H
             have Ny157 := ak hy157; clear hy157; have H' := ak H; clear H; have p150 : 0 ≤ (x14_1 : Int) := od; have q150 : x14_1 < (l0_1.length : Int) := od; obtain ⟨ad150, e150, hx150_0, hx150_1, hx150_2⟩ := at_T53 HR0_1.out x14_1 p150 q150; cases e150; replace hx150_0 := bce HB.out hx150_0; replace hx150_1 := bce HB.out hx150_1; replace hx150_2 := bce HB.out hx150_2; replace p150 := eq_true p150; replace q150 := eq_true q150
             try go_wp2_with (first | ((with_reducible refine gate_dst (N := 7) rfl ?_); refine box_event ?hg (N := 7) ?hd (cs := #[.int .i64 0, .int .i64 0, .int .i64 0]) (t := 53) ?hr ?_; (case hd => rfl); (case hg => rfl); (case hr => first | (go_simp; done) | (go_simp; rfl)); intro gb151 hg w20 hbox hb; replace HO_5 := ak (Kd.R_below HO_5.out hb); have BK151 := ak (hbox); have GW151 := ak ((by rw [hg]; exact (below_size HB.out) : w.heap.size ≤ gb151)); have GE151 := ak ((by rw [hg]; exact (below_size HB.out) : w.heap.size ≤ gb151)); replace HB := ak (below_step HB.out hb); have NB146_151 := ak ((by rw [hg]; exact Nat.ne_of_lt (blk_lt (g := gb146) (o := .cells #[.int .i64 a0_0, .slice (some ad150) l0_1.length c0_1] 24 (0, 0)) BK146.out) : gb146 ≠ gb151)); have NB151_146 := ak ((by rw [hg]; exact Nat.ne_of_gt (blk_lt (g := gb146) (o := .cells #[.int .i64 a0_0, .slice (some ad150) l0_1.length c0_1] 24 (0, 0)) BK146.out) : gb151 ≠ gb146)); replace BK146 := ak (blk_below BK146.out hb); clear hb hbox hg; have hnb21 := NB151_146.out; have hnc21 := NB146_151.out; have hcz22_0 := bkat BK151.out 0; have hcz22_1 := bkat BK151.out 1; have hcz22_2 := bkat BK151.out 2; have hfz22_0 := bfz BK151.out 0; have hfz22_1 := bfz BK151.out 1; have hfz22_2 := bfz BK151.out 2))
             have n0_ : Aside0 (Kd.R (Kd.int .i64) 3 (((w20.setCell ⟨gb151, 0, none⟩ (.int .i64 ((rd_T53 l0_1 x14_1).f0))).setCell ⟨gb151, 1, none⟩ (.int .i64 ((rd_T53 l0_1 x14_1).f1))).setCell ⟨gb151, 2, none⟩ (.int .i64 ((rd_T53 l0_1 x14_1).f2))) w.heap.size (fun _ => True) v148 x5_1) := ⟨by refine rl ?_; exact Kd.R_mono (Kd.R_far (p := ⟨gb151, 2, none⟩) (Kd.R_far (p := ⟨gb151, 1, none⟩) (Kd.R_far (p := ⟨gb151, 0, none⟩) (Kd.R_types HO_5.out BK151.out (by decide)) (fun _ hk => hk.2) (.int .i64 ((rd_T53 l0_1 x14_1).f0))) (fun _ hk => hk.2) (.int .i64 ((rd_T53 l0_1 x14_1).f1))) (fun _ hk => hk.2) (.int .i64 ((rd_T53 l0_1 x14_1).f2))) (fun _ hk => trivial)⟩
             have n1_ : Aside0 ((((w20.setCell ⟨gb151, 0, none⟩ (.int .i64 ((rd_T53 l0_1 x14_1).f0))).setCell ⟨gb151, 1, none⟩ (.int .i64 ((rd_T53 l0_1 x14_1).f1))).setCell ⟨gb151, 2, none⟩ (.int .i64 ((rd_T53 l0_1 x14_1).f2))).heap[gb146]? = some (.cells #[.int .i64 a0_0, .slice (some ad150) l0_1.length c0_1] 24 (0, 0))) := ⟨by refine bl ?_; refine blk_far ?_ NB146_151.out _; refine bl ?_; refine blk_far ?_ NB146_151.out _; refine bl ?_; refine blk_far ?_ NB146_151.out _; refine bl ?_; exact BK146.out⟩
             have n2_ : Aside0 ((((w20.setCell ⟨gb151, 0, none⟩ (.int .i64 ((rd_T53 l0_1 x14_1).f0))).setCell ⟨gb151, 1, none⟩ (.int .i64 ((rd_T53 l0_1 x14_1).f1))).setCell ⟨gb151, 2, none⟩ (.int .i64 ((rd_T53 l0_1 x14_1).f2))).heap[gb151]? = some (.cells #[.int .i64 ((rd_T53 l0_1 x14_1).f0), .int .i64 ((rd_T53 l0_1 x14_1).f1), .int .i64 ((rd_T53 l0_1 x14_1).f2)] 53 (0, 0))) := ⟨by refine bl ?_; refine blk_put (cs := #[.int .i64 ((rd_T53 l0_1 x14_1).f0), .int .i64 ((rd_T53 l0_1 x14_1).f1), .int .i64 0]) ?_ 2 _ rfl; refine bl ?_; refine blk_put (cs := #[.int .i64 ((rd_T53 l0_1 x14_1).f0), .int .i64 0, .int .i64 0]) ?_ 1 _ rfl; refine bl ?_; refine blk_put (cs := #[.int .i64 0, .int .i64 0, .int .i64 0]) ?_ 0 _ rfl; refine bl ?_; exact BK151.out⟩
             have n3_ : Aside0 (Below w.heap.size w (((w20.setCell ⟨gb151, 0, none⟩ (.int .i64 ((rd_T53 l0_1 x14_1).f0))).setCell ⟨gb151, 1, none⟩ (.int .i64 ((rd_T53 l0_1 x14_1).f1))).setCell ⟨gb151, 2, none⟩ (.int .i64 ((rd_T53 l0_1 x14_1).f2)))) := ⟨bq2 HB.out GE146.out GE151.out⟩
             (try clear HO_5); (try clear BK146); (try clear BK151); (try clear HB); generalize (((w20.setCell ⟨gb151, 0, none⟩ (.int .i64 ((rd_T53 l0_1 x14_1).f0))).setCell ⟨gb151, 1, none⟩ (.int .i64 ((rd_T53 l0_1 x14_1).f1))).setCell ⟨gb151, 2, none⟩ (.int .i64 ((rd_T53 l0_1 x14_1).f2))) = w23 at n0_ n1_ n2_ n3_ ⊢; have HO_5 := n0_; have BK146 := n1_; have BK151 := n2_; have HB := n3_; clear n0_ n1_ n2_ n3_; replace HO_5 := ak (Kd.R_drew HO_5.out); replace BK146 := ak (blk_drew BK146.out); replace BK151 := ak (blk_drew BK151.out); replace HB := ak (below_drew1 HB.out); obtain ⟨Ao25, co25, eo25⟩ := Kd.R_slice HO_5.out; (first | subst eo25 | (injection eo25 with f1_ f2_ f3_; have f4_ := f1_.symm; have f5_ := f3_.symm; clear f1_ f2_ f3_; subst f4_; subst f5_)); have p152 : 0 ≤ (((rd_T53 l0_1 x14_1).f0) : Int) := od; have q152 : ((rd_T53 l0_1 x14_1).f0) < (x5_1.length : Int) := od; obtain ⟨ad152, e152, hx152_0⟩ := Kd.at_int (Kd.R_reads' HO_5.out).2.2 ((rd_T53 l0_1 x14_1).f0) p152 q152; cases e152; replace p152 := eq_true p152; replace q152 := eq_true q152; have p153 : 0 ≤ (x14_1 : Int) := od; have q153 : x14_1 < (l1.length : Int) := od; obtain ⟨ad153, e153, hx153_0⟩ := Kd.at_int HR1.out x14_1 p153 q153; have hw153_0 := hx153_0; cases e153; replace hx153_0 := bce HB.out hx153_0; replace p153 := eq_true p153; replace q153 := eq_true q153; have p16 : 0 ≤ (((rd_T53 l0_1 x14_1).f0) : Int) := od; have q16 : (((rd_T53 l0_1 x14_1).f0) : Int) < ((x5_1.length : Int) : Int) := od; obtain ⟨go16, co16, eo16, gb16, gl16, cl16, HG16⟩ := Kd.R_form HO_5.out (by omega); (first | cases eo16 | (injection eo16 with ea_ en_ ec_; (first | subst ea_ | (injection ea_ with ea_; subst ea_)); subst ec_; clear en_)); have GB16 := ak gb16; have GG16 := ak HG16; clear gb16 gl16 HG16; (first | simp only [add_plain] at hx152_0 | skip); obtain ⟨hx16_0, hf16_0⟩ := Kd.R_celln 0 HO_5.out (((rd_T53 l0_1 x14_1).f0) : Int) p16 q16; replace p16 := eq_true p16; replace q16 := eq_true q16; have HP26 := Kd.R_putn HO_5.out (((rd_T53 l0_1 x14_1).f0) : Int) (wrap64 ((rd x5_1 ((rd_T53 l0_1 x14_1).f0)) + (rd l1 x14_1))); rw [← Ny154.out] at HP26; have HQ26 := ak HP26; clear HP26; refine start_ (n := 12) (S := fun w' => w'.cell? ⟨gb151, 0, none⟩ = some (.int .i64 ((rd_T53 l0_1 x14_1).f0)) ∧ w'.cell? ⟨gb151, 1, none⟩ = some (.int .i64 ((rd_T53 l0_1 x14_1).f1)) ∧ w'.cell? ⟨gb151, 2, none⟩ = some (.int .i64 ((rd_T53 l0_1 x14_1).f2)) ∧ w'.cell? ⟨go16, (((rd_T53 l0_1 x14_1).f0)).toNat, none⟩ = some (.int .i64 (rd x5_1 ((rd_T53 l0_1 x14_1).f0))) ∧ w'.cell? (ad153.add (x14_1).toNat) = some (.int .i64 (rd l1 x14_1))) (ds := [11]) (mk 12 0) (by kernel_rfl) rfl (by kernel_rfl) ⟨bkat BK151.out 0, bkat BK151.out 1, bkat BK151.out 2, hx152_0, (bce HB.out hw153_0)⟩ (fun hHeld => ?_); refine with_tabW stream_gains.tab5 stream_gains.bits5 (fun HT_ HW_ => ?_); generalize w23.drew = w24 at HO_5 BK146 BK151 HB GG16 HQ26 hf16_0 hx152_0 hx153_0 hx16_0 hHeld ⊢; refine pu 0 19 (mk 12 1) HT_ ?_; refine pu 1 20 (mk 12 3) HT_ ?_; refine pu 5 24 (mk 12 35) HT_ ?_; refine pu 6 25 (mk 12 99) HT_ ?_; refine pu 7 26 (mk 12 227) HT_ ?_; refine ta 2 21 (mk 12 231) rfl rfl HT_ HW_ hHeld (Or.inl ⟨by rfl, by rintro w' ⟨s0, s1, s2, s3, s4⟩; go_simp; with_reducible rfl⟩) ?_; refine pu 3 22 (mk 12 239) HT_ ?_; refine ta 4 23 (mk 12 255) rfl rfl HT_ HW_ hHeld (Or.inl ⟨by rfl, by rintro w' ⟨s0, s1, s2, s3, s4⟩; go_simp; with_reducible rfl⟩) ?_
             refine ta 8 27 (mk 12 511) rfl rfl HT_ HW_ hHeld (Or.inl ⟨by rfl, by rintro w' ⟨s0, s1, s2, s3, s4⟩; go_simp; with_reducible rfl⟩) ?_; refine pu 9 28 (mk 12 1023) HT_ ?_; refine pu 10 29 (mk 12 2047) HT_ ?_; refine last_ (i := 11) (N := none) (mk 12 4095) rfl rfl (one_of HT_.out (by kernel_rfl)) (by decide) (fun K hK => ?_); refine skip_ (w1 := ?_) (by rfl) rfl ?_ ?_; rotate_left
             ·
              go_simp; rfl
             refine hK.out _ _ ?_; clear hK K; refine done_ (done_of HT_.out (by kernel_rfl)) ?_
             try go_wp2
             have n0_ : Aside0 (Kd.R (Kd.int .i64) 3 (w24.setCell ⟨go16, (((rd_T53 l0_1 x14_1).f0) : Int).toNat, none⟩ (.int .i64 (wrap64 ((rd x5_1 ((rd_T53 l0_1 x14_1).f0)) + (rd l1 x14_1))))) w.heap.size (fun _ => True) (.slice (some ⟨go16, 0, none⟩) x5_1.length co25) y154) := ⟨HQ26.out⟩
             have n1_ : Aside0 ((w24.setCell ⟨go16, (((rd_T53 l0_1 x14_1).f0) : Int).toNat, none⟩ (.int .i64 (wrap64 ((rd x5_1 ((rd_T53 l0_1 x14_1).f0)) + (rd l1 x14_1))))).heap[gb146]? = some (.cells #[.int .i64 a0_0, .slice (some ad150) l0_1.length c0_1] 24 (0, 0))) := ⟨by refine bl ?_; refine blk_far ?_ (by have h_ := Kd.R_ne HO_5.out BK146.out (by decide); intro e_; exact h_ (by rw [e_]; rfl)) _; refine bl ?_; exact BK146.out⟩
             have n2_ : Aside0 ((w24.setCell ⟨go16, (((rd_T53 l0_1 x14_1).f0) : Int).toNat, none⟩ (.int .i64 (wrap64 ((rd x5_1 ((rd_T53 l0_1 x14_1).f0)) + (rd l1 x14_1))))).heap[gb151]? = some (.cells #[.int .i64 ((rd_T53 l0_1 x14_1).f0), .int .i64 ((rd_T53 l0_1 x14_1).f1), .int .i64 ((rd_T53 l0_1 x14_1).f2)] 53 (0, 0))) := ⟨by refine bl ?_; refine blk_far ?_ (by have h_ := Kd.R_ne HO_5.out BK151.out (by decide); intro e_; exact h_ (by rw [e_]; rfl)) _; refine bl ?_; exact BK151.out⟩
             have n3_ : Aside0 (Below w.heap.size w (w24.setCell ⟨go16, (((rd_T53 l0_1 x14_1).f0) : Int).toNat, none⟩ (.int .i64 (wrap64 ((rd x5_1 ((rd_T53 l0_1 x14_1).f0)) + (rd l1 x14_1)))))) := ⟨bq3 HB.out GB16.out GE146.out GE151.out⟩
             (try clear HO_5); (try clear BK146); (try clear BK151); (try clear HB); generalize (w24.setCell ⟨go16, (((rd_T53 l0_1 x14_1).f0) : Int).toNat, none⟩ (.int .i64 (wrap64 ((rd x5_1 ((rd_T53 l0_1 x14_1).f0)) + (rd l1 x14_1))))) = w27 at n0_ n1_ n2_ n3_ ⊢; have HO_5 := n0_; have BK146 := n1_; have BK151 := n2_; have HB := n3_; clear n0_ n1_ n2_ n3_; replace HO_5 := ak (Kd.R_drew HO_5.out); replace BK146 := ak (blk_drew BK146.out); replace BK151 := ak (blk_drew BK151.out); replace HB := ak (below_drew1 HB.out); have p155 : 0 ≤ (((rd_T53 l0_1 x14_1).f1) : Int) := od
             have q155 : ((rd_T53 l0_1 x14_1).f1) < (y154.length : Int) := (by have h_ : (((rd_T53 l0_1 x14_1).f1) : Int) < ((x5_1.length : Int) : Int) := od; first | (have e_ := (Kd.R_reads' HO_5.out).1; omega) | simpa only [Ny154.out, List.length_set] using h_)
             have ql155 : ((((rd_T53 l0_1 x14_1).f1) : Int) < ((x5_1.length : Int) : Int)) = True := eq_true (od); obtain ⟨ad155, e155, hx155_0⟩ := Kd.at_int (Kd.R_reads' HO_5.out).2.2 ((rd_T53 l0_1 x14_1).f1) p155 q155
             obtain rfl : (⟨go16, 0, none⟩ : Addr) = ad155 := (by injection e155)
             (first | simp only [add_plain] at hx155_0 | simp only [add_at] at hx155_0 | simp only [Addr.add, Nat.zero_add] at hx155_0 | skip); replace p155 := eq_true p155; replace q155 := eq_true q155; have p156 : 0 ≤ (x14_1 : Int) := od; have q156 : x14_1 < (l1.length : Int) := od; obtain ⟨ad156, e156, hx156_0⟩ := Kd.at_int HR1.out x14_1 p156 q156; have hw156_0 := hx156_0
             obtain rfl : ad153 = ad156 := (by injection e156)
             replace hx156_0 := bce HB.out hx156_0; replace p156 := eq_true p156; replace q156 := eq_true q156; have p19 : 0 ≤ (((rd_T53 l0_1 x14_1).f1) : Int) := od; have q19 : (((rd_T53 l0_1 x14_1).f1) : Int) < ((x5_1.length : Int) : Int) := od; obtain ⟨hx19_0, hf19_0⟩ := Kd.R_celln 0 HO_5.out (((rd_T53 l0_1 x14_1).f1) : Int) p19 q19; replace p19 := eq_true p19; replace q19 := eq_true q19; have HP29 := Kd.R_putn HO_5.out (((rd_T53 l0_1 x14_1).f1) : Int) (wrap64 ((rd y154 ((rd_T53 l0_1 x14_1).f1)) - (rd l1 x14_1))); rw [← Ny157.out] at HP29; have HQ29 := ak HP29; clear HP29; refine start_ (n := 12) (S := fun w' => w'.cell? ⟨gb151, 0, none⟩ = some (.int .i64 ((rd_T53 l0_1 x14_1).f0)) ∧ w'.cell? ⟨gb151, 1, none⟩ = some (.int .i64 ((rd_T53 l0_1 x14_1).f1)) ∧ w'.cell? ⟨gb151, 2, none⟩ = some (.int .i64 ((rd_T53 l0_1 x14_1).f2)) ∧ w'.cell? ⟨go16, (((rd_T53 l0_1 x14_1).f1)).toNat, none⟩ = some (.int .i64 (rd y154 ((rd_T53 l0_1 x14_1).f1))) ∧ w'.cell? (ad153.add (x14_1).toNat) = some (.int .i64 (rd l1 x14_1))) (ds := [11]) (mk 12 0) (by kernel_rfl) rfl (by kernel_rfl) ⟨bkat BK151.out 0, bkat BK151.out 1, bkat BK151.out 2, hx155_0, (bce HB.out hw156_0)⟩ (fun hHeld => ?_); refine with_tabW stream_gains.tab6 stream_gains.bits6 (fun HT_ HW_ => ?_); generalize w27.drew = w28 at HO_5 BK146 BK151 HB HQ26 HQ29 hf19_0 hx155_0 hx156_0 hx19_0 hHeld ⊢; refine pu 0 30 (mk 12 1) HT_ ?_; refine pu 1 31 (mk 12 3) HT_ ?_; refine pu 5 35 (mk 12 35) HT_ ?_; refine pu 6 36 (mk 12 99) HT_ ?_; refine pu 7 37 (mk 12 227) HT_ ?_; refine ta 2 32 (mk 12 231) rfl rfl HT_ HW_ hHeld (Or.inl ⟨by rfl, by rintro w' ⟨s0, s1, s2, s3, s4⟩; go_simp; with_reducible rfl⟩) ?_; refine pu 3 33 (mk 12 239) HT_ ?_; refine ta 4 34 (mk 12 255) rfl rfl HT_ HW_ hHeld (Or.inl ⟨by rfl, by rintro w' ⟨s0, s1, s2, s3, s4⟩; go_simp; with_reducible rfl⟩) ?_; refine ta 8 38 (mk 12 511) rfl rfl HT_ HW_ hHeld (Or.inl ⟨by rfl, by rintro w' ⟨s0, s1, s2, s3, s4⟩; go_simp; with_reducible rfl⟩) ?_; refine pu 9 39 (mk 12 1023) HT_ ?_; refine pu 10 40 (mk 12 2047) HT_ ?_; refine last_ (i := 11) (N := none) (mk 12 4095) rfl rfl (one_of HT_.out (by kernel_rfl)) (by decide) (fun K hK => ?_); refine skip_ (w1 := ?_) (by rfl) rfl ?_ ?_; rotate_left
             ·
              go_simp; rfl
             refine hK.out _ _ ?_; clear hK K; refine done_ (done_of HT_.out (by kernel_rfl)) ?_
             try go_wp2
             go_roundg k1
             case measure => have := HK1.out; omega
             case rel => exact ⟨(y157), (wrap64 (x14_1 + 1)), ds, H', ⟨by have := HK1.out; omega⟩, ⟨HQ29.out⟩, ⟨by refine bl ?_; refine blk_far ?_ (by have h_ := Kd.R_ne HO_5.out BK146.out (by decide); intro e_; exact h_ (by rw [e_]; rfl)) _; refine bl ?_; exact BK146.out⟩, ⟨bq3 HB.out GB16.out GE146.out GE151.out⟩⟩
            ·
             rw [if_neg c18] at H; exact absurd H (by simp)
           ·
            rw [if_neg c17] at H; exact absurd H (by simp)
          ·
           rw [if_neg c15] at H; exact absurd H (by simp)
         ·
          rw [if_neg c14] at H; exact absurd H (by simp)
        ·
         rw [if_neg c13] at H; exact absurd H (by simp)
       ·
        rw [if_neg c12] at H; exact absurd H (by simp)
      ·
       rw [if_neg c11] at H; exact absurd H (by simp)
     ·
      rw [if_neg c10] at H; have c10b0 : decide (x14_1 < (l0_1.length : Int)) = false := df c10; clear c10; obtain rfl := Option.some.inj H
      go_wp2
      go_ret
      exact ⟨_, de, by refine rl ?_; exact HO_5.out, bq1 HB.out GE146.out⟩
  ·
   rw [if_neg c4] at H; exact absurd H (by simp)
 ·
  rw [if_neg c3] at H; exact absurd H (by simp)
mutual
def stream_May.j0 : Nat → List Int → Int → Int → Bool → Int → List (S53) → Option (Bool)
 | 0, _, _, _, _, _, _ => none
 | k + 1, x2, x3, x4, x34, xkb, xka => if x34 = true then (some false) else ((stream_gains.f k xkb xka x2).bind fun t162 => (stream_May.l0 k x3 x4 t162 (t162.length : Int) 0))
def stream_May.l0 : Nat → Int → Int → List Int → Int → Int → Option (Bool)
 | 0, _, _, _, _, _ => none
 | k + 1, x3, x4, x37, x38, x39 => if x39 < x38 then (if 0 ≤ x39 then (if x39 < (x37.length : Int) then (if x39 = x3 then (if (rd x37 x39) < 0 then (some false) else (stream_May.l0 k x3 x4 x37 x38 (wrap64 (x39 + 1)))) else (if x39 = x4 then (stream_May.l0 k x3 x4 x37 x38 (wrap64 (x39 + 1))) else (if (rd x37 x39) = 0 then (stream_May.l0 k x3 x4 x37 x38 (wrap64 (x39 + 1))) else (some false)))) else (none)) else (none)) else (some true)
end
def stream_May.f (k : Nat) (a0_0 : Int) (l0_1 : List (S53)) (l1 : List Int) (l2 : List Int) (a3 : Int) (a4 : Int) : Option (Bool) := (stream_Lies.f k a0_0 l0_1 l1 l2).bind fun t159 => (if t159 = true then ((graph_Has.f a0_0 l0_1 a3).bind fun t160 => (if t160 = true then ((graph_Has.f a0_0 l0_1 a4).bind fun t161 => (if t161 = true then (stream_May.j0 k l2 a3 a4 (a3 == a4) a0_0 l0_1) else (stream_May.j0 k l2 a3 a4 true a0_0 l0_1))) else (stream_May.j0 k l2 a3 a4 true a0_0 l0_1))) else (stream_May.j0 k l2 a3 a4 true a0_0 l0_1))
theorem stream_May.calls (k : Nat) (a0_0 : Int) (A0_1 : Option Addr) (c0_1 : Nat) (l0_1 : List (S53)) (A1 : Option Addr) (c1 : Nat) (l1 : List Int) (A2 : Option Addr) (c2 : Nat) (l2 : List Int) (a3 : Int) (a4 : Int) (r : Bool) (w : World) (hr0_1 : Kd.C k53 w A0_1 l0_1.length l0_1) (hc0_1 : l0_1.length ≤ c0_1) (hr1 : Kd.C (Kd.int .i64) w A1 l1.length l1) (hc1 : l1.length ≤ c1) (hr2 : Kd.C (Kd.int .i64) w A2 l2.length l2) (hc2 : l2.length ≤ c2) (h : stream_May.f k a0_0 l0_1 l1 l2 a3 a4 = some r) :
  Calls Try.prog 36 #[.agg #[.int .i64 a0_0, .slice A0_1 l0_1.length c0_1], .slice A1 l1.length c1, .slice A2 l2.length c2, .int .i64 a3, .int .i64 a4] w fun e w' => e = .returned (.bool r) ∧ Below w.heap.size w w' := by
 have hu24 := Try.underlying24; have HR0_1 := ak hr0_1; have HC0_1 := ak hc0_1; clear hr0_1 hc0_1; have HR1 := ak hr1; have HC1 := ak hc1; clear hr1 hc1; have HR2 := ak hr2; have HC2 := ak hc2; clear hr2 hc2; have HB := ak (Below.refl w.heap.size w); have H : ((stream_Lies.f k a0_0 l0_1 l1 l2).bind fun t159 => (if t159 = true then ((graph_Has.f a0_0 l0_1 a3).bind fun t160 => (if t160 = true then ((graph_Has.f a0_0 l0_1 a4).bind fun t161 => (if t161 = true then (stream_May.j0 k l2 a3 a4 (a3 == a4) a0_0 l0_1) else (stream_May.j0 k l2 a3 a4 true a0_0 l0_1))) else (stream_May.j0 k l2 a3 a4 true a0_0 l0_1))) else (stream_May.j0 k l2 a3 a4 true a0_0 l0_1))) = some r := h; clear h; have HC6 := ak H; clear H
 go_enter Try.func36, Try.ntmps36
 go_upto_region 1 with (first | ((with_reducible refine gate_dst (N := 5) rfl ?_); refine box_event ?hg (N := 5) ?hd (cs := #[.int .i64 a0_0, .slice A0_1 l0_1.length c0_1]) (t := 24) ?hr ?_; (case hd => rfl); (case hg => rfl); (case hr => first | (go_simp; done) | (go_simp; rfl)); intro gb158 hg w7 hbox hb; have BK158 := ak (hbox); have GW158 := ak ((by rw [hg]; exact (below_size HB.out) : w.heap.size ≤ gb158)); have GE158 := ak ((by rw [hg]; exact (below_size HB.out) : w.heap.size ≤ gb158)); replace HB := ak (below_step HB.out hb); clear hb hbox hg))
 (try simp only [Act.put, List.setIfInBounds_toArray, List.set_cons_zero, List.set_cons_succ])
 go_cut [34] (fun v34 wc => ∃ (kq : Nat) (x34_5 : Bool), v34 = .bool x34_5 ∧ Aside0 (stream_May.j0 kq l2 a3 a4 x34_5 a0_0 l0_1 = some r) ∧ Aside0 (kq ≤ k) ∧ Aside0 (wc.heap[gb158]? = some (.cells #[.int .i64 a0_0, (.slice A0_1 l0_1.length c0_1)] 24 (0, 0))) ∧ Aside0 (Below w.heap.size w wc))
 case first =>
  have H := HC6.out; clear HC6; replace H := Option.bind_eq_some_iff.mp H; obtain ⟨t159, A80, H⟩ := H; replace H : (if t159 = true then ((graph_Has.f a0_0 l0_1 a3).bind fun t160 => (if t160 = true then ((graph_Has.f a0_0 l0_1 a4).bind fun t161 => (if t161 = true then (stream_May.j0 k l2 a3 a4 (a3 == a4) a0_0 l0_1) else (stream_May.j0 k l2 a3 a4 true a0_0 l0_1))) else (stream_May.j0 k l2 a3 a4 true a0_0 l0_1))) else (stream_May.j0 k l2 a3 a4 true a0_0 l0_1)) = some r := H; have A8 := ak A80; clear A80
  by_cases c9 : t159 = true
  ·
   subst c9
   have H1 : ((graph_Has.f a0_0 l0_1 a3).bind fun t160 => (if t160 = true then ((graph_Has.f a0_0 l0_1 a4).bind fun t161 => (if t161 = true then (stream_May.j0 k l2 a3 a4 (a3 == a4) a0_0 l0_1) else (stream_May.j0 k l2 a3 a4 true a0_0 l0_1))) else (stream_May.j0 k l2 a3 a4 true a0_0 l0_1))) = some r := by rw [if_pos rfl] at H; exact H
   clear H; have H := H1; clear H1; replace H := Option.bind_eq_some_iff.mp H; obtain ⟨t160, A100, H⟩ := H; replace H : (if t160 = true then ((graph_Has.f a0_0 l0_1 a4).bind fun t161 => (if t161 = true then (stream_May.j0 k l2 a3 a4 (a3 == a4) a0_0 l0_1) else (stream_May.j0 k l2 a3 a4 true a0_0 l0_1))) else (stream_May.j0 k l2 a3 a4 true a0_0 l0_1)) = some r := H; have A10 := ak A100; clear A100
   by_cases c11 : t160 = true
   ·
    subst c11
    have H1 : ((graph_Has.f a0_0 l0_1 a4).bind fun t161 => (if t161 = true then (stream_May.j0 k l2 a3 a4 (a3 == a4) a0_0 l0_1) else (stream_May.j0 k l2 a3 a4 true a0_0 l0_1))) = some r := by rw [if_pos rfl] at H; exact H
    clear H; have H := H1; clear H1; replace H := Option.bind_eq_some_iff.mp H; obtain ⟨t161, A120, H⟩ := H; replace H : (if t161 = true then (stream_May.j0 k l2 a3 a4 (a3 == a4) a0_0 l0_1) else (stream_May.j0 k l2 a3 a4 true a0_0 l0_1)) = some r := H; have A12 := ak A120; clear A120
    by_cases c13 : t161 = true
    ·
     subst c13
     have H1 : (stream_May.j0 k l2 a3 a4 (a3 == a4) a0_0 l0_1) = some r := by rw [if_pos rfl] at H; exact H
     clear H; have H := H1; clear H1; have H' := ak H; clear H; have hcz14_0 := bkat BK158.out 0; have hcz14_1 := bkat BK158.out 1; have hfz14_0 := bfz BK158.out 0; have hfz14_1 := bfz BK158.out 1
     go_wp2_with (first | ((with_reducible refine gate_callee (f := 59) rfl ?_); refine gl 16 Try.func59 #[.agg #[.int .i64 a0_0, .slice A0_1 l0_1.length c0_1], .slice A1 l1.length c1, .slice A2 l2.length c2] ?_; (with_reducible refine (stream_Lies.calls k a0_0 _ _ l0_1 _ _ l1 _ _ l2 true _ ?side1 ?side2 ?side3 ?side4 ?side5 ?side6 A8.out).mono ?_); (case side1 => exact (Kd.C_below HR0_1.out HB.out)); (case side2 => exact HC0_1.out); (case side3 => exact (Kd.C_below HR1.out HB.out)); (case side4 => exact HC1.out); (case side5 => exact (Kd.C_below HR2.out HB.out)); (case side6 => exact HC2.out); rintro e w15 ⟨rfl, hb⟩; refine ⟨_, rfl, ?_⟩; replace BK158 := ak (blk_below BK158.out hb); replace HB := ak (below_step HB.out hb); (try clear hb); have hcz16_0 := bkat BK158.out 0; have hcz16_1 := bkat BK158.out 1; have hfz16_0 := bfz BK158.out 0; have hfz16_1 := bfz BK158.out 1) | (go_at_call 54; (with_reducible refine (graph_Has.calls a0_0 _ _ l0_1 a3 true _ ?side1 ?side2 A10.out).mono ?_); (case side1 => exact (Kd.C_below HR0_1.out HB.out)); (case side2 => exact HC0_1.out); rintro e w17 ⟨rfl, hb⟩; have n0_ := ak (blk_below BK158.out hb); have n1_ := ak (below_step HB.out hb); clear BK158; clear HB; have BK158 := n0_; have HB := n1_; clear n0_ n1_; (try clear hb); have hcz18_0 := bkat BK158.out 0; have hcz18_1 := bkat BK158.out 1; have hfz18_0 := bfz BK158.out 0; have hfz18_1 := bfz BK158.out 1) | (go_at_call 54; (with_reducible refine (graph_Has.calls a0_0 _ _ l0_1 a4 true _ ?side1 ?side2 A12.out).mono ?_); (case side1 => exact (Kd.C_below HR0_1.out HB.out)); (case side2 => exact HC0_1.out); rintro e w19 ⟨rfl, hb⟩; have n0_ := ak (blk_below BK158.out hb); have n1_ := ak (below_step HB.out hb); clear BK158; clear HB; have BK158 := n0_; have HB := n1_; clear n0_ n1_; (try clear hb)))
     go_meet
     case rel => exact ⟨_, ((a3 == a4)), ds, H', ⟨by first | omega | exact Nat.le_refl _⟩, ⟨BK158.out⟩, ⟨HB.out⟩⟩
    ·
     replace c13 := Bool.eq_false_iff.mpr c13; subst c13
     have H1 : (stream_May.j0 k l2 a3 a4 true a0_0 l0_1) = some r := by rw [if_neg (show ¬ (false = true) by decide)] at H; exact H
     clear H; have H := H1; clear H1; have H' := ak H; clear H; have hcz20_0 := bkat BK158.out 0; have hcz20_1 := bkat BK158.out 1; have hfz20_0 := bfz BK158.out 0; have hfz20_1 := bfz BK158.out 1
     go_wp2_with (first | ((with_reducible refine gate_callee (f := 59) rfl ?_); refine gl 16 Try.func59 #[.agg #[.int .i64 a0_0, .slice A0_1 l0_1.length c0_1], .slice A1 l1.length c1, .slice A2 l2.length c2] ?_; (with_reducible refine (stream_Lies.calls k a0_0 _ _ l0_1 _ _ l1 _ _ l2 true _ ?side1 ?side2 ?side3 ?side4 ?side5 ?side6 A8.out).mono ?_); (case side1 => exact (Kd.C_below HR0_1.out HB.out)); (case side2 => exact HC0_1.out); (case side3 => exact (Kd.C_below HR1.out HB.out)); (case side4 => exact HC1.out); (case side5 => exact (Kd.C_below HR2.out HB.out)); (case side6 => exact HC2.out); rintro e w21 ⟨rfl, hb⟩; refine ⟨_, rfl, ?_⟩; replace BK158 := ak (blk_below BK158.out hb); replace HB := ak (below_step HB.out hb); (try clear hb); have hcz22_0 := bkat BK158.out 0; have hcz22_1 := bkat BK158.out 1; have hfz22_0 := bfz BK158.out 0; have hfz22_1 := bfz BK158.out 1) | (go_at_call 54; (with_reducible refine (graph_Has.calls a0_0 _ _ l0_1 a3 true _ ?side1 ?side2 A10.out).mono ?_); (case side1 => exact (Kd.C_below HR0_1.out HB.out)); (case side2 => exact HC0_1.out); rintro e w23 ⟨rfl, hb⟩; have n0_ := ak (blk_below BK158.out hb); have n1_ := ak (below_step HB.out hb); clear BK158; clear HB; have BK158 := n0_; have HB := n1_; clear n0_ n1_; (try clear hb); have hcz24_0 := bkat BK158.out 0; have hcz24_1 := bkat BK158.out 1; have hfz24_0 := bfz BK158.out 0; have hfz24_1 := bfz BK158.out 1) | (go_at_call 54; (with_reducible refine (graph_Has.calls a0_0 _ _ l0_1 a4 false _ ?side1 ?side2 A12.out).mono ?_); (case side1 => exact (Kd.C_below HR0_1.out HB.out)); (case side2 => exact HC0_1.out); rintro e w25 ⟨rfl, hb⟩; have n0_ := ak (blk_below BK158.out hb); have n1_ := ak (below_step HB.out hb); clear BK158; clear HB; have BK158 := n0_; have HB := n1_; clear n0_ n1_; (try clear hb)))
     go_meet
     case rel => exact ⟨_, (true), ds, H', ⟨by first | omega | exact Nat.le_refl _⟩, ⟨BK158.out⟩, ⟨HB.out⟩⟩
   ·
    replace c11 := Bool.eq_false_iff.mpr c11; subst c11
    have H1 : (stream_May.j0 k l2 a3 a4 true a0_0 l0_1) = some r := by rw [if_neg (show ¬ (false = true) by decide)] at H; exact H
    clear H; have H := H1; clear H1; have H' := ak H; clear H; have hcz26_0 := bkat BK158.out 0; have hcz26_1 := bkat BK158.out 1; have hfz26_0 := bfz BK158.out 0; have hfz26_1 := bfz BK158.out 1
    go_wp2_with (first | ((with_reducible refine gate_callee (f := 59) rfl ?_); refine gl 16 Try.func59 #[.agg #[.int .i64 a0_0, .slice A0_1 l0_1.length c0_1], .slice A1 l1.length c1, .slice A2 l2.length c2] ?_; (with_reducible refine (stream_Lies.calls k a0_0 _ _ l0_1 _ _ l1 _ _ l2 true _ ?side1 ?side2 ?side3 ?side4 ?side5 ?side6 A8.out).mono ?_); (case side1 => exact (Kd.C_below HR0_1.out HB.out)); (case side2 => exact HC0_1.out); (case side3 => exact (Kd.C_below HR1.out HB.out)); (case side4 => exact HC1.out); (case side5 => exact (Kd.C_below HR2.out HB.out)); (case side6 => exact HC2.out); rintro e w27 ⟨rfl, hb⟩; refine ⟨_, rfl, ?_⟩; replace BK158 := ak (blk_below BK158.out hb); replace HB := ak (below_step HB.out hb); (try clear hb); have hcz28_0 := bkat BK158.out 0; have hcz28_1 := bkat BK158.out 1; have hfz28_0 := bfz BK158.out 0; have hfz28_1 := bfz BK158.out 1) | (go_at_call 54; (with_reducible refine (graph_Has.calls a0_0 _ _ l0_1 a3 false _ ?side1 ?side2 A10.out).mono ?_); (case side1 => exact (Kd.C_below HR0_1.out HB.out)); (case side2 => exact HC0_1.out); rintro e w29 ⟨rfl, hb⟩; have n0_ := ak (blk_below BK158.out hb); have n1_ := ak (below_step HB.out hb); clear BK158; clear HB; have BK158 := n0_; have HB := n1_; clear n0_ n1_; (try clear hb)))
    go_meet
    case rel => exact ⟨_, (true), ds, H', ⟨by first | omega | exact Nat.le_refl _⟩, ⟨BK158.out⟩, ⟨HB.out⟩⟩
  ·
   replace c9 := Bool.eq_false_iff.mpr c9; subst c9
   have H1 : (stream_May.j0 k l2 a3 a4 true a0_0 l0_1) = some r := by rw [if_neg (show ¬ (false = true) by decide)] at H; exact H
   clear H; have H := H1; clear H1; have H' := ak H; clear H; have hcz30_0 := bkat BK158.out 0; have hcz30_1 := bkat BK158.out 1; have hfz30_0 := bfz BK158.out 0; have hfz30_1 := bfz BK158.out 1
   go_wp2_with (first | ((with_reducible refine gate_callee (f := 59) rfl ?_); refine gl 16 Try.func59 #[.agg #[.int .i64 a0_0, .slice A0_1 l0_1.length c0_1], .slice A1 l1.length c1, .slice A2 l2.length c2] ?_; (with_reducible refine (stream_Lies.calls k a0_0 _ _ l0_1 _ _ l1 _ _ l2 false _ ?side1 ?side2 ?side3 ?side4 ?side5 ?side6 A8.out).mono ?_); (case side1 => exact (Kd.C_below HR0_1.out HB.out)); (case side2 => exact HC0_1.out); (case side3 => exact (Kd.C_below HR1.out HB.out)); (case side4 => exact HC1.out); (case side5 => exact (Kd.C_below HR2.out HB.out)); (case side6 => exact HC2.out); rintro e w31 ⟨rfl, hb⟩; refine ⟨_, rfl, ?_⟩; replace BK158 := ak (blk_below BK158.out hb); replace HB := ak (below_step HB.out hb); (try clear hb)))
   go_meet
   case rel => exact ⟨_, (true), ds, H', ⟨by first | omega | exact Nat.le_refl _⟩, ⟨BK158.out⟩, ⟨HB.out⟩⟩
 case rest =>
  clear HC6
  repeat (first | clear c1 | clear c2 | clear p2 | clear c3 | clear c5 | clear c9 | clear c11 | clear c13 | clear hcz14_0 | clear hcz14_1 | clear hcz16_0 | clear hcz16_1 | clear hcz18_0 | clear hcz18_1 | clear hcz20_0 | clear hcz20_1 | clear hcz22_0 | clear hcz22_1 | clear hcz24_0 | clear hcz24_1 | clear hcz26_0 | clear hcz26_1 | clear hcz28_0 | clear hcz28_1 | clear hcz30_0 | clear hcz30_1 | clear hfz14_0 | clear hfz14_1 | clear hfz16_0 | clear hfz16_1 | clear hfz18_0 | clear hfz18_1 | clear hfz20_0 | clear hfz20_1 | clear hfz22_0 | clear hfz22_1 | clear hfz24_0 | clear hfz24_1 | clear hfz26_0 | clear hfz26_1 | clear hfz28_0 | clear hfz28_1 | clear hfz30_0 | clear hfz30_1)
  obtain ⟨kq, x34_5, rfl, HA, HJ5, BK158, HB⟩ := hcut; cases kq with
  | zero => exact absurd HA.out (by simp [stream_May.j0])
  | succ kj5 =>
   have H := HA.out; clear HA; simp only [stream_May.j0] at H
   by_cases c32 : x34_5 = true
   ·
    subst c32
    have H1 : (some false) = some r := by rw [if_pos rfl] at H; exact H
    clear H; have H := H1; clear H1; obtain rfl := Option.some.inj H
    go_wp2
    go_ret
    exact ⟨de, bq1 HB.out GE158.out⟩
   ·
    replace c32 := Bool.eq_false_iff.mpr c32; subst c32
    have H1 : ((stream_gains.f kj5 a0_0 l0_1 l2).bind fun t162 => (stream_May.l0 kj5 a3 a4 t162 (t162.length : Int) 0)) = some r := by rw [if_neg (show ¬ (false = true) by decide)] at H; exact H
    clear H; have H := H1; clear H1; replace H := Option.bind_eq_some_iff.mp H; obtain ⟨t162, A330, H⟩ := H; replace H : (stream_May.l0 kj5 a3 a4 t162 (t162.length : Int) 0) = some r := H; have A33 := ak A330; clear A330; have H' := ak H; clear H; have hcz34_0 := bkat BK158.out 0; have hcz34_1 := bkat BK158.out 1; have hfz34_0 := bfz BK158.out 0; have hfz34_1 := bfz BK158.out 1
    go_wp2_with (first | ((with_reducible refine gate_callee (f := 60) rfl ?_); refine gl 37 Try.func60 #[.agg #[.int .i64 a0_0, .slice A0_1 l0_1.length c0_1], .slice A2 l2.length c2] ?_; (with_reducible refine (stream_gains.calls kj5 a0_0 _ _ l0_1 _ _ l2 t162 _ ?side1 ?side2 ?side3 ?side4 A33.out).mono ?_); (case side1 => exact (Kd.C_below HR0_1.out HB.out)); (case side2 => exact HC0_1.out); (case side3 => exact (Kd.C_below HR2.out HB.out)); (case side4 => exact HC2.out); rintro e w35 ⟨v163, rfl, ho0, hb⟩; refine ⟨_, rfl, ?_⟩; have HO164 := ak (Kd.R_lower ho0 (below_size HB.out)); replace BK158 := ak (blk_below BK158.out hb); replace HB := ak (below_step HB.out hb); (try clear hb); (try clear ho0); obtain ⟨Ao36, co36, eo36⟩ := Kd.R_slice HO164.out; subst eo36))
    go_loopg [39] kj5 (fun kq v39 w' => ∃ (x39_2 : Int), v39 = .int .i64 x39_2 ∧ Aside0 (stream_May.l0 kq a3 a4 t162 (t162.length : Int) x39_2 = some r) ∧ Aside0 (kq ≤ kj5) ∧ Aside0 (Kd.R (Kd.int .i64) 3 w' w.heap.size (fun _ => True) (.slice Ao36 t162.length co36) t162) ∧ Aside0 (w'.heap[gb158]? = some (.cells #[.int .i64 a0_0, (.slice A0_1 l0_1.length c0_1)] 24 (0, 0))) ∧ Aside0 (Below w.heap.size w w'))
    case atStart => exact ⟨(0), ds, H', ⟨Nat.le_refl _⟩, ⟨HO164.out⟩, ⟨BK158.out⟩, ⟨HB.out⟩⟩
    case round =>
     clear H'
     repeat (first | clear c1 | clear c2 | clear p2 | clear c3 | clear c5 | clear c6 | clear c9 | clear c11 | clear c13 | clear c32 | clear c36 | clear hcz14_0 | clear hcz14_1 | clear hcz16_0 | clear hcz16_1 | clear hcz18_0 | clear hcz18_1 | clear hcz20_0 | clear hcz20_1 | clear hcz22_0 | clear hcz22_1 | clear hcz24_0 | clear hcz24_1 | clear hcz26_0 | clear hcz26_1 | clear hcz28_0 | clear hcz28_1 | clear hcz30_0 | clear hcz30_1 | clear hcz34_0 | clear hcz34_1 | clear hfz14_0 | clear hfz14_1 | clear hfz16_0 | clear hfz16_1 | clear hfz18_0 | clear hfz18_1 | clear hfz20_0 | clear hfz20_1 | clear hfz22_0 | clear hfz22_1 | clear hfz24_0 | clear hfz24_1 | clear hfz26_0 | clear hfz26_1 | clear hfz28_0 | clear hfz28_1 | clear hfz30_0 | clear hfz30_1 | clear hfz34_0 | clear hfz34_1)
     obtain ⟨x39_2, rfl, HA, HK2, HO_37, BK158, HB⟩ := hrel; cases gk with
     | zero => exact absurd HA.out (by simp [stream_May.l0])
     | succ k2 =>
      have H := HA.out; clear HA; simp only [stream_May.l0] at H
      by_cases c37 : x39_2 < (t162.length : Int)
      ·
       rw [if_pos c37] at H; have c37b0 : decide (x39_2 < (t162.length : Int)) = true := dt c37; clear c37
       by_cases c38 : 0 ≤ x39_2
       ·
        rw [if_pos c38] at H; have c38b0 : decide (0 ≤ x39_2) = true := dt c38; clear c38
        by_cases c39 : x39_2 < (t162.length : Int)
        ·
         rw [if_pos c39] at H; have c39b0 : decide (x39_2 < (t162.length : Int)) = true := dt c39; clear c39
         by_cases c40 : x39_2 = a3
         ·
          rw [if_pos c40] at H; have c40b0 : (x39_2 == a3) = true := beq_iff_eq.mpr c40; have c40b1 : (x39_2 != a3) = false := bne_eq_false_iff_eq.mpr c40; clear c40
          by_cases c41 : (rd t162 x39_2) < 0
          ·
           rw [if_pos c41] at H; have c41b0 : decide ((rd t162 x39_2) < 0) = true := dt c41; clear c41; obtain rfl := Option.some.inj H; have p165 : 0 ≤ (x39_2 : Int) := od; have q165 : x39_2 < (t162.length : Int) := od; obtain ⟨ad165, e165, hx165_0⟩ := Kd.at_int (Kd.R_reads' HO_37.out).2.2 x39_2 p165 q165; cases e165; replace p165 := eq_true p165; replace q165 := eq_true q165
           go_wp2
           go_ret
           exact ⟨de, bq1 HB.out GE158.out⟩
          ·
           rw [if_neg c41] at H; have c41b0 : decide ((rd t162 x39_2) < 0) = false := df c41; clear c41; have H' := ak H; clear H; have p165 : 0 ≤ (x39_2 : Int) := od; have q165 : x39_2 < (t162.length : Int) := od; obtain ⟨ad165, e165, hx165_0⟩ := Kd.at_int (Kd.R_reads' HO_37.out).2.2 x39_2 p165 q165; cases e165; replace p165 := eq_true p165; replace q165 := eq_true q165
           go_wp2
           go_roundg k2
           case measure => have := HJ5.out; have := HK2.out; omega
           case rel => exact ⟨(wrap64 (x39_2 + 1)), ds, H', ⟨by have := HJ5.out; have := HK2.out; omega⟩, ⟨HO_37.out⟩, ⟨BK158.out⟩, ⟨HB.out⟩⟩
         ·
          rw [if_neg c40] at H; have c40b0 : (x39_2 == a3) = false := beq_eq_false_iff_ne.mpr c40; have c40b1 : (x39_2 != a3) = true := bne_iff_ne.mpr c40
          by_cases c42 : x39_2 = a4
          ·
           rw [if_pos c42] at H; have c42b0 : (x39_2 == a4) = true := beq_iff_eq.mpr c42; have c42b1 : (x39_2 != a4) = false := bne_eq_false_iff_eq.mpr c42; clear c42; have H' := ak H; clear H; have p165 : 0 ≤ (x39_2 : Int) := od; have q165 : x39_2 < (t162.length : Int) := od; obtain ⟨ad165, e165, hx165_0⟩ := Kd.at_int (Kd.R_reads' HO_37.out).2.2 x39_2 p165 q165; cases e165; replace p165 := eq_true p165; replace q165 := eq_true q165
           go_wp2
           go_roundg k2
           case measure => have := HJ5.out; have := HK2.out; omega
           case rel => exact ⟨(wrap64 (x39_2 + 1)), ds, H', ⟨by have := HJ5.out; have := HK2.out; omega⟩, ⟨HO_37.out⟩, ⟨BK158.out⟩, ⟨HB.out⟩⟩
          ·
           rw [if_neg c42] at H; have c42b0 : (x39_2 == a4) = false := beq_eq_false_iff_ne.mpr c42; have c42b1 : (x39_2 != a4) = true := bne_iff_ne.mpr c42
           by_cases c43 : (rd t162 x39_2) = 0
           ·
            rw [if_pos c43] at H; have c43b0 : ((rd t162 x39_2) == 0) = true := beq_iff_eq.mpr c43; have c43b1 : ((rd t162 x39_2) != 0) = false := bne_eq_false_iff_eq.mpr c43; clear c43; have H' := ak H; clear H; have p165 : 0 ≤ (x39_2 : Int) := od; have q165 : x39_2 < (t162.length : Int) := od; obtain ⟨ad165, e165, hx165_0⟩ := Kd.at_int (Kd.R_reads' HO_37.out).2.2 x39_2 p165 q165; cases e165; replace p165 := eq_true p165; replace q165 := eq_true q165
            go_wp2
            go_roundg k2
            case measure => have := HJ5.out; have := HK2.out; omega
            case rel => exact ⟨(wrap64 (x39_2 + 1)), ds, H', ⟨by have := HJ5.out; have := HK2.out; omega⟩, ⟨HO_37.out⟩, ⟨BK158.out⟩, ⟨HB.out⟩⟩
           ·
            rw [if_neg c43] at H; have c43b0 : ((rd t162 x39_2) == 0) = false := beq_eq_false_iff_ne.mpr c43; have c43b1 : ((rd t162 x39_2) != 0) = true := bne_iff_ne.mpr c43; obtain rfl := Option.some.inj H; have p165 : 0 ≤ (x39_2 : Int) := od; have q165 : x39_2 < (t162.length : Int) := od; obtain ⟨ad165, e165, hx165_0⟩ := Kd.at_int (Kd.R_reads' HO_37.out).2.2 x39_2 p165 q165; cases e165; replace p165 := eq_true p165; replace q165 := eq_true q165
            go_wp2
            go_ret
            exact ⟨de, bq1 HB.out GE158.out⟩
        ·
         rw [if_neg c39] at H; exact absurd H (by simp)
       ·
        rw [if_neg c38] at H; exact absurd H (by simp)
      ·
       rw [if_neg c37] at H; have c37b0 : decide (x39_2 < (t162.length : Int)) = false := df c37; clear c37; obtain rfl := Option.some.inj H
       go_wp2
       go_ret
       exact ⟨de, bq1 HB.out GE158.out⟩
def arcs_Ends.f (a0_0 : Int) (l0_1 : List (S53)) (a1 : Int) : Option (Int × Int) := if 0 ≤ (wrap64 (Int.tdiv a1 2)) then (if (wrap64 (Int.tdiv a1 2)) < (l0_1.length : Int) then (if (Int.tmod a1 2) = 1 then (some ((rd_T53 l0_1 (wrap64 (Int.tdiv a1 2))).f1, (rd_T53 l0_1 (wrap64 (Int.tdiv a1 2))).f0)) else (some ((rd_T53 l0_1 (wrap64 (Int.tdiv a1 2))).f0, (rd_T53 l0_1 (wrap64 (Int.tdiv a1 2))).f1))) else (none)) else (none)
theorem arcs_Ends.calls (a0_0 : Int) (A0_1 : Option Addr) (c0_1 : Nat) (l0_1 : List (S53)) (a1 : Int) (r1 : Int) (r2 : Int) (w : World) (hr0_1 : Kd.C k53 w A0_1 l0_1.length l0_1) (hc0_1 : l0_1.length ≤ c0_1) (h : arcs_Ends.f a0_0 l0_1 a1 = some (r1, r2)) :
  Calls Try.prog 62 #[.agg #[.int .i64 a0_0, .slice A0_1 l0_1.length c0_1], .int .i64 a1] w fun e w' => e = .returned (.tuple #[.int .i64 r1, .int .i64 r2]) ∧ Below w.heap.size w w' := by
 have hu24 := Try.underlying24; have hu53 := Try.underlying53; have HR0_1 := ak hr0_1; have HC0_1 := ak hc0_1; clear hr0_1 hc0_1; have HB := ak (Below.refl w.heap.size w); have H : (if 0 ≤ (wrap64 (Int.tdiv a1 2)) then (if (wrap64 (Int.tdiv a1 2)) < (l0_1.length : Int) then (if (Int.tmod a1 2) = 1 then (some ((rd_T53 l0_1 (wrap64 (Int.tdiv a1 2))).f1, (rd_T53 l0_1 (wrap64 (Int.tdiv a1 2))).f0)) else (some ((rd_T53 l0_1 (wrap64 (Int.tdiv a1 2))).f0, (rd_T53 l0_1 (wrap64 (Int.tdiv a1 2))).f1))) else (none)) else (none)) = some (r1, r2) := h; clear h
 obtain ⟨ji3, hji3⟩ : ∃ j_ : Int, (wrap64 (Int.tdiv a1 2)) = j_ := ⟨_, rfl⟩
 replace H : (if 0 ≤ (ji3) then (if (ji3) < (l0_1.length : Int) then (if (Int.tmod a1 2) = 1 then (some ((rd_T53 l0_1 (ji3)).f1, (rd_T53 l0_1 (ji3)).f0)) else (some ((rd_T53 l0_1 (ji3)).f0, (rd_T53 l0_1 (ji3)).f1))) else (none)) else (none)) = some (r1, r2) := by first | (rw [hji3] at H; exact H) | (simp only [hji3] at H ⊢; exact H)
 have hji3w : (IntKind.i64.wrap (Int.tdiv a1 2)) = ji3 := (i64_w _).trans hji3
 by_cases c4 : 0 ≤ (ji3)
 ·
  rw [if_pos c4] at H; have c4b0 : decide (0 ≤ (ji3)) = true := dt c4; clear c4
  by_cases c5 : (ji3) < (l0_1.length : Int)
  ·
   rw [if_pos c5] at H; have c5b0 : decide ((ji3) < (l0_1.length : Int)) = true := dt c5; clear c5
   by_cases c6 : (Int.tmod a1 2) = 1
   ·
    rw [if_pos c6] at H; have c6b0 : ((Int.tmod a1 2) == 1) = true := beq_iff_eq.mpr c6; have c6b1 : ((Int.tmod a1 2) != 1) = false := bne_eq_false_iff_eq.mpr c6; clear c6; simp only [Option.some.injEq, Prod.mk.injEq] at H; obtain ⟨rfl, rfl⟩ := H
    go_enter Try.func62, Try.ntmps62
    go_wp2_with (first | ((with_reducible refine gate_dst (N := 2) rfl ?_); refine box_event ?hg (N := 2) ?hd (cs := #[.int .i64 a0_0, .slice A0_1 l0_1.length c0_1]) (t := 24) ?hr ?_; (case hd => rfl); (case hg => rfl); (case hr => first | (go_simp; done) | (go_simp; rfl)); intro gb166 hg w7 hbox hb; have BK166 := ak (hbox); have GW166 := ak ((by rw [hg]; exact (below_size HB.out) : w.heap.size ≤ gb166)); have GE166 := ak ((by rw [hg]; exact (below_size HB.out) : w.heap.size ≤ gb166)); replace HB := ak (below_step HB.out hb); clear hb hbox hg; have hcz8_0 := bkat BK166.out 0; have hcz8_1 := bkat BK166.out 1; have hfz8_0 := bfz BK166.out 0; have hfz8_1 := bfz BK166.out 1; have p167 : 0 ≤ ((ji3) : Int) := od; have q167 : (ji3) < (l0_1.length : Int) := od; obtain ⟨ad167, e167, hx167_0, hx167_1, hx167_2⟩ := at_T53 HR0_1.out (ji3) p167 q167; cases e167; replace hx167_0 := bce HB.out hx167_0; replace hx167_1 := bce HB.out hx167_1; replace hx167_2 := bce HB.out hx167_2; replace p167 := eq_true p167; replace q167 := eq_true q167) | ((with_reducible refine gate_dst (N := 6) rfl ?_); refine box_event ?hg (N := 6) ?hd (cs := #[.int .i64 0, .int .i64 0, .int .i64 0]) (t := 53) ?hr ?_; (case hd => rfl); (case hg => rfl); (case hr => first | (go_simp; done) | (go_simp; rfl)); intro gb168 hg w9 hbox hb; have BK168 := ak (hbox); have GW168 := ak ((by rw [hg]; exact (below_size HB.out) : w.heap.size ≤ gb168)); have GE168 := ak ((by rw [hg]; exact (below_size HB.out) : w.heap.size ≤ gb168)); replace HB := ak (below_step HB.out hb); have NB166_168 := ak ((by rw [hg]; exact Nat.ne_of_lt (blk_lt (g := gb166) (o := .cells #[.int .i64 a0_0, .slice (some ad167) l0_1.length c0_1] 24 (0, 0)) BK166.out) : gb166 ≠ gb168)); have NB168_166 := ak ((by rw [hg]; exact Nat.ne_of_gt (blk_lt (g := gb166) (o := .cells #[.int .i64 a0_0, .slice (some ad167) l0_1.length c0_1] 24 (0, 0)) BK166.out) : gb168 ≠ gb166)); replace BK166 := ak (blk_below BK166.out hb); clear hb hbox hg; have hnb10 := NB168_166.out; have hnc10 := NB166_168.out; have hcz11_0 := bkat BK168.out 0; have hcz11_1 := bkat BK168.out 1; have hcz11_2 := bkat BK168.out 2; have hfz11_0 := bfz BK168.out 0; have hfz11_1 := bfz BK168.out 1; have hfz11_2 := bfz BK168.out 2))
    repeat (go_quiet (first | ((with_reducible refine gate_dst (N := 2) rfl ?_); refine box_event ?hg (N := 2) ?hd (cs := #[.int .i64 a0_0, .slice A0_1 l0_1.length c0_1]) (t := 24) ?hr ?_; (case hd => rfl); (case hg => rfl); (case hr => first | (go_simp; done) | (go_simp; rfl)); intro gb166 hg w7 hbox hb; have BK166 := ak (hbox); have GW166 := ak ((by rw [hg]; exact (below_size HB.out) : w.heap.size ≤ gb166)); have GE166 := ak ((by rw [hg]; exact (below_size HB.out) : w.heap.size ≤ gb166)); replace HB := ak (below_step HB.out hb); clear hb hbox hg; have hcz8_0 := bkat BK166.out 0; have hcz8_1 := bkat BK166.out 1; have hfz8_0 := bfz BK166.out 0; have hfz8_1 := bfz BK166.out 1; have p167 : 0 ≤ ((ji3) : Int) := od; have q167 : (ji3) < (l0_1.length : Int) := od; obtain ⟨ad167, e167, hx167_0, hx167_1, hx167_2⟩ := at_T53 HR0_1.out (ji3) p167 q167; cases e167; replace hx167_0 := bce HB.out hx167_0; replace hx167_1 := bce HB.out hx167_1; replace hx167_2 := bce HB.out hx167_2; replace p167 := eq_true p167; replace q167 := eq_true q167) | ((with_reducible refine gate_dst (N := 6) rfl ?_); refine box_event ?hg (N := 6) ?hd (cs := #[.int .i64 0, .int .i64 0, .int .i64 0]) (t := 53) ?hr ?_; (case hd => rfl); (case hg => rfl); (case hr => first | (go_simp; done) | (go_simp; rfl)); intro gb168 hg w9 hbox hb; have BK168 := ak (hbox); have GW168 := ak ((by rw [hg]; exact (below_size HB.out) : w.heap.size ≤ gb168)); have GE168 := ak ((by rw [hg]; exact (below_size HB.out) : w.heap.size ≤ gb168)); replace HB := ak (below_step HB.out hb); have NB166_168 := ak ((by rw [hg]; exact Nat.ne_of_lt (blk_lt (g := gb166) (o := .cells #[.int .i64 a0_0, .slice (some ad167) l0_1.length c0_1] 24 (0, 0)) BK166.out) : gb166 ≠ gb168)); have NB168_166 := ak ((by rw [hg]; exact Nat.ne_of_gt (blk_lt (g := gb166) (o := .cells #[.int .i64 a0_0, .slice (some ad167) l0_1.length c0_1] 24 (0, 0)) BK166.out) : gb168 ≠ gb166)); replace BK166 := ak (blk_below BK166.out hb); clear hb hbox hg; have hnb10 := NB168_166.out; have hnc10 := NB166_168.out; have hcz11_0 := bkat BK168.out 0; have hcz11_1 := bkat BK168.out 1; have hcz11_2 := bkat BK168.out 2; have hfz11_0 := bfz BK168.out 0; have hfz11_1 := bfz BK168.out 1; have hfz11_2 := bfz BK168.out 2)); try go_wp2_with (first | ((with_reducible refine gate_dst (N := 2) rfl ?_); refine box_event ?hg (N := 2) ?hd (cs := #[.int .i64 a0_0, .slice A0_1 l0_1.length c0_1]) (t := 24) ?hr ?_; (case hd => rfl); (case hg => rfl); (case hr => first | (go_simp; done) | (go_simp; rfl)); intro gb166 hg w7 hbox hb; have BK166 := ak (hbox); have GW166 := ak ((by rw [hg]; exact (below_size HB.out) : w.heap.size ≤ gb166)); have GE166 := ak ((by rw [hg]; exact (below_size HB.out) : w.heap.size ≤ gb166)); replace HB := ak (below_step HB.out hb); clear hb hbox hg; have hcz8_0 := bkat BK166.out 0; have hcz8_1 := bkat BK166.out 1; have hfz8_0 := bfz BK166.out 0; have hfz8_1 := bfz BK166.out 1; have p167 : 0 ≤ ((ji3) : Int) := od; have q167 : (ji3) < (l0_1.length : Int) := od; obtain ⟨ad167, e167, hx167_0, hx167_1, hx167_2⟩ := at_T53 HR0_1.out (ji3) p167 q167; cases e167; replace hx167_0 := bce HB.out hx167_0; replace hx167_1 := bce HB.out hx167_1; replace hx167_2 := bce HB.out hx167_2; replace p167 := eq_true p167; replace q167 := eq_true q167) | ((with_reducible refine gate_dst (N := 6) rfl ?_); refine box_event ?hg (N := 6) ?hd (cs := #[.int .i64 0, .int .i64 0, .int .i64 0]) (t := 53) ?hr ?_; (case hd => rfl); (case hg => rfl); (case hr => first | (go_simp; done) | (go_simp; rfl)); intro gb168 hg w9 hbox hb; have BK168 := ak (hbox); have GW168 := ak ((by rw [hg]; exact (below_size HB.out) : w.heap.size ≤ gb168)); have GE168 := ak ((by rw [hg]; exact (below_size HB.out) : w.heap.size ≤ gb168)); replace HB := ak (below_step HB.out hb); have NB166_168 := ak ((by rw [hg]; exact Nat.ne_of_lt (blk_lt (g := gb166) (o := .cells #[.int .i64 a0_0, .slice (some ad167) l0_1.length c0_1] 24 (0, 0)) BK166.out) : gb166 ≠ gb168)); have NB168_166 := ak ((by rw [hg]; exact Nat.ne_of_gt (blk_lt (g := gb166) (o := .cells #[.int .i64 a0_0, .slice (some ad167) l0_1.length c0_1] 24 (0, 0)) BK166.out) : gb168 ≠ gb166)); replace BK166 := ak (blk_below BK166.out hb); clear hb hbox hg; have hnb10 := NB168_166.out; have hnc10 := NB166_168.out; have hcz11_0 := bkat BK168.out 0; have hcz11_1 := bkat BK168.out 1; have hcz11_2 := bkat BK168.out 2; have hfz11_0 := bfz BK168.out 0; have hfz11_1 := bfz BK168.out 1; have hfz11_2 := bfz BK168.out 2)))
    go_ret2
    exact ⟨by first | rfl | (simp [eWn, eWs] <;> rfl) | (simp only [← hji3]; first | rfl | (simp [eWn, eWs] <;> rfl)) | (simp [*, eWn, eWs] <;> rfl), bq2 HB.out GE166.out GE168.out⟩
   ·
    rw [if_neg c6] at H; have c6b0 : ((Int.tmod a1 2) == 1) = false := beq_eq_false_iff_ne.mpr c6; have c6b1 : ((Int.tmod a1 2) != 1) = true := bne_iff_ne.mpr c6; simp only [Option.some.injEq, Prod.mk.injEq] at H; obtain ⟨rfl, rfl⟩ := H
    go_enter Try.func62, Try.ntmps62
    go_wp2_with (first | ((with_reducible refine gate_dst (N := 2) rfl ?_); refine box_event ?hg (N := 2) ?hd (cs := #[.int .i64 a0_0, .slice A0_1 l0_1.length c0_1]) (t := 24) ?hr ?_; (case hd => rfl); (case hg => rfl); (case hr => first | (go_simp; done) | (go_simp; rfl)); intro gb166 hg w12 hbox hb; have BK166 := ak (hbox); have GW166 := ak ((by rw [hg]; exact (below_size HB.out) : w.heap.size ≤ gb166)); have GE166 := ak ((by rw [hg]; exact (below_size HB.out) : w.heap.size ≤ gb166)); replace HB := ak (below_step HB.out hb); clear hb hbox hg; have hcz13_0 := bkat BK166.out 0; have hcz13_1 := bkat BK166.out 1; have hfz13_0 := bfz BK166.out 0; have hfz13_1 := bfz BK166.out 1; have p167 : 0 ≤ ((ji3) : Int) := od; have q167 : (ji3) < (l0_1.length : Int) := od; obtain ⟨ad167, e167, hx167_0, hx167_1, hx167_2⟩ := at_T53 HR0_1.out (ji3) p167 q167; cases e167; replace hx167_0 := bce HB.out hx167_0; replace hx167_1 := bce HB.out hx167_1; replace hx167_2 := bce HB.out hx167_2; replace p167 := eq_true p167; replace q167 := eq_true q167) | ((with_reducible refine gate_dst (N := 6) rfl ?_); refine box_event ?hg (N := 6) ?hd (cs := #[.int .i64 0, .int .i64 0, .int .i64 0]) (t := 53) ?hr ?_; (case hd => rfl); (case hg => rfl); (case hr => first | (go_simp; done) | (go_simp; rfl)); intro gb168 hg w14 hbox hb; have BK168 := ak (hbox); have GW168 := ak ((by rw [hg]; exact (below_size HB.out) : w.heap.size ≤ gb168)); have GE168 := ak ((by rw [hg]; exact (below_size HB.out) : w.heap.size ≤ gb168)); replace HB := ak (below_step HB.out hb); have NB166_168 := ak ((by rw [hg]; exact Nat.ne_of_lt (blk_lt (g := gb166) (o := .cells #[.int .i64 a0_0, .slice (some ad167) l0_1.length c0_1] 24 (0, 0)) BK166.out) : gb166 ≠ gb168)); have NB168_166 := ak ((by rw [hg]; exact Nat.ne_of_gt (blk_lt (g := gb166) (o := .cells #[.int .i64 a0_0, .slice (some ad167) l0_1.length c0_1] 24 (0, 0)) BK166.out) : gb168 ≠ gb166)); replace BK166 := ak (blk_below BK166.out hb); clear hb hbox hg; have hnb15 := NB168_166.out; have hnc15 := NB166_168.out; have hcz16_0 := bkat BK168.out 0; have hcz16_1 := bkat BK168.out 1; have hcz16_2 := bkat BK168.out 2; have hfz16_0 := bfz BK168.out 0; have hfz16_1 := bfz BK168.out 1; have hfz16_2 := bfz BK168.out 2))
    repeat (go_quiet (first | ((with_reducible refine gate_dst (N := 2) rfl ?_); refine box_event ?hg (N := 2) ?hd (cs := #[.int .i64 a0_0, .slice A0_1 l0_1.length c0_1]) (t := 24) ?hr ?_; (case hd => rfl); (case hg => rfl); (case hr => first | (go_simp; done) | (go_simp; rfl)); intro gb166 hg w12 hbox hb; have BK166 := ak (hbox); have GW166 := ak ((by rw [hg]; exact (below_size HB.out) : w.heap.size ≤ gb166)); have GE166 := ak ((by rw [hg]; exact (below_size HB.out) : w.heap.size ≤ gb166)); replace HB := ak (below_step HB.out hb); clear hb hbox hg; have hcz13_0 := bkat BK166.out 0; have hcz13_1 := bkat BK166.out 1; have hfz13_0 := bfz BK166.out 0; have hfz13_1 := bfz BK166.out 1; have p167 : 0 ≤ ((ji3) : Int) := od; have q167 : (ji3) < (l0_1.length : Int) := od; obtain ⟨ad167, e167, hx167_0, hx167_1, hx167_2⟩ := at_T53 HR0_1.out (ji3) p167 q167; cases e167; replace hx167_0 := bce HB.out hx167_0; replace hx167_1 := bce HB.out hx167_1; replace hx167_2 := bce HB.out hx167_2; replace p167 := eq_true p167; replace q167 := eq_true q167) | ((with_reducible refine gate_dst (N := 6) rfl ?_); refine box_event ?hg (N := 6) ?hd (cs := #[.int .i64 0, .int .i64 0, .int .i64 0]) (t := 53) ?hr ?_; (case hd => rfl); (case hg => rfl); (case hr => first | (go_simp; done) | (go_simp; rfl)); intro gb168 hg w14 hbox hb; have BK168 := ak (hbox); have GW168 := ak ((by rw [hg]; exact (below_size HB.out) : w.heap.size ≤ gb168)); have GE168 := ak ((by rw [hg]; exact (below_size HB.out) : w.heap.size ≤ gb168)); replace HB := ak (below_step HB.out hb); have NB166_168 := ak ((by rw [hg]; exact Nat.ne_of_lt (blk_lt (g := gb166) (o := .cells #[.int .i64 a0_0, .slice (some ad167) l0_1.length c0_1] 24 (0, 0)) BK166.out) : gb166 ≠ gb168)); have NB168_166 := ak ((by rw [hg]; exact Nat.ne_of_gt (blk_lt (g := gb166) (o := .cells #[.int .i64 a0_0, .slice (some ad167) l0_1.length c0_1] 24 (0, 0)) BK166.out) : gb168 ≠ gb166)); replace BK166 := ak (blk_below BK166.out hb); clear hb hbox hg; have hnb15 := NB168_166.out; have hnc15 := NB166_168.out; have hcz16_0 := bkat BK168.out 0; have hcz16_1 := bkat BK168.out 1; have hcz16_2 := bkat BK168.out 2; have hfz16_0 := bfz BK168.out 0; have hfz16_1 := bfz BK168.out 1; have hfz16_2 := bfz BK168.out 2)); try go_wp2_with (first | ((with_reducible refine gate_dst (N := 2) rfl ?_); refine box_event ?hg (N := 2) ?hd (cs := #[.int .i64 a0_0, .slice A0_1 l0_1.length c0_1]) (t := 24) ?hr ?_; (case hd => rfl); (case hg => rfl); (case hr => first | (go_simp; done) | (go_simp; rfl)); intro gb166 hg w12 hbox hb; have BK166 := ak (hbox); have GW166 := ak ((by rw [hg]; exact (below_size HB.out) : w.heap.size ≤ gb166)); have GE166 := ak ((by rw [hg]; exact (below_size HB.out) : w.heap.size ≤ gb166)); replace HB := ak (below_step HB.out hb); clear hb hbox hg; have hcz13_0 := bkat BK166.out 0; have hcz13_1 := bkat BK166.out 1; have hfz13_0 := bfz BK166.out 0; have hfz13_1 := bfz BK166.out 1; have p167 : 0 ≤ ((ji3) : Int) := od; have q167 : (ji3) < (l0_1.length : Int) := od; obtain ⟨ad167, e167, hx167_0, hx167_1, hx167_2⟩ := at_T53 HR0_1.out (ji3) p167 q167; cases e167; replace hx167_0 := bce HB.out hx167_0; replace hx167_1 := bce HB.out hx167_1; replace hx167_2 := bce HB.out hx167_2; replace p167 := eq_true p167; replace q167 := eq_true q167) | ((with_reducible refine gate_dst (N := 6) rfl ?_); refine box_event ?hg (N := 6) ?hd (cs := #[.int .i64 0, .int .i64 0, .int .i64 0]) (t := 53) ?hr ?_; (case hd => rfl); (case hg => rfl); (case hr => first | (go_simp; done) | (go_simp; rfl)); intro gb168 hg w14 hbox hb; have BK168 := ak (hbox); have GW168 := ak ((by rw [hg]; exact (below_size HB.out) : w.heap.size ≤ gb168)); have GE168 := ak ((by rw [hg]; exact (below_size HB.out) : w.heap.size ≤ gb168)); replace HB := ak (below_step HB.out hb); have NB166_168 := ak ((by rw [hg]; exact Nat.ne_of_lt (blk_lt (g := gb166) (o := .cells #[.int .i64 a0_0, .slice (some ad167) l0_1.length c0_1] 24 (0, 0)) BK166.out) : gb166 ≠ gb168)); have NB168_166 := ak ((by rw [hg]; exact Nat.ne_of_gt (blk_lt (g := gb166) (o := .cells #[.int .i64 a0_0, .slice (some ad167) l0_1.length c0_1] 24 (0, 0)) BK166.out) : gb168 ≠ gb166)); replace BK166 := ak (blk_below BK166.out hb); clear hb hbox hg; have hnb15 := NB168_166.out; have hnc15 := NB166_168.out; have hcz16_0 := bkat BK168.out 0; have hcz16_1 := bkat BK168.out 1; have hcz16_2 := bkat BK168.out 2; have hfz16_0 := bfz BK168.out 0; have hfz16_1 := bfz BK168.out 1; have hfz16_2 := bfz BK168.out 2)))
    go_ret2
    exact ⟨by first | rfl | (simp [eWn, eWs] <;> rfl) | (simp only [← hji3]; first | rfl | (simp [eWn, eWs] <;> rfl)) | (simp [*, eWn, eWs] <;> rfl), bq2 HB.out GE166.out GE168.out⟩
  ·
   rw [if_neg c5] at H; exact absurd H (by simp)
 ·
  rw [if_neg c4] at H; exact absurd H (by simp)
def arcs_row.l0 : Nat → Int → List Int → Int → Int → Int → List (S53) → Option (List Int)
  | 0, _, _, _, _, _, _ => none
  | k + 1, x1, x5, x12, x13, xkb, xka => if x13 < x12 then ((arcs_Ends.f xkb xka x13).bind fun bt170 => (if bt170.1 = x1 then (if x5.length < 17592186044416 then (arcs_row.l0 k x1 (x5 ++ [x13]) x12 (wrap64 (x13 + 1)) xkb xka) else (none)) else (arcs_row.l0 k x1 x5 x12 (wrap64 (x13 + 1)) xkb xka))) else (some x5)
def arcs_row.f (k : Nat) (a0_0 : Int) (l0_1 : List (S53)) (a1 : Int) : Option (List Int) := arcs_row.l0 k a1 ([] : List Int) (wrap64 (2 * (l0_1.length : Int))) 0 a0_0 l0_1
theorem arcs_row.calls (k : Nat) (a0_0 : Int) (A0_1 : Option Addr) (c0_1 : Nat) (l0_1 : List (S53)) (a1 : Int) (r : List Int) (w : World) (hr0_1 : Kd.C k53 w A0_1 l0_1.length l0_1) (hc0_1 : l0_1.length ≤ c0_1) (h : arcs_row.f k a0_0 l0_1 a1 = some r) :
    Calls Try.prog 63 #[.agg #[.int .i64 a0_0, .slice A0_1 l0_1.length c0_1], .int .i64 a1] w fun e w' => ∃ v0_ : Value, e = .returned (v0_) ∧ Kd.R (Kd.int .i64) 3 w' w.heap.size (fun _ => True) v0_ r ∧ Below w.heap.size w w' := by
  have hu24 := Try.underlying24; have HR0_1 := ak hr0_1; have HC0_1 := ak hc0_1; clear hr0_1 hc0_1; have HB := ak (Below.refl w.heap.size w); have H : (arcs_row.l0 k a1 ([] : List Int) (wrap64 (2 * (l0_1.length : Int))) 0 a0_0 l0_1) = some r := h; clear h; have H' := ak H; clear H
  go_enter Try.func63, Try.ntmps63
  go_wp2_with (first | ((with_reducible refine gate_dst (N := 2) rfl ?_); refine box_event ?hg (N := 2) ?hd (cs := #[.int .i64 a0_0, .slice A0_1 l0_1.length c0_1]) (t := 24) ?hr ?_; (case hd => rfl); (case hg => rfl); (case hr => first | (go_simp; done) | (go_simp; rfl)); intro gb169 hg w3 hbox hb; have BK169 := ak (hbox); have GW169 := ak ((by rw [hg]; exact (below_size HB.out) : w.heap.size ≤ gb169)); have GE169 := ak ((by rw [hg]; exact (below_size HB.out) : w.heap.size ≤ gb169)); replace HB := ak (below_step HB.out hb); clear hb hbox hg; have hcz4_0 := bkat BK169.out 0; have hcz4_1 := bkat BK169.out 1; have hfz4_0 := bfz BK169.out 0; have hfz4_1 := bfz BK169.out 1))
  go_loopg [5, 13] k (fun kq v5 v13 w' => ∃ (x5_1 : List Int) (x13_1 : Int), v13 = .int .i64 x13_1 ∧ Aside0 (arcs_row.l0 kq a1 x5_1 (wrap64 (2 * (l0_1.length : Int))) x13_1 a0_0 l0_1 = some r) ∧ Aside0 (kq ≤ k) ∧ Aside0 (Kd.R (Kd.int .i64) 3 w' w.heap.size (fun _ => True) v5 x5_1) ∧ Aside0 (w'.heap[gb169]? = some (.cells #[.int .i64 a0_0, (.slice A0_1 l0_1.length c0_1)] 24 (0, 0))) ∧ Aside0 (Below w.heap.size w w'))
  case atStart => exact ⟨(([] : List Int)), (0), ds, H', ⟨Nat.le_refl _⟩, ⟨by first | exact Kd.R_nil _ _ _ _ _ | exact Kd.N_nil _ _ _ _ _ | exact Kd.V_nil _ _ _ _ _ | exact Kd.Q_nil _ _ _ _ _ | exact Kd.S_nil _ _ _ _ _⟩, ⟨BK169.out⟩, ⟨HB.out⟩⟩
  case round =>
    clear H'
    repeat (first | clear p2 | clear hcz4_0 | clear hcz4_1 | clear hfz4_0 | clear hfz4_1)
    obtain ⟨x5_1, x13_1, rfl, HA, HK1, HO_5, BK169, HB⟩ := hrel; cases gk with
    | zero => exact absurd HA.out (by simp [arcs_row.l0])
    | succ k1 =>
      have H := HA.out; clear HA; simp only [arcs_row.l0] at H
      by_cases c5 : x13_1 < (wrap64 (2 * (l0_1.length : Int)))
      · rw [if_pos c5] at H
        have c5b0 : decide (x13_1 < (wrap64 (2 * (l0_1.length : Int)))) = true := dt c5; clear c5; replace H := Option.bind_eq_some_iff.mp H; obtain ⟨⟨t170, t171⟩, A60, H⟩ := H; replace H : (if t170 = a1 then (if x5_1.length < 17592186044416 then (arcs_row.l0 k1 a1 (x5_1 ++ [x13_1]) (wrap64 (2 * (l0_1.length : Int))) (wrap64 (x13_1 + 1)) a0_0 l0_1) else (none)) else (arcs_row.l0 k1 a1 x5_1 (wrap64 (2 * (l0_1.length : Int))) (wrap64 (x13_1 + 1)) a0_0 l0_1)) = some r := H; have A6 := ak A60; clear A60
        by_cases c7 : t170 = a1
        · rw [if_pos c7] at H
          have c7b0 : (t170 == a1) = true := beq_iff_eq.mpr c7; have c7b1 : (t170 != a1) = false := bne_eq_false_iff_eq.mpr c7; clear c7
          by_cases c8 : x5_1.length < 17592186044416
          · rw [if_pos c8] at H
            have LMc8 := ak c8; clear c8
            obtain ⟨y172, hy172⟩ : ∃ y_ : List Int, y_ = (x5_1 ++ [x13_1]) := ⟨_, rfl⟩
            replace H : (arcs_row.l0 k1 a1 y172 (wrap64 (2 * (l0_1.length : Int))) (wrap64 (x13_1 + 1)) a0_0 l0_1) = some r := by first | (rw [hy172]; with_reducible exact H) | (have H2_ := (Option.bind_some _ _).symm.trans H; rw [hy172]; with_reducible exact H2_) | (have H2_ := (Option.bind_some _ _).symm.trans H; with_reducible exact H2_) | with_reducible exact H | (rw [hy172]; exact H) | exact H
            have Ny172 := ak hy172; clear hy172; have H' := ak H; clear H; have hcz9_0 := bkat BK169.out 0; have hcz9_1 := bkat BK169.out 1; have hfz9_0 := bfz BK169.out 0; have hfz9_1 := bfz BK169.out 1
            go_wp2_with (first | ((with_reducible refine gate_callee (f := 62) rfl ?_); refine gl 19 Try.func62 #[.agg #[.int .i64 a0_0, .slice A0_1 l0_1.length c0_1], .int .i64 x13_1] ?_; (with_reducible refine (arcs_Ends.calls a0_0 _ _ l0_1 x13_1 t170 t171 _ ?side1 ?side2 A6.out).mono ?_); (case side1 => exact (Kd.C_below HR0_1.out HB.out)); (case side2 => exact HC0_1.out); rintro e w10 ⟨rfl, hb⟩; refine ⟨_, rfl, ?_⟩; replace HO_5 := ak (Kd.R_below HO_5.out hb); replace BK169 := ak (blk_below BK169.out hb); replace HB := ak (below_step HB.out hb); (try clear hb)) | ((with_reducible refine gate_builtin (b := .append) (xs := #[.tmp 25, .tmp 27]) rfl ?_); at_builtin; refine Kd.R_append (Kd.int .i64) (w0 := w) w.heap.size rfl (.tmp 25) (.tmp 27) 25 3 (.int .i64 0) 8 rfl Try.underlying25 info3 rfl (by decide) (by omega) u5 x5_1 x13_1 [.int .i64 x13_1] (fun _ => True) (fun _ => False) rfl rfl ?aP (fun _ hk => hk.elim) ?aF ?aO ?aB ?aS ?aL ?_; (case aP => exact rfl); (case aB => exact HB.out); (case aF => exact (fun _ _ => trivial)); (case aO => exact HO_5.out); (case aS => exact (below_size HB.out)); (case aL => have := LMc8.out; omega); intro v173 w11 ho hb hg hat; rw [← Ny172.out] at ho; replace BK169 := ak (blk_grown BK169.out hg (Kd.R_ne HO_5.out BK169.out (by decide))); replace HB := ak (hb); have HO174 := ak (ho); clear HO_5; clear ho hb hg hat))
            go_roundg k1
            case measure => have := HK1.out; omega
            case rel => exact ⟨(y172), (wrap64 (x13_1 + 1)), ds, H', ⟨by have := HK1.out; omega⟩, ⟨HO174.out⟩, ⟨BK169.out⟩, ⟨HB.out⟩⟩
          · rw [if_neg c8] at H
            exact absurd H (by simp)
        · rw [if_neg c7] at H
          have c7b0 : (t170 == a1) = false := beq_eq_false_iff_ne.mpr c7; have c7b1 : (t170 != a1) = true := bne_iff_ne.mpr c7; have H' := ak H; clear H; have hcz12_0 := bkat BK169.out 0; have hcz12_1 := bkat BK169.out 1; have hfz12_0 := bfz BK169.out 0; have hfz12_1 := bfz BK169.out 1
          go_wp2_with (first | ((with_reducible refine gate_callee (f := 62) rfl ?_); refine gl 19 Try.func62 #[.agg #[.int .i64 a0_0, .slice A0_1 l0_1.length c0_1], .int .i64 x13_1] ?_; (with_reducible refine (arcs_Ends.calls a0_0 _ _ l0_1 x13_1 t170 t171 _ ?side1 ?side2 A6.out).mono ?_); (case side1 => exact (Kd.C_below HR0_1.out HB.out)); (case side2 => exact HC0_1.out); rintro e w13 ⟨rfl, hb⟩; refine ⟨_, rfl, ?_⟩; replace HO_5 := ak (Kd.R_below HO_5.out hb); replace BK169 := ak (blk_below BK169.out hb); replace HB := ak (below_step HB.out hb); (try clear hb)))
          go_roundg k1
          case measure => have := HK1.out; omega
          case rel => exact ⟨(x5_1), (wrap64 (x13_1 + 1)), ds, H', ⟨by have := HK1.out; omega⟩, ⟨HO_5.out⟩, ⟨BK169.out⟩, ⟨HB.out⟩⟩
      · rw [if_neg c5] at H
        have c5b0 : decide (x13_1 < (wrap64 (2 * (l0_1.length : Int)))) = false := df c5; clear c5; obtain rfl := Option.some.inj H
        go_wp2
        go_ret
        exact ⟨_, de, by refine rl ?_; exact HO_5.out, bq1 HB.out GE169.out⟩
mutual
def arcs_Build.l0 : Nat → Int → Int → Int → List (S53) → List Int → Option (List Int × List Int × List Int × Int)
 | 0, _, _, _, _, _ => none
 | k + 1, x16, x17, xkd, xke, xka => if x17 < x16 then ((arcs_Ends.f xkd xke x17).bind fun bt179 => (if xka.length < 17592186044416 then (arcs_Build.l0 k x16 (wrap64 (x17 + 1)) xkd xke (xka ++ [bt179.2])) else (none))) else (arcs_Build.l1 k xkd 0 xkd xke ([] : List Int) ([] : List Int) xka)
def arcs_Build.l1 : Nat → Int → Int → Int → List (S53) → List Int → List Int → List Int → Option (List Int × List Int × List Int × Int)
 | 0, _, _, _, _, _, _, _ => none
 | k + 1, x34, x35, xkd, xke, xkc, xkb, xka => if x35 < x34 then (if xkc.length < 17592186044416 then ((arcs_row.f k xkd xke x35).bind fun t187 => (if xkb.length + t187.length < 17592186044416 then (arcs_Build.l1 k x34 (wrap64 (x35 + 1)) xkd xke (xkc ++ [(xkb.length : Int)]) (xkb ++ t187) xka) else (none))) else (none)) else (if xkc.length < 17592186044416 then (some ((xkc ++ [(xkb.length : Int)]), xkb, xka, 0)) else (none))
end
def arcs_Build.f (k : Nat) (a0_0 : Int) (l0_1 : List (S53)) : Option (List Int × List Int × List Int × Int) := (graph_May.f k a0_0 l0_1).bind fun t177 => (if t177 = true then (arcs_Build.l0 k (wrap64 (2 * (l0_1.length : Int))) 0 a0_0 l0_1 ([] : List Int)) else (some (([] : List Int), ([] : List Int), ([] : List Int), 500)))
def arcs_Build.T14 : Bool × List (List Nat × List Nat) := (true, [([], []), ([0], [0]), ([], []), ([], []), ([2, 3], [2, 3]), ([1, 4, 4], [1, 4]), ([0, 1, 2, 3, 4, 5], []), ([6, 5, 5, 0, 1, 2, 3, 4, 5], [5, 6])])
def arcs_Build.B14 : List Nat := [0, 1, 0, 0, 12, 31, 63, 127]
theorem arcs_Build.tab14 : rtab .any (opsOf Try.f38 14) = arcs_Build.T14 := by kernel_rfl
theorem arcs_Build.bits14 : waitsOk arcs_Build.T14.2 arcs_Build.B14 = true := by kernel_rfl
theorem arcs_Build.calls (k : Nat) (a0_0 : Int) (A0_1 : Option Addr) (c0_1 : Nat) (l0_1 : List (S53)) (r1 : List Int) (r2 : List Int) (r3 : List Int) (r4 : Int) (w : World) (hr0_1 : Kd.C k53 w A0_1 l0_1.length l0_1) (hc0_1 : l0_1.length ≤ c0_1) (h : arcs_Build.f k a0_0 l0_1 = some (r1, r2, r3, r4)) :
  Calls Try.prog 38 #[.agg #[.int .i64 a0_0, .slice A0_1 l0_1.length c0_1]] w fun e w' => ∃ v0_ v1_ v2_ : Value, e = .returned (.tuple #[.agg #[v0_, v1_, v2_], .int .i64 r4]) ∧ Kd.R (Kd.int .i64) 3 w' w.heap.size (fun k_ => some k_ ≠ (v1_ : Value).ownBlock ∧ some k_ ≠ (v2_ : Value).ownBlock) v0_ r1 ∧ Kd.R (Kd.int .i64) 3 w' w.heap.size (fun k_ => some k_ ≠ (v0_ : Value).ownBlock ∧ some k_ ≠ (v2_ : Value).ownBlock) v1_ r2 ∧ Kd.R (Kd.int .i64) 3 w' w.heap.size (fun k_ => some k_ ≠ (v0_ : Value).ownBlock ∧ some k_ ≠ (v1_ : Value).ownBlock) v2_ r3 ∧ Below w.heap.size w w' := by
 have hu24 := Try.underlying24; have hu60 := Try.underlying60; have HR0_1 := ak hr0_1; have HC0_1 := ak hc0_1; clear hr0_1 hc0_1; have HB := ak (Below.refl w.heap.size w); have H : ((graph_May.f k a0_0 l0_1).bind fun t177 => (if t177 = true then (arcs_Build.l0 k (wrap64 (2 * (l0_1.length : Int))) 0 a0_0 l0_1 ([] : List Int)) else (some (([] : List Int), ([] : List Int), ([] : List Int), 500)))) = some (r1, r2, r3, r4) := h; clear h; replace H := Option.bind_eq_some_iff.mp H; obtain ⟨t177, A20, H⟩ := H; replace H : (if t177 = true then (arcs_Build.l0 k (wrap64 (2 * (l0_1.length : Int))) 0 a0_0 l0_1 ([] : List Int)) else (some (([] : List Int), ([] : List Int), ([] : List Int), 500))) = some (r1, r2, r3, r4) := H; have A2 := ak A20; clear A20
 by_cases c3 : t177 = true
 ·
  subst c3
  have H1 : (arcs_Build.l0 k (wrap64 (2 * (l0_1.length : Int))) 0 a0_0 l0_1 ([] : List Int)) = some (r1, r2, r3, r4) := by rw [if_pos rfl] at H; exact H
  clear H; have H := H1; clear H1; have H' := ak H; clear H
  go_enter Try.func38, Try.ntmps38
  go_wp2_with (first | ((with_reducible refine gate_dst (N := 1) rfl ?_); refine box_event ?hg (N := 1) ?hd (cs := #[.int .i64 a0_0, .slice A0_1 l0_1.length c0_1]) (t := 24) ?hr ?_; (case hd => rfl); (case hg => rfl); (case hr => first | (go_simp; done) | (go_simp; rfl)); intro gb175 hg w4 hbox hb; have BK175 := ak (hbox); have GW175 := ak ((by rw [hg]; exact (below_size HB.out) : w.heap.size ≤ gb175)); have GE175 := ak ((by rw [hg]; exact (below_size HB.out) : w.heap.size ≤ gb175)); replace HB := ak (below_step HB.out hb); clear hb hbox hg) | ((with_reducible refine gate_dst (N := 2) rfl ?_); refine box_event ?hg (N := 2) ?hd (cs := #[.slice none 0 0, .slice none 0 0, .slice none 0 0]) (t := 60) ?hr ?_; (case hd => rfl); (case hg => rfl); (case hr => first | (go_simp; done) | (go_simp; rfl)); intro gb176 hg w5 hbox hb; have BK176 := ak (hbox); have GW176 := ak ((by rw [hg]; exact (below_size HB.out) : w.heap.size ≤ gb176)); have GE176 := ak ((by rw [hg]; exact (below_size HB.out) : w.heap.size ≤ gb176)); replace HB := ak (below_step HB.out hb); have NB175_176 := ak ((by rw [hg]; exact Nat.ne_of_lt (blk_lt (g := gb175) (o := .cells #[.int .i64 a0_0, .slice A0_1 l0_1.length c0_1] 24 (0, 0)) BK175.out) : gb175 ≠ gb176)); have NB176_175 := ak ((by rw [hg]; exact Nat.ne_of_gt (blk_lt (g := gb175) (o := .cells #[.int .i64 a0_0, .slice A0_1 l0_1.length c0_1] 24 (0, 0)) BK175.out) : gb176 ≠ gb175)); replace BK175 := ak (blk_below BK175.out hb); clear hb hbox hg; have hnb6 := NB175_176.out; have hnc6 := NB176_175.out; have hcz7_0 := bkat BK175.out 0; have hcz7_1 := bkat BK175.out 1; have hfz7_0 := bfz BK175.out 0; have hfz7_1 := bfz BK175.out 1) | ((with_reducible refine gate_callee (f := 61) rfl ?_); refine gl 10 Try.func61 #[.agg #[.int .i64 a0_0, .slice A0_1 l0_1.length c0_1]] ?_; (with_reducible refine (graph_May.calls k a0_0 _ _ l0_1 true _ ?side1 ?side2 A2.out).mono ?_); (case side1 => exact (Kd.C_below HR0_1.out HB.out)); (case side2 => exact HC0_1.out); rintro e w8 ⟨rfl, hb⟩; refine ⟨_, rfl, ?_⟩; replace BK175 := ak (blk_below BK175.out hb); replace BK176 := ak (blk_below BK176.out hb); replace HB := ak (below_step HB.out hb); (try clear hb)) | ((with_reducible refine gate_dst (N := 4) rfl ?_); refine box_event ?hg (N := 4) ?hd (cs := #[.slice none 0 0, .slice none 0 0, .slice none 0 0]) (t := 60) ?hr ?_; (case hd => rfl); (case hg => rfl); (case hr => first | (go_simp; done) | (go_simp; rfl)); intro gb178 hg w9 hbox hb; have BK178 := ak (hbox); have GW178 := ak ((by rw [hg]; exact (below_size HB.out) : w.heap.size ≤ gb178)); have GE178 := ak ((by rw [hg]; exact (below_size HB.out) : w.heap.size ≤ gb178)); replace HB := ak (below_step HB.out hb); have NB175_178 := ak ((by rw [hg]; exact Nat.ne_of_lt (blk_lt (g := gb175) (o := .cells #[.int .i64 a0_0, .slice A0_1 l0_1.length c0_1] 24 (0, 0)) BK175.out) : gb175 ≠ gb178)); have NB178_175 := ak ((by rw [hg]; exact Nat.ne_of_gt (blk_lt (g := gb175) (o := .cells #[.int .i64 a0_0, .slice A0_1 l0_1.length c0_1] 24 (0, 0)) BK175.out) : gb178 ≠ gb175)); replace BK175 := ak (blk_below BK175.out hb); have NB176_178 := ak ((by rw [hg]; exact Nat.ne_of_lt (blk_lt (g := gb176) (o := .cells #[.slice none 0 0, .slice none 0 0, .slice none 0 0] 60 (0, 0)) BK176.out) : gb176 ≠ gb178)); have NB178_176 := ak ((by rw [hg]; exact Nat.ne_of_gt (blk_lt (g := gb176) (o := .cells #[.slice none 0 0, .slice none 0 0, .slice none 0 0] 60 (0, 0)) BK176.out) : gb178 ≠ gb176)); replace BK176 := ak (blk_below BK176.out hb); clear hb hbox hg; have hnb10 := NB175_178.out; have hnc10 := NB178_175.out; have hcz11_0 := bkat BK175.out 0; have hcz11_1 := bkat BK175.out 1; have hfz11_0 := bfz BK175.out 0; have hfz11_1 := bfz BK175.out 1))
  go_loopg [17] k (fun kq v17 w' => ∃ (x17_1 : Int) (xka_1 : List Int) (uka : Value), v17 = .int .i64 x17_1 ∧ Aside0 (arcs_Build.l0 kq (wrap64 (2 * (l0_1.length : Int))) x17_1 a0_0 l0_1 xka_1 = some (r1, r2, r3, r4)) ∧ Aside0 (kq ≤ k) ∧ Aside0 (Kd.R (Kd.int .i64) 3 w' w.heap.size (fun _ => True) uka xka_1) ∧ Aside0 (w'.heap[gb175]? = some (.cells #[.int .i64 a0_0, (.slice A0_1 l0_1.length c0_1)] 24 (0, 0))) ∧ Aside0 (w'.heap[gb176]? = some (.cells #[(.slice none 0 0), (.slice none 0 0), (.slice none 0 0)] 60 (0, 0))) ∧ Aside0 (w'.heap[gb178]? = some (.cells #[(.slice none 0 0), (.slice none 0 0), uka] 60 (0, 0))) ∧ Aside0 (Below w.heap.size w w'))
  case atStart => exact ⟨(0), (([] : List Int)), (.slice none 0 0), ds, H', ⟨Nat.le_refl _⟩, ⟨by first | exact Kd.R_nil _ _ _ _ _ | exact Kd.N_nil _ _ _ _ _ | exact Kd.V_nil _ _ _ _ _ | exact Kd.Q_nil _ _ _ _ _ | exact Kd.S_nil _ _ _ _ _⟩, ⟨BK175.out⟩, ⟨BK176.out⟩, ⟨BK178.out⟩, ⟨HB.out⟩⟩
  case round =>
   clear H'
   repeat (first | clear c1 | clear p2 | clear c3 | clear c6 | clear p6 | clear c10 | clear hcz11_0 | clear hcz11_1 | clear hcz7_0 | clear hcz7_1 | clear hfz11_0 | clear hfz11_1 | clear hfz7_0 | clear hfz7_1)
   obtain ⟨x17_1, xka_1, uka, rfl, HA, HK1, HO_ka, BK175, BK176, BK178, HB⟩ := hrel; cases gk with
   | zero => exact absurd HA.out (by simp [arcs_Build.l0])
   | succ k1 =>
    have H := HA.out; clear HA; simp only [arcs_Build.l0] at H
    by_cases c12 : x17_1 < (wrap64 (2 * (l0_1.length : Int)))
    ·
     rw [if_pos c12] at H; have c12b0 : decide (x17_1 < (wrap64 (2 * (l0_1.length : Int)))) = true := dt c12; clear c12; replace H := Option.bind_eq_some_iff.mp H; obtain ⟨⟨t179, t180⟩, A130, H⟩ := H; replace H : (if xka_1.length < 17592186044416 then (arcs_Build.l0 k1 (wrap64 (2 * (l0_1.length : Int))) (wrap64 (x17_1 + 1)) a0_0 l0_1 (xka_1 ++ [t180])) else (none)) = some (r1, r2, r3, r4) := H; have A13 := ak A130; clear A130
     by_cases c14 : xka_1.length < 17592186044416
     ·
      rw [if_pos c14] at H; have LMc14 := ak c14; clear c14
      obtain ⟨y181, hy181⟩ : ∃ y_ : List Int, y_ = (xka_1 ++ [t180]) := ⟨_, rfl⟩
      replace H : (arcs_Build.l0 k1 (wrap64 (2 * (l0_1.length : Int))) (wrap64 (x17_1 + 1)) a0_0 l0_1 y181) = some (r1, r2, r3, r4) := by first | (rw [hy181]; with_reducible exact H) | (have H2_ := (Option.bind_some _ _).symm.trans H; rw [hy181]; with_reducible exact H2_) | (have H2_ := (Option.bind_some _ _).symm.trans H; with_reducible exact H2_) | with_reducible exact H | (rw [hy181]; exact H) | exact H
      have Ny181 := ak hy181; clear hy181; have H' := ak H; clear H; have hnb15 := NB175_176.out; have hnc15 := NB176_175.out; have hnb16 := NB175_178.out; have hnc16 := NB178_175.out; have hcz17_0 := bkat BK175.out 0; have hcz17_1 := bkat BK175.out 1; have hfz17_0 := bfz BK175.out 0; have hfz17_1 := bfz BK175.out 1
      go_wp2_with (first | ((with_reducible refine gate_callee (f := 62) rfl ?_); refine gl 23 Try.func62 #[.agg #[.int .i64 a0_0, .slice A0_1 l0_1.length c0_1], .int .i64 x17_1] ?_; (with_reducible refine (arcs_Ends.calls a0_0 _ _ l0_1 x17_1 t179 t180 _ ?side1 ?side2 A13.out).mono ?_); (case side1 => exact (Kd.C_below HR0_1.out HB.out)); (case side2 => exact HC0_1.out); rintro e w18 ⟨rfl, hb⟩; refine ⟨_, rfl, ?_⟩; replace HO_ka := ak (Kd.R_below HO_ka.out hb); replace BK175 := ak (blk_below BK175.out hb); replace BK176 := ak (blk_below BK176.out hb); replace BK178 := ak (blk_below BK178.out hb); replace HB := ak (below_step HB.out hb); (try clear hb); have hnb19 := NB178_176.out; have hnc19 := NB176_178.out; have hcz20_0 := bkat BK178.out 0; have hcz20_1 := bkat BK178.out 1; have hcz20_2 := bkat BK178.out 2; have hfz20_0 := bfz BK178.out 0; have hfz20_1 := bfz BK178.out 1; have hfz20_2 := bfz BK178.out 2) | ((with_reducible refine gate_builtin (b := .append) (xs := #[.tmp 27, .tmp 29]) rfl ?_); at_builtin; refine Kd.R_append (Kd.int .i64) (w0 := w) w.heap.size rfl (.tmp 27) (.tmp 29) 25 3 (.int .i64 0) 8 rfl Try.underlying25 info3 rfl (by decide) (by omega) uka xka_1 t180 [.int .i64 t180] (fun _ => True) (fun _ => False) rfl rfl ?aP (fun _ hk => hk.elim) ?aF ?aO ?aB ?aS ?aL ?_; (case aP => exact rfl); (case aB => exact HB.out); (case aF => exact (fun _ _ => trivial)); (case aO => exact HO_ka.out); (case aS => exact (below_size HB.out)); (case aL => have := LMc14.out; omega); intro v182 w21 ho hb hg hat; rw [← Ny181.out] at ho; replace BK175 := ak (blk_grown BK175.out hg (Kd.R_ne HO_ka.out BK175.out (by decide))); replace BK176 := ak (blk_grown BK176.out hg (Kd.R_ne HO_ka.out BK176.out (by decide))); replace BK178 := ak (blk_grown BK178.out hg (Kd.R_ne HO_ka.out BK178.out (by decide))); replace HB := ak (hb); have HO183 := ak (ho); clear HO_ka; clear ho hb hg hat; obtain ⟨Ao22, co22, eo22⟩ := Kd.R_slice HO183.out; subst eo22; have hcz23_0 := bkat BK178.out 0; have hcz23_1 := bkat BK178.out 1; have hcz23_2 := bkat BK178.out 2; have hfz23_0 := bfz BK178.out 0; have hfz23_1 := bfz BK178.out 1; have hfz23_2 := bfz BK178.out 2))
      go_roundg k1
      case measure => have := HK1.out; omega
      case rel => exact ⟨(wrap64 (x17_1 + 1)), (y181), (.slice Ao22 y181.length co22), ds, H', ⟨by have := HK1.out; omega⟩, ⟨by (with_reducible repeat (first | apply Kd.R_alloc | apply Kd.R_drewN | apply Kd.R_drew)); exact Kd.R_mono (Kd.R_far (p := ⟨gb178, 2, none⟩) (Kd.R_types HO183.out BK178.out (by decide)) (fun _ hk => hk.2) (.slice Ao22 y181.length co22)) (fun _ hk => trivial)⟩, ⟨by refine bl ?_; refine blk_far ?_ NB175_178.out _; refine bl ?_; exact BK175.out⟩, ⟨by refine bl ?_; refine blk_far ?_ NB176_178.out _; refine bl ?_; exact BK176.out⟩, ⟨by refine bl ?_; refine blk_put (cs := #[.slice none 0 0, .slice none 0 0, uka]) ?_ 2 _ rfl; refine bl ?_; exact BK178.out⟩, ⟨bq3 HB.out GE175.out GE176.out GE178.out⟩⟩
     ·
      rw [if_neg c14] at H; exact absurd H (by simp)
    ·
     rw [if_neg c12] at H; have c12b0 : decide (x17_1 < (wrap64 (2 * (l0_1.length : Int)))) = false := df c12; clear c12; have H' := ak H; clear H; have hnb24 := NB175_176.out; have hnc24 := NB176_175.out; have hnb25 := NB175_178.out; have hnc25 := NB178_175.out; have hcz26_0 := bkat BK175.out 0; have hcz26_1 := bkat BK175.out 1; have hfz26_0 := bfz BK175.out 0; have hfz26_1 := bfz BK175.out 1
     go_wp2
     go_loopg [35] k1 (fun kq v35 w' => ∃ (x35_2 : Int) (xkc_2 : List Int) (xkb_2 : List Int) (ukc : Value) (ukb : Value), v35 = .int .i64 x35_2 ∧ Aside0 (arcs_Build.l1 kq a0_0 x35_2 a0_0 l0_1 xkc_2 xkb_2 xka_1 = some (r1, r2, r3, r4)) ∧ Aside0 (kq ≤ k1) ∧ Aside0 (Kd.R (Kd.int .i64) 3 w' w.heap.size (fun k_ => some k_ ≠ (ukb : Value).ownBlock ∧ some k_ ≠ (uka : Value).ownBlock) ukc xkc_2) ∧ Aside0 (Kd.R (Kd.int .i64) 3 w' w.heap.size (fun k_ => some k_ ≠ (ukc : Value).ownBlock ∧ some k_ ≠ (uka : Value).ownBlock) ukb xkb_2) ∧ Aside0 (Kd.R (Kd.int .i64) 3 w' w.heap.size (fun k_ => some k_ ≠ (ukc : Value).ownBlock ∧ some k_ ≠ (ukb : Value).ownBlock) uka xka_1) ∧ Aside0 (w'.heap[gb175]? = some (.cells #[.int .i64 a0_0, (.slice A0_1 l0_1.length c0_1)] 24 (0, 0))) ∧ Aside0 (w'.heap[gb176]? = some (.cells #[(.slice none 0 0), (.slice none 0 0), (.slice none 0 0)] 60 (0, 0))) ∧ Aside0 (w'.heap[gb178]? = some (.cells #[ukc, ukb, uka] 60 (0, 0))) ∧ Aside0 (Below w.heap.size w w'))
     case atStart => exact ⟨(0), (([] : List Int)), (([] : List Int)), (.slice none 0 0), (.slice none 0 0), ds, H', ⟨Nat.le_refl _⟩, ⟨by first | exact Kd.R_nil _ _ _ _ _ | exact Kd.N_nil _ _ _ _ _ | exact Kd.V_nil _ _ _ _ _ | exact Kd.Q_nil _ _ _ _ _ | exact Kd.S_nil _ _ _ _ _⟩, ⟨by first | exact Kd.R_nil _ _ _ _ _ | exact Kd.N_nil _ _ _ _ _ | exact Kd.V_nil _ _ _ _ _ | exact Kd.Q_nil _ _ _ _ _ | exact Kd.S_nil _ _ _ _ _⟩, ⟨by (with_reducible repeat (first | apply Kd.R_alloc | apply Kd.R_drewN | apply Kd.R_drew)); exact Kd.R_mono HO_ka.out (fun _ hk => ⟨(by simp [Value.ownBlock]), (by simp [Value.ownBlock])⟩)⟩, ⟨BK175.out⟩, ⟨BK176.out⟩, ⟨BK178.out⟩, ⟨HB.out⟩⟩
     case round =>
      clear H'
      repeat (first | clear c1 | clear c2 | clear p2 | clear c3 | clear c6 | clear p6 | clear c10 | clear c12 | clear c12b0 | clear c14 | clear c15 | clear c16 | clear c19 | clear c24 | clear c25 | clear hcz11_0 | clear hcz11_1 | clear hcz17_0 | clear hcz17_1 | clear hcz20_0 | clear hcz20_1 | clear hcz20_2 | clear hcz23_0 | clear hcz23_1 | clear hcz23_2 | clear hcz26_0 | clear hcz26_1 | clear hcz7_0 | clear hcz7_1 | clear hfz11_0 | clear hfz11_1 | clear hfz17_0 | clear hfz17_1 | clear hfz20_0 | clear hfz20_1 | clear hfz20_2 | clear hfz23_0 | clear hfz23_1 | clear hfz23_2 | clear hfz26_0 | clear hfz26_1 | clear hfz7_0 | clear hfz7_1)
      obtain ⟨x35_2, xkc_2, xkb_2, ukc, ukb, rfl, HA, HK2, HO_kc, HO_kb, HO_ka, BK175, BK176, BK178, HB⟩ := hrel; cases gk with
      | zero => exact absurd HA.out (by simp [arcs_Build.l1])
      | succ k2 =>
       have H := HA.out; clear HA; simp only [arcs_Build.l1] at H
       by_cases c27 : x35_2 < a0_0
       ·
        rw [if_pos c27] at H; have c27b0 : decide (x35_2 < a0_0) = true := dt c27; clear c27
        by_cases c28 : xkc_2.length < 17592186044416
        ·
         rw [if_pos c28] at H; have LMc28 := ak c28; clear c28
         obtain ⟨y184, hy184⟩ : ∃ y_ : List Int, y_ = (xkc_2 ++ [(xkb_2.length : Int)]) := ⟨_, rfl⟩
         replace H : ((arcs_row.f k2 a0_0 l0_1 x35_2).bind fun t187 => (if xkb_2.length + t187.length < 17592186044416 then (arcs_Build.l1 k2 a0_0 (wrap64 (x35_2 + 1)) a0_0 l0_1 y184 (xkb_2 ++ t187) xka_1) else (none))) = some (r1, r2, r3, r4) := by first | (rw [hy184]; with_reducible exact H) | (have H2_ := (Option.bind_some _ _).symm.trans H; rw [hy184]; with_reducible exact H2_) | (have H2_ := (Option.bind_some _ _).symm.trans H; with_reducible exact H2_) | with_reducible exact H | (rw [hy184]; exact H) | exact H
         have Ny184 := ak hy184; clear hy184; replace H := Option.bind_eq_some_iff.mp H; obtain ⟨t187, A290, H⟩ := H; replace H : (if xkb_2.length + t187.length < 17592186044416 then (arcs_Build.l1 k2 a0_0 (wrap64 (x35_2 + 1)) a0_0 l0_1 y184 (xkb_2 ++ t187) xka_1) else (none)) = some (r1, r2, r3, r4) := H; have A29 := ak A290; clear A290
         by_cases c30 : xkb_2.length + t187.length < 17592186044416
         ·
          rw [if_pos c30] at H; have LMc30 := ak c30; clear c30
          obtain ⟨y190, hy190⟩ : ∃ y_ : List Int, y_ = (xkb_2 ++ t187) := ⟨_, rfl⟩
          replace H : (arcs_Build.l1 k2 a0_0 (wrap64 (x35_2 + 1)) a0_0 l0_1 y184 y190 xka_1) = some (r1, r2, r3, r4) := by first | (rw [hy190]; with_reducible exact H) | (have H2_ := (Option.bind_some _ _).symm.trans H; rw [hy190]; with_reducible exact H2_) | (have H2_ := (Option.bind_some _ _).symm.trans H; with_reducible exact H2_) | with_reducible exact H | (rw [hy190]; exact H) | exact H
          have Ny190 := ak hy190; clear hy190; have H' := ak H; clear H; have hnb31 := NB178_175.out; have hnc31 := NB175_178.out; have hnb32 := NB178_176.out; have hnc32 := NB176_178.out; have hcz33_0 := bkat BK178.out 0; have hcz33_1 := bkat BK178.out 1; have hcz33_2 := bkat BK178.out 2; have hfz33_0 := bfz BK178.out 0; have hfz33_1 := bfz BK178.out 1; have hfz33_2 := bfz BK178.out 2; obtain ⟨Ao34, co34, eo34⟩ := Kd.R_slice HO_kb.out; subst eo34
          try go_wp2_with (first | ((with_reducible refine gate_builtin (b := .append) (xs := #[.tmp 39, .tmp 43]) rfl ?_); at_builtin; refine Kd.R_append (Kd.int .i64) (w0 := w) w.heap.size rfl (.tmp 39) (.tmp 43) 25 3 (.int .i64 0) 8 rfl Try.underlying25 info3 rfl (by decide) (by omega) ukc xkc_2 (xkb_2.length : Int) [.int .i64 (xkb_2.length : Int)] (fun k_ => some k_ ≠ (.slice Ao34 xkb_2.length co34 : Value).ownBlock ∧ some k_ ≠ (uka : Value).ownBlock) (fun _ => False) rfl rfl ?aP (fun _ hk => hk.elim) ?aF ?aO ?aB ?aS ?aL ?_; (case aP => exact rfl); (case aB => exact HB.out); (case aF => exact (fun k_ hk => ⟨Kd.fresh' (Kd.R_lt HO_kb.out) k_ hk, Kd.fresh' (Kd.R_lt HO_ka.out) k_ hk⟩)); (case aO => exact HO_kc.out); (case aS => exact (below_size HB.out)); (case aL => have := LMc28.out; omega); intro v185 w35 ho hb hg hat; rw [← Ny184.out] at ho; replace HO_kb := ak (Kd.R_after (ok := (fun k_ => some k_ ≠ (uka : Value).ownBlock)) (by (with_reducible repeat (first | apply Kd.R_alloc | apply Kd.R_drewN | apply Kd.R_drew)); exact Kd.R_mono HO_kb.out (fun _ hk => ⟨hk.2, hk.1⟩)) hg hat); replace HO_ka := ak (Kd.R_after (ok := (fun k_ => some k_ ≠ (.slice Ao34 xkb_2.length co34 : Value).ownBlock)) (by (with_reducible repeat (first | apply Kd.R_alloc | apply Kd.R_drewN | apply Kd.R_drew)); exact Kd.R_mono HO_ka.out (fun _ hk => ⟨hk.2, hk.1⟩)) hg hat); replace BK175 := ak (blk_grown BK175.out hg (Kd.R_ne HO_kc.out BK175.out (by decide))); replace BK176 := ak (blk_grown BK176.out hg (Kd.R_ne HO_kc.out BK176.out (by decide))); replace BK178 := ak (blk_grown BK178.out hg (Kd.R_ne HO_kc.out BK178.out (by decide))); replace HB := ak (hb); have HO186 := ak (ho); clear HO_kc; clear ho hb hg hat; obtain ⟨Ao36, co36, eo36⟩ := Kd.R_slice HO186.out; subst eo36; have hcz37_0 := bkat BK178.out 0; have hcz37_1 := bkat BK178.out 1; have hcz37_2 := bkat BK178.out 2; have hfz37_0 := bfz BK178.out 0; have hfz37_1 := bfz BK178.out 1; have hfz37_2 := bfz BK178.out 2))
          have n0_ : Aside0 (Kd.R (Kd.int .i64) 3 (w35.setCell ⟨gb178, 0, none⟩ (.slice Ao36 y184.length co36)) w.heap.size (fun k_ => some k_ ≠ (uka : Value).ownBlock ∧ some k_ ≠ (.slice Ao36 y184.length co36 : Value).ownBlock) (.slice Ao34 xkb_2.length co34) xkb_2) := ⟨by (with_reducible repeat (first | apply Kd.R_alloc | apply Kd.R_drewN | apply Kd.R_drew)); exact Kd.R_mono (Kd.R_far (p := ⟨gb178, 0, none⟩) (Kd.R_types HO_kb.out BK178.out (by decide)) (fun _ hk => hk.2) (.slice Ao36 y184.length co36)) (fun _ hk => ⟨hk.1.1, hk.1.2⟩)⟩
          have n1_ : Aside0 (Kd.R (Kd.int .i64) 3 (w35.setCell ⟨gb178, 0, none⟩ (.slice Ao36 y184.length co36)) w.heap.size (fun k_ => some k_ ≠ (.slice Ao34 xkb_2.length co34 : Value).ownBlock ∧ some k_ ≠ (.slice Ao36 y184.length co36 : Value).ownBlock) uka xka_1) := ⟨by (with_reducible repeat (first | apply Kd.R_alloc | apply Kd.R_drewN | apply Kd.R_drew)); exact Kd.R_mono (Kd.R_far (p := ⟨gb178, 0, none⟩) (Kd.R_types HO_ka.out BK178.out (by decide)) (fun _ hk => hk.2) (.slice Ao36 y184.length co36)) (fun _ hk => ⟨hk.1.1, hk.1.2⟩)⟩
          have n2_ : Aside0 (Kd.R (Kd.int .i64) 3 (w35.setCell ⟨gb178, 0, none⟩ (.slice Ao36 y184.length co36)) w.heap.size (fun k_ => some k_ ≠ (.slice Ao34 xkb_2.length co34 : Value).ownBlock ∧ some k_ ≠ (uka : Value).ownBlock) (.slice Ao36 y184.length co36) y184) := ⟨by (with_reducible repeat (first | apply Kd.R_alloc | apply Kd.R_drewN | apply Kd.R_drew)); exact Kd.R_mono (Kd.R_far (p := ⟨gb178, 0, none⟩) (Kd.R_types HO186.out BK178.out (by decide)) (fun _ hk => hk.2) (.slice Ao36 y184.length co36)) (fun _ hk => ⟨hk.1.1, hk.1.2⟩)⟩
          have n3_ : Aside0 ((w35.setCell ⟨gb178, 0, none⟩ (.slice Ao36 y184.length co36)).heap[gb175]? = some (.cells #[.int .i64 a0_0, .slice A0_1 l0_1.length c0_1] 24 (0, 0))) := ⟨by refine bl ?_; refine blk_far ?_ NB175_178.out _; refine bl ?_; exact BK175.out⟩
          have n4_ : Aside0 ((w35.setCell ⟨gb178, 0, none⟩ (.slice Ao36 y184.length co36)).heap[gb176]? = some (.cells #[.slice none 0 0, .slice none 0 0, .slice none 0 0] 60 (0, 0))) := ⟨by refine bl ?_; refine blk_far ?_ NB176_178.out _; refine bl ?_; exact BK176.out⟩
          have n5_ : Aside0 ((w35.setCell ⟨gb178, 0, none⟩ (.slice Ao36 y184.length co36)).heap[gb178]? = some (.cells #[.slice Ao36 y184.length co36, .slice Ao34 xkb_2.length co34, uka] 60 (0, 0))) := ⟨by refine bl ?_; refine blk_put (cs := #[ukc, .slice Ao34 xkb_2.length co34, uka]) ?_ 0 _ rfl; refine bl ?_; exact BK178.out⟩
          have n6_ : Aside0 (Below w.heap.size w (w35.setCell ⟨gb178, 0, none⟩ (.slice Ao36 y184.length co36))) := ⟨bq3 HB.out GE175.out GE176.out GE178.out⟩
          (try clear HO_kb); (try clear HO_ka); (try clear HO186); (try clear BK175); (try clear BK176); (try clear BK178); (try clear HB); generalize (w35.setCell ⟨gb178, 0, none⟩ (.slice Ao36 y184.length co36)) = w38 at n0_ n1_ n2_ n3_ n4_ n5_ n6_ ⊢; have HO_kb := n0_; have HO_ka := n1_; have HO186 := n2_; have BK175 := n3_; have BK176 := n4_; have BK178 := n5_; have HB := n6_; clear n0_ n1_ n2_ n3_ n4_ n5_ n6_; replace HO_kb := ak (Kd.R_drew HO_kb.out); replace HO_ka := ak (Kd.R_drew HO_ka.out); replace HO186 := ak (Kd.R_drew HO186.out); replace BK175 := ak (blk_drew BK175.out); replace BK176 := ak (blk_drew BK176.out); replace BK178 := ak (blk_drew BK178.out); replace HB := ak (below_drew1 HB.out); refine start_ (n := 8) (S := fun w' => w'.cell? ⟨gb178, 0, none⟩ = some (.slice Ao36 y184.length co36) ∧ w'.cell? ⟨gb178, 1, none⟩ = some (.slice Ao34 xkb_2.length co34) ∧ w'.cell? ⟨gb178, 2, none⟩ = some (uka) ∧ w'.cell? ⟨gb175, 0, none⟩ = some (.int .i64 a0_0) ∧ w'.cell? ⟨gb175, 1, none⟩ = some (.slice A0_1 l0_1.length c0_1)) (ds := [7]) (mk 8 0) (by kernel_rfl) rfl (by kernel_rfl) ⟨bkat BK178.out 0, bkat BK178.out 1, bkat BK178.out 2, bkat BK175.out 0, bkat BK175.out 1⟩ (fun hHeld => ?_); refine with_tabW arcs_Build.tab14 arcs_Build.bits14 (fun HT_ HW_ => ?_); generalize w38.drew = w39 at HO_kb HO_ka HO186 BK175 BK176 BK178 HB hHeld ⊢; refine pu 0 46 (mk 8 1) HT_ ?_; refine pu 3 49 (mk 8 9) HT_ ?_; refine ta 1 47 (mk 8 11) rfl rfl HT_ HW_ hHeld (Or.inl ⟨by rfl, by rintro w' ⟨s0, s1, s2, s3, s4⟩; go_simp; with_reducible rfl⟩) ?_; refine ta 2 48 (mk 8 15) rfl rfl HT_ HW_ hHeld (Or.inl ⟨by rfl, by rintro w' ⟨s0, s1, s2, s3, s4⟩; go_simp; with_reducible rfl⟩) ?_; refine one_ (i := 4) (N := some 50) (mk 8 31) rfl rfl (one_of HT_.out (by kernel_rfl)) (by decide) (fun K hK => ?_); refine gs Try.func63 #[.agg #[.int .i64 a0_0, .slice A0_1 l0_1.length c0_1], .int .i64 x35_2] ?_
          with_reducible refine (arcs_row.calls k2 a0_0 _ _ l0_1 x35_2 t187 _ ?side1 ?side2 A29.out).mono ?_
          (case side1 => exact (Kd.C_below HR0_1.out HB.out)); (case side2 => exact HC0_1.out); rintro e w40 ⟨v188, rfl, ho0, hb⟩; refine ⟨_, rfl, ?_⟩; have HO189 := ak (Kd.R_lower (Kd.R_new' (Kd.R_new' (Kd.R_new' ho0 (Kd.R_lt HO_kb.out)) (Kd.R_lt HO_ka.out)) (Kd.R_lt HO186.out)) (below_size HB.out)); replace HO_kb := ak (Kd.R_elder' HO_kb.out (Kd.R_base ho0) hb); replace HO_ka := ak (Kd.R_elder' HO_ka.out (Kd.R_base ho0) hb); replace HO186 := ak (Kd.R_elder' HO186.out (Kd.R_base ho0) hb); replace BK175 := ak (blk_below BK175.out hb); replace BK176 := ak (blk_below BK176.out hb); replace BK178 := ak (blk_below BK178.out hb); replace HB := ak (below_step HB.out hb); (try clear hb); (try clear ho0); obtain ⟨Ao42, co42, eo42⟩ := Kd.R_slice HO189.out; (first | subst eo42 | (injection eo42 with f1_ f2_ f3_; have f4_ := f1_.symm; have f5_ := f3_.symm; clear f1_ f2_ f3_; subst f4_; subst f5_)); refine hK.out _ _ ⟨bkat BK178.out 0, bkat BK178.out 1, bkat BK178.out 2, bkat BK175.out 0, bkat BK175.out 1⟩ (fun hHeld => ?_); clear hK K; refine no ?_; refine one_ (i := 5) (N := some 51) (mk 8 63) rfl rfl (one_of HT_.out (by kernel_rfl)) (by decide) (fun K hK => ?_); refine Kd.R_append_rows_step (Kd.int .i64) (w0 := w) w.heap.size (by rfl) (.tmp 47) (.tmp 50) 25 3 (.int .i64 0) 8 rfl Try.underlying25 info3 rfl (by decide) (by omega) (.slice Ao34 xkb_2.length co34) xkb_2 t187 _ _ _ (fun k_ => some k_ ≠ (uka : Value).ownBlock ∧ some k_ ≠ (.slice Ao36 y184.length co36 : Value).ownBlock ∧ some k_ ≠ (.slice Ao42 t187.length co42 : Value).ownBlock) (fun _ => False) rfl rfl ?aO ?aR (fun _ _ h => h) (fun _ h => h.elim) ?aF ?aB ?aS ?aL ?_; (case aR => exact (Kd.R_reads' HO189.out).2.2); (case aB => exact HB.out); (case aF => exact (fun k_ hk => ⟨Kd.fresh' (Kd.R_lt HO_ka.out) k_ hk, Kd.fresh' (Kd.R_lt HO186.out) k_ hk, Kd.fresh' (Kd.R_lt HO189.out) k_ hk⟩)); (case aO => exact (by (with_reducible repeat (first | apply Kd.R_alloc | apply Kd.R_drewN | apply Kd.R_drew)); exact Kd.R_mono HO_kb.out (fun _ hk => ⟨hk.1.1, ⟨hk.1.2, hk.2⟩⟩))); (case aS => exact (below_size HB.out)); (case aL => have := LMc30.out; omega); intro v191 w41 ho hb hg hat; rw [← Ny190.out] at ho; replace HO_ka := ak (Kd.R_after (ok := (fun k_ => some k_ ≠ (.slice Ao36 y184.length co36 : Value).ownBlock ∧ some k_ ≠ (.slice Ao42 t187.length co42 : Value).ownBlock)) (by (with_reducible repeat (first | apply Kd.R_alloc | apply Kd.R_drewN | apply Kd.R_drew)); exact Kd.R_mono HO_ka.out (fun _ hk => ⟨⟨hk.1.2, hk.2⟩, hk.1.1⟩)) hg hat); replace BK175 := ak (blk_grown BK175.out hg (Kd.R_ne HO_kb.out BK175.out (by decide))); replace BK176 := ak (blk_grown BK176.out hg (Kd.R_ne HO_kb.out BK176.out (by decide))); replace BK178 := ak (blk_grown BK178.out hg (Kd.R_ne HO_kb.out BK178.out (by decide))); replace HO186 := ak (Kd.R_after (ok := (fun k_ => some k_ ≠ (uka : Value).ownBlock ∧ some k_ ≠ (.slice Ao42 t187.length co42 : Value).ownBlock)) (by (with_reducible repeat (first | apply Kd.R_alloc | apply Kd.R_drewN | apply Kd.R_drew)); exact Kd.R_mono HO186.out (fun _ hk => ⟨⟨hk.1.2, hk.2⟩, hk.1.1⟩)) hg hat); replace HO189 := ak (Kd.R_after (ok := (fun k_ => some k_ ≠ (uka : Value).ownBlock ∧ some k_ ≠ (.slice Ao36 y184.length co36 : Value).ownBlock)) (by (with_reducible repeat (first | apply Kd.R_alloc | apply Kd.R_drewN | apply Kd.R_drew)); exact Kd.R_mono HO189.out (fun _ hk => ⟨⟨hk.1.2, hk.2⟩, hk.1.1.2⟩)) hg hat)
          replace HB := ak (hb); have HO192 := ak (ho); clear HO_kb; clear ho hb hg hat; obtain ⟨Ao43, co43, eo43⟩ := Kd.R_slice HO192.out; (first | subst eo43 | (injection eo43 with f1_ f2_ f3_; have f4_ := f1_.symm; have f5_ := f3_.symm; clear f1_ f2_ f3_; subst f4_; subst f5_)); refine hK.out _ _ ⟨bkat BK178.out 0, bkat BK178.out 1, bkat BK178.out 2, bkat BK175.out 0, bkat BK175.out 1⟩ (fun hHeld => ?_); clear hK K; refine no ?_; refine pu 6 52 (mk 8 127) HT_ ?_; refine last_ (i := 7) (N := none) (mk 8 255) rfl rfl (one_of HT_.out (by kernel_rfl)) (by decide) (fun K hK => ?_); have hs44 : w41.cell? ⟨gb178, 1, none⟩ = some (.slice Ao34 xkb_2.length co34) := (blk_cell BK178.out 1).trans rfl; have hfs44 := bfz BK178.out 1; have hns44_0 := NB175_178.out; have hns44_1 := NB176_178.out; have hms44_0 := NB178_175.out; have hms44_1 := NB178_176.out; refine skip_ (w1 := ?_) (by rfl) rfl ?_ ?_; rotate_left
          ·
           go_simp; rfl
          refine hK.out _ _ ?_; clear hK K; refine done_ (done_of HT_.out (by kernel_rfl)) ?_
          try go_wp2
          go_roundg k2
          case measure => have := HK1.out; have := HK2.out; omega
          case rel => exact ⟨(wrap64 (x35_2 + 1)), (y184), (y190), (.slice Ao36 y184.length co36), (.slice Ao43 y190.length co43), ds, H', ⟨by have := HK1.out; have := HK2.out; omega⟩, ⟨by (with_reducible repeat (first | apply Kd.R_alloc | apply Kd.R_drewN | apply Kd.R_drew)); exact Kd.R_mono (Kd.R_far (p := ⟨gb178, 1, none⟩) (Kd.R_types HO186.out BK178.out (by decide)) (fun _ hk => hk.2) (.slice Ao43 y190.length co43)) (fun _ hk => ⟨hk.1.2, hk.1.1.1⟩)⟩, ⟨by (with_reducible repeat (first | apply Kd.R_alloc | apply Kd.R_drewN | apply Kd.R_drew)); exact Kd.R_mono (Kd.R_far (p := ⟨gb178, 1, none⟩) (Kd.R_types HO192.out BK178.out (by decide)) (fun _ hk => hk.2) (.slice Ao43 y190.length co43)) (fun _ hk => ⟨hk.1.2.1, hk.1.1⟩)⟩, ⟨by (with_reducible repeat (first | apply Kd.R_alloc | apply Kd.R_drewN | apply Kd.R_drew)); exact Kd.R_mono (Kd.R_far (p := ⟨gb178, 1, none⟩) (Kd.R_types HO_ka.out BK178.out (by decide)) (fun _ hk => hk.2) (.slice Ao43 y190.length co43)) (fun _ hk => ⟨hk.1.1.1, hk.1.2⟩)⟩, ⟨by refine bl ?_; refine blk_far ?_ NB175_178.out _; refine bl ?_; exact BK175.out⟩, ⟨by refine bl ?_; refine blk_far ?_ NB176_178.out _; refine bl ?_; exact BK176.out⟩, ⟨by refine bl ?_; refine blk_put (cs := #[.slice Ao36 y184.length co36, .slice Ao34 xkb_2.length co34, uka]) ?_ 1 _ rfl; refine bl ?_; exact BK178.out⟩, ⟨bq3 HB.out GE175.out GE176.out GE178.out⟩⟩
         ·
          rw [if_neg c30] at H; exact absurd H (by simp)
        ·
         rw [if_neg c28] at H; exact absurd H (by simp)
       ·
        rw [if_neg c27] at H; have c27b0 : decide (x35_2 < a0_0) = false := df c27; clear c27
        by_cases c45 : xkc_2.length < 17592186044416
        ·
         rw [if_pos c45] at H; have LMc45 := ak c45; clear c45
         obtain ⟨y193, hy193⟩ : ∃ y_ : List Int, y_ = (xkc_2 ++ [(xkb_2.length : Int)]) := ⟨_, rfl⟩
         replace H : (some (y193, xkb_2, xka_1, 0)) = some (r1, r2, r3, r4) := by first | (rw [hy193]; with_reducible exact H) | (have H2_ := (Option.bind_some _ _).symm.trans H; rw [hy193]; with_reducible exact H2_) | (have H2_ := (Option.bind_some _ _).symm.trans H; with_reducible exact H2_) | with_reducible exact H | (rw [hy193]; exact H) | exact H
         have Ny193 := ak hy193; clear hy193; simp only [Option.some.injEq, Prod.mk.injEq] at H; obtain ⟨rfl, rfl, rfl, rfl⟩ := H; have hnb46 := NB178_175.out; have hnc46 := NB175_178.out; have hnb47 := NB178_176.out; have hnc47 := NB176_178.out; have hcz48_0 := bkat BK178.out 0; have hcz48_1 := bkat BK178.out 1; have hcz48_2 := bkat BK178.out 2; have hfz48_0 := bfz BK178.out 0; have hfz48_1 := bfz BK178.out 1; have hfz48_2 := bfz BK178.out 2; obtain ⟨Ao49, co49, eo49⟩ := Kd.R_slice HO_kb.out; subst eo49
         go_wp2_with (first | ((with_reducible refine gate_builtin (b := .append) (xs := #[.tmp 55, .tmp 59]) rfl ?_); at_builtin; refine Kd.R_append (Kd.int .i64) (w0 := w) w.heap.size rfl (.tmp 55) (.tmp 59) 25 3 (.int .i64 0) 8 rfl Try.underlying25 info3 rfl (by decide) (by omega) ukc xkc_2 (xkb_2.length : Int) [.int .i64 (xkb_2.length : Int)] (fun k_ => some k_ ≠ (.slice Ao49 xkb_2.length co49 : Value).ownBlock ∧ some k_ ≠ (uka : Value).ownBlock) (fun _ => False) rfl rfl ?aP (fun _ hk => hk.elim) ?aF ?aO ?aB ?aS ?aL ?_; (case aP => exact rfl); (case aB => exact HB.out); (case aF => exact (fun k_ hk => ⟨Kd.fresh' (Kd.R_lt HO_kb.out) k_ hk, Kd.fresh' (Kd.R_lt HO_ka.out) k_ hk⟩)); (case aO => exact HO_kc.out); (case aS => exact (below_size HB.out)); (case aL => have := LMc45.out; omega); intro v194 w50 ho hb hg hat; rw [← Ny193.out] at ho; replace HO_kb := ak (Kd.R_after (ok := (fun k_ => some k_ ≠ (uka : Value).ownBlock)) (by (with_reducible repeat (first | apply Kd.R_alloc | apply Kd.R_drewN | apply Kd.R_drew)); exact Kd.R_mono HO_kb.out (fun _ hk => ⟨hk.2, hk.1⟩)) hg hat); replace HO_ka := ak (Kd.R_after (ok := (fun k_ => some k_ ≠ (.slice Ao49 xkb_2.length co49 : Value).ownBlock)) (by (with_reducible repeat (first | apply Kd.R_alloc | apply Kd.R_drewN | apply Kd.R_drew)); exact Kd.R_mono HO_ka.out (fun _ hk => ⟨hk.2, hk.1⟩)) hg hat); replace BK175 := ak (blk_grown BK175.out hg (Kd.R_ne HO_kc.out BK175.out (by decide))); replace BK176 := ak (blk_grown BK176.out hg (Kd.R_ne HO_kc.out BK176.out (by decide))); replace BK178 := ak (blk_grown BK178.out hg (Kd.R_ne HO_kc.out BK178.out (by decide))); replace HB := ak (hb); have HO195 := ak (ho); clear HO_kc; clear ho hb hg hat; obtain ⟨Ao51, co51, eo51⟩ := Kd.R_slice HO195.out; subst eo51; have hcz52_0 := bkat BK178.out 0; have hcz52_1 := bkat BK178.out 1; have hcz52_2 := bkat BK178.out 2; have hfz52_0 := bfz BK178.out 0; have hfz52_1 := bfz BK178.out 1; have hfz52_2 := bfz BK178.out 2; have hnb53 := NB176_175.out; have hnc53 := NB175_176.out; have hcz54_0 := bkat BK176.out 0; have hcz54_1 := bkat BK176.out 1; have hcz54_2 := bkat BK176.out 2; have hfz54_0 := bfz BK176.out 0; have hfz54_1 := bfz BK176.out 1; have hfz54_2 := bfz BK176.out 2; obtain ⟨Ao55, co55, eo55⟩ := Kd.R_slice HO_ka.out; subst eo55))
         refine bodyPost_ret (results_ct rfl _ _ gb176 60 #[.slice Ao51 y193.length co51, .slice Ao49 xkb_2.length co49, .slice Ao55 xka_1.length co55] (0, 0) _ rfl (by refine bl ?_; refine blk_put (cs := #[.slice Ao51 y193.length co51, .slice Ao49 xkb_2.length co49, .slice none 0 0]) ?_ 2 _ rfl; refine bl ?_; refine blk_put (cs := #[.slice Ao51 y193.length co51, .slice none 0 0, .slice none 0 0]) ?_ 1 _ rfl; refine bl ?_; refine blk_put (cs := #[.slice none 0 0, .slice none 0 0, .slice none 0 0]) ?_ 0 _ rfl; refine bl ?_; refine blk_far ?_ NB176_178.out _; refine bl ?_; exact BK176.out) Try.underlying60 rfl (by kernel_rfl)) rfl ?_; exact ⟨_, _, _, de, by (with_reducible repeat (first | apply Kd.R_alloc | apply Kd.R_drewN | apply Kd.R_drew)); exact Kd.R_mono (Kd.R_far (p := ⟨gb176, 2, none⟩) (Kd.R_far (p := ⟨gb176, 1, none⟩) (Kd.R_far (p := ⟨gb176, 0, none⟩) (Kd.R_far (p := ⟨gb178, 0, none⟩) (Kd.R_types (Kd.R_types HO195.out BK178.out (by decide)) BK176.out (by decide)) (fun _ hk => hk.1.2) (.slice Ao51 y193.length co51)) (fun _ hk => hk.2) (.slice Ao51 y193.length co51)) (fun _ hk => hk.2) (.slice Ao49 xkb_2.length co49)) (fun _ hk => hk.2) (.slice Ao55 xka_1.length co55)) (fun _ hk => ⟨hk.1.1.1, hk.1.1.2⟩), by (with_reducible repeat (first | apply Kd.R_alloc | apply Kd.R_drewN | apply Kd.R_drew)); exact Kd.R_mono (Kd.R_far (p := ⟨gb176, 2, none⟩) (Kd.R_far (p := ⟨gb176, 1, none⟩) (Kd.R_far (p := ⟨gb176, 0, none⟩) (Kd.R_far (p := ⟨gb178, 0, none⟩) (Kd.R_types (Kd.R_types HO_kb.out BK178.out (by decide)) BK176.out (by decide)) (fun _ hk => hk.1.2) (.slice Ao51 y193.length co51)) (fun _ hk => hk.2) (.slice Ao51 y193.length co51)) (fun _ hk => hk.2) (.slice Ao49 xkb_2.length co49)) (fun _ hk => hk.2) (.slice Ao55 xka_1.length co55)) (fun _ hk => ⟨hk.1.1.2, hk.1.1.1⟩), by (with_reducible repeat (first | apply Kd.R_alloc | apply Kd.R_drewN | apply Kd.R_drew)); exact Kd.R_mono (Kd.R_far (p := ⟨gb176, 2, none⟩) (Kd.R_far (p := ⟨gb176, 1, none⟩) (Kd.R_far (p := ⟨gb176, 0, none⟩) (Kd.R_far (p := ⟨gb178, 0, none⟩) (Kd.R_types (Kd.R_types HO_ka.out BK178.out (by decide)) BK176.out (by decide)) (fun _ hk => hk.1.2) (.slice Ao51 y193.length co51)) (fun _ hk => hk.2) (.slice Ao51 y193.length co51)) (fun _ hk => hk.2) (.slice Ao49 xkb_2.length co49)) (fun _ hk => hk.2) (.slice Ao55 xka_1.length co55)) (fun _ hk => ⟨hk.1.1.2, hk.1.1.1⟩), bq3 HB.out GE175.out GE176.out GE178.out⟩
        ·
         rw [if_neg c45] at H; exact absurd H (by simp)
 ·
  replace c3 := Bool.eq_false_iff.mpr c3; subst c3
  have H1 : (some (([] : List Int), ([] : List Int), ([] : List Int), 500)) = some (r1, r2, r3, r4) := by rw [if_neg (show ¬ (false = true) by decide)] at H; exact H
  clear H; have H := H1; clear H1; simp only [Option.some.injEq, Prod.mk.injEq] at H; obtain ⟨rfl, rfl, rfl, rfl⟩ := H
  go_enter Try.func38, Try.ntmps38
  go_wp2_with (first | ((with_reducible refine gate_dst (N := 1) rfl ?_); refine box_event ?hg (N := 1) ?hd (cs := #[.int .i64 a0_0, .slice A0_1 l0_1.length c0_1]) (t := 24) ?hr ?_; (case hd => rfl); (case hg => rfl); (case hr => first | (go_simp; done) | (go_simp; rfl)); intro gb175 hg w56 hbox hb; have BK175 := ak (hbox); have GW175 := ak ((by rw [hg]; exact (below_size HB.out) : w.heap.size ≤ gb175)); have GE175 := ak ((by rw [hg]; exact (below_size HB.out) : w.heap.size ≤ gb175)); replace HB := ak (below_step HB.out hb); clear hb hbox hg) | ((with_reducible refine gate_dst (N := 2) rfl ?_); refine box_event ?hg (N := 2) ?hd (cs := #[.slice none 0 0, .slice none 0 0, .slice none 0 0]) (t := 60) ?hr ?_; (case hd => rfl); (case hg => rfl); (case hr => first | (go_simp; done) | (go_simp; rfl)); intro gb176 hg w57 hbox hb; have BK176 := ak (hbox); have GW176 := ak ((by rw [hg]; exact (below_size HB.out) : w.heap.size ≤ gb176)); have GE176 := ak ((by rw [hg]; exact (below_size HB.out) : w.heap.size ≤ gb176)); replace HB := ak (below_step HB.out hb); have NB175_176 := ak ((by rw [hg]; exact Nat.ne_of_lt (blk_lt (g := gb175) (o := .cells #[.int .i64 a0_0, .slice A0_1 l0_1.length c0_1] 24 (0, 0)) BK175.out) : gb175 ≠ gb176)); have NB176_175 := ak ((by rw [hg]; exact Nat.ne_of_gt (blk_lt (g := gb175) (o := .cells #[.int .i64 a0_0, .slice A0_1 l0_1.length c0_1] 24 (0, 0)) BK175.out) : gb176 ≠ gb175)); replace BK175 := ak (blk_below BK175.out hb); clear hb hbox hg; have hnb58 := NB175_176.out; have hnc58 := NB176_175.out; have hcz59_0 := bkat BK175.out 0; have hcz59_1 := bkat BK175.out 1; have hfz59_0 := bfz BK175.out 0; have hfz59_1 := bfz BK175.out 1) | ((with_reducible refine gate_callee (f := 61) rfl ?_); refine gl 10 Try.func61 #[.agg #[.int .i64 a0_0, .slice A0_1 l0_1.length c0_1]] ?_; (with_reducible refine (graph_May.calls k a0_0 _ _ l0_1 false _ ?side1 ?side2 A2.out).mono ?_); (case side1 => exact (Kd.C_below HR0_1.out HB.out)); (case side2 => exact HC0_1.out); rintro e w60 ⟨rfl, hb⟩; refine ⟨_, rfl, ?_⟩; replace BK175 := ak (blk_below BK175.out hb); replace BK176 := ak (blk_below BK176.out hb); replace HB := ak (below_step HB.out hb); (try clear hb); have hcz61_0 := bkat BK176.out 0; have hcz61_1 := bkat BK176.out 1; have hcz61_2 := bkat BK176.out 2; have hfz61_0 := bfz BK176.out 0; have hfz61_1 := bfz BK176.out 1; have hfz61_2 := bfz BK176.out 2))
  refine bodyPost_ret (results_ct rfl _ _ gb176 60 #[.slice none 0 0, .slice none 0 0, .slice none 0 0] (0, 0) _ rfl (by refine bl ?_; refine blk_put (cs := #[.slice none 0 0, .slice none 0 0, .slice none 0 0]) ?_ 2 _ rfl; refine bl ?_; refine blk_put (cs := #[.slice none 0 0, .slice none 0 0, .slice none 0 0]) ?_ 1 _ rfl; refine bl ?_; refine blk_put (cs := #[.slice none 0 0, .slice none 0 0, .slice none 0 0]) ?_ 0 _ rfl; refine bl ?_; exact BK176.out) Try.underlying60 rfl (by kernel_rfl)) rfl ?_; exact ⟨_, _, _, de, by first | exact Kd.R_nil _ _ _ _ _ | exact Kd.N_nil _ _ _ _ _ | exact Kd.V_nil _ _ _ _ _ | exact Kd.Q_nil _ _ _ _ _ | exact Kd.S_nil _ _ _ _ _, by first | exact Kd.R_nil _ _ _ _ _ | exact Kd.N_nil _ _ _ _ _ | exact Kd.V_nil _ _ _ _ _ | exact Kd.Q_nil _ _ _ _ _ | exact Kd.S_nil _ _ _ _ _, by first | exact Kd.R_nil _ _ _ _ _ | exact Kd.N_nil _ _ _ _ _ | exact Kd.V_nil _ _ _ _ _ | exact Kd.Q_nil _ _ _ _ _ | exact Kd.S_nil _ _ _ _ _, bq2 HB.out GE175.out GE176.out⟩
def bits_Mul64.f (a0 : Int) (a1 : Int) : Option (Int × Int) := some (IntKind.u64.wrap ((IntKind.u64.wrap ((IntKind.u64.wrap ((a0 / 4294967296) * (a1 / 4294967296))) + ((IntKind.u64.wrap ((IntKind.u64.wrap ((a0 / 4294967296) * (Go.bits .and .u64 a1 4294967295))) + ((IntKind.u64.wrap ((Go.bits .and .u64 a0 4294967295) * (Go.bits .and .u64 a1 4294967295))) / 4294967296))) / 4294967296))) + ((IntKind.u64.wrap ((Go.bits .and .u64 (IntKind.u64.wrap ((IntKind.u64.wrap ((a0 / 4294967296) * (Go.bits .and .u64 a1 4294967295))) + ((IntKind.u64.wrap ((Go.bits .and .u64 a0 4294967295) * (Go.bits .and .u64 a1 4294967295))) / 4294967296))) 4294967295) + (IntKind.u64.wrap ((Go.bits .and .u64 a0 4294967295) * (a1 / 4294967296))))) / 4294967296)), IntKind.u64.wrap (a0 * a1))
theorem bits_Mul64.calls (a0 : Int) (a1 : Int) (r1 : Int) (r2 : Int) (w : World) (h : bits_Mul64.f a0 a1 = some (r1, r2)) :
    Calls Try.prog 73 #[.int .u64 a0, .int .u64 a1] w fun e w' => e = .returned (.tuple #[.int .u64 r1, .int .u64 r2]) ∧ Drawn0 w w' := by
  have H : (some (IntKind.u64.wrap ((IntKind.u64.wrap ((IntKind.u64.wrap ((a0 / 4294967296) * (a1 / 4294967296))) + ((IntKind.u64.wrap ((IntKind.u64.wrap ((a0 / 4294967296) * (Go.bits .and .u64 a1 4294967295))) + ((IntKind.u64.wrap ((Go.bits .and .u64 a0 4294967295) * (Go.bits .and .u64 a1 4294967295))) / 4294967296))) / 4294967296))) + ((IntKind.u64.wrap ((Go.bits .and .u64 (IntKind.u64.wrap ((IntKind.u64.wrap ((a0 / 4294967296) * (Go.bits .and .u64 a1 4294967295))) + ((IntKind.u64.wrap ((Go.bits .and .u64 a0 4294967295) * (Go.bits .and .u64 a1 4294967295))) / 4294967296))) 4294967295) + (IntKind.u64.wrap ((Go.bits .and .u64 a0 4294967295) * (a1 / 4294967296))))) / 4294967296)), IntKind.u64.wrap (a0 * a1))) = some (r1, r2) := h; clear h; simp only [Option.some.injEq, Prod.mk.injEq] at H; obtain ⟨rfl, rfl⟩ := H
  go_enter Try.func73, Try.ntmps73
  go_wp2
  go_ret2
  exact ⟨ds, by repeat (first | exact Drawn0.refl _ | apply Drawn0.step)⟩
def bits_Mul.f (a0 : Int) (a1 : Int) : Option (Int × Int) := (bits_Mul64.f a0 a1).bind fun bt196 => (some (bt196.1, bt196.2))
theorem bits_Mul.calls (a0 : Int) (a1 : Int) (r1 : Int) (r2 : Int) (w : World) (h : bits_Mul.f a0 a1 = some (r1, r2)) :
    Calls Try.prog 70 #[.int .u64 a0, .int .u64 a1] w fun e w' => e = .returned (.tuple #[.int .u64 r1, .int .u64 r2]) ∧ Drawn0 w w' := by
  have H : ((bits_Mul64.f a0 a1).bind fun bt196 => (some (bt196.1, bt196.2))) = some (r1, r2) := h; clear h; replace H := Option.bind_eq_some_iff.mp H; obtain ⟨⟨t196, t197⟩, A30, H⟩ := H; replace H : (some (t196, t197)) = some (r1, r2) := H; have A3 := ak A30; clear A30; simp only [Option.some.injEq, Prod.mk.injEq] at H; obtain ⟨rfl, rfl⟩ := H
  go_enter Try.func70, Try.ntmps70
  go_wp2_with (first | ((with_reducible refine gate_callee (f := 73) rfl ?_); refine goesL_ (some 25) rfl rfl Try.func73 (by kernel_rfl) rfl #[.int .u64 a0, .int .u64 a1] rfl (by (try simp only [List.map_toArray, List.map_cons, List.map_nil]); first | done | rfl | (simp only [List.length_drop, List.length_take]; rfl)) ?_; (with_reducible refine (bits_Mul64.calls a0 a1 t196 t197 _ A3.out).mono ?_); rintro e w' ⟨rfl, ⟨nd, rfl⟩⟩; refine ⟨_, rfl, ?_⟩))
  go_ret2
  exact ⟨ds, by repeat (first | exact Drawn0.refl _ | apply Drawn0.step)⟩
end Go.Proofs.Ytnbhfcanknhkhaa.PAll
end

section
namespace Go.Proofs.Ytnbhfcanknhkhaa.PAll
open Go.RowKit Go.Proofs.YtnbhfcanknhkhaaW.PrintWords Go.Proofs.YtnbhfcanknhkhaaW.PrintLast Go.Proofs.YtnbhfcanknhkhaaW.PrintMore
set_option linter.unusedVariables false
set_option linter.unusedSimpArgs false
set_option maxHeartbeats 8000000
set_option maxRecDepth 100000
theorem size_drewN (w : World) (nd : Nat) : (w.drewN nd).heap.size = w.heap.size := rfl
theorem rep_hg (w : World) (nd n : Nat) (z : Value) (e : TypeId) : ((w.drewN nd).alloc (.cells (Array.replicate n z) e)).heap[w.heap.size]? = some (.cells (List.replicate n z).toArray e (0, 0)) := by
  have h := heap_alloc_new (w.drewN nd) (.cells (Array.replicate n z) e)
  rw [size_drewN] at h
  rw [h]
  simp
theorem rep_hpos (w : World) (nd : Nat) (A : Addr) (v : Value) (o : Obj) (h : w.cell? A = some v) : ∀ (j : Nat) (u : Value), [v][j]? = some u → ((w.drewN nd).alloc o).cell? (A.add j) = some u := by
  intro j u hj
  cases j with
  | zero =>
    simp at hj
    subst hj
    rw [show A.add 0 = A by simp [Addr.add]]
    exact pw_cell_below (below_alloc (pw_below_drewN (Below.refl _ _) _) _) h
  | succ j => simp at hj
theorem rep_hb (w : World) (nd : Nat) (o : Obj) : Below w.heap.size w ((w.drewN nd).alloc o) := below_alloc (pw_below_drewN (Below.refl _ _) _) _
theorem rep_min {a n : Nat} (ha : a = 1) (h : 1 ≤ n) : a = Nat.min 1 n := by
  subst ha
  exact (Nat.min_eq_left h).symm
theorem rep_one (v : Value) (h : v.oneCell' = true) : ∀ u ∈ [v], u.oneCell' = true := by
  intro u hu
  rw [List.mem_singleton.1 hu]
  exact h
theorem rep_splice0 (n : Nat) (h : 1 ≤ n) (x z : Value) : splice (List.replicate n z) 0 [x] = List.replicate 1 x ++ List.replicate (n - 1) z := by
  simp [splice]

theorem rep_src {w : World} {g k n : Nat} {x z : Value} {e : TypeId} (h : w.heap[g]? = some (.cells (List.replicate k x ++ List.replicate (n - k) z).toArray e (0, 0))) (m : Nat) (hm : m ≤ k) :
    ∀ (j : Nat) (u : Value), (List.replicate m x)[j]? = some u → w.cell? ((⟨g, 0, none⟩ : Addr).add j) = some u := by
  intro j u hj
  have hjm : j < m := by
    have := (List.getElem?_eq_some_iff.1 hj).1
    simpa using this
  have e1 : (⟨g, 0, none⟩ : Addr).add j = ⟨g, j, none⟩ := by
    unfold Addr.add
    by_cases h0 : j = 0
    · subst h0; rfl
    · simp [h0]
  rw [e1, blk_cell h j]
  rw [List.getElem?_replicate, if_pos hjm] at hj
  simp only [List.getElem?_toArray]
  rw [List.getElem?_append_left (by simp; omega), List.getElem?_replicate, if_pos (by omega)]
  exact hj
theorem rep_splice (k n m : Nat) (hm : m = Nat.min k (n - k)) (hk : k ≤ n) (x z : Value) :
    splice (List.replicate k x ++ List.replicate (n - k) z) k (List.replicate m x) = List.replicate (k + m) x ++ List.replicate (n - (k + m)) z := by
  have hm2 : m ≤ n - k := by rw [hm]; exact Nat.min_le_right _ _
  unfold splice
  rw [List.take_left' (by simp), List.length_replicate, List.drop_append, List.length_replicate, List.drop_eq_nil_of_le (by simp), List.nil_append, List.drop_replicate, ← List.append_assoc, List.replicate_append_replicate]
  congr 2
  omega
theorem mul_small (n : Nat) (h : n ≤ 8) : bits_Mul.f 1 (n : Int) = some (0, (n : Int)) := by
  have : ∀ m : Fin 9, bits_Mul.f 1 ((m.1 : Nat) : Int) = some (0, ((m.1 : Nat) : Int)) := by decide +kernel
  exact this ⟨n, by omega⟩
end Go.Proofs.Ytnbhfcanknhkhaa.PAll
end

section
namespace Go.Proofs.Ytnbhfcanknhkhaa.PAll
open Go.RowKit Go.Proofs.YtnbhfcanknhkhaaW.PrintWords Go.Proofs.YtnbhfcanknhkhaaW.PrintLast Go.Proofs.YtnbhfcanknhkhaaW.PrintMore
attribute [local go_sem] max2_int min2_int max_two min_two max_three min_three max_four min_four
set_option linter.unusedVariables false
set_option linter.unusedSimpArgs false
set_option maxHeartbeats 8000000
set_option maxRecDepth 100000
theorem repI_R {w0 w : World} {g n : Nat} {x : Int} (h : w.heap[g]? = some (.cells (List.replicate n (Value.int .i64 x) ++ List.replicate (n - n) (Value.int .i64 0)).toArray 3 (0, 0))) (hn : n ≤ 8) (hg : w0.heap.size ≤ g) :
    Kd.R (Kd.int .i64) 3 w w0.heap.size (fun _ => True) (.slice (some ⟨g, 0, none⟩) n n) (List.replicate n x) := by
  rw [Nat.sub_self] at h
  simp only [List.replicate_zero, List.append_nil] at h
  refine ⟨fun _ _ => trivial, List.replicate n (Value.int .i64 x), ⟨by simp [Kd.int, Kd.scalar], .inr ⟨g, n, (List.replicate n (Value.int .i64 x)).toArray, by simp, hg, h, by simp, by unfold maxLen; omega, by simp [Kd.int, Kd.scalar], by simp [Kd.int, Kd.scalar]⟩⟩, by simp [Kd.int, Kd.scalar], ?_⟩
  intro j p hj
  have hjm : j < n := by
    have := (List.getElem?_eq_some_iff.1 hj).1
    simpa using this
  rw [List.getElem?_replicate, if_pos hjm] at hj
  cases hj
  show ((List.replicate n (Value.int .i64 x)).drop (j * 1)).take 1 = [Value.int .i64 x]
  rw [Nat.mul_one, List.drop_replicate, List.take_replicate, Nat.min_eq_left (by omega)]
  rfl
theorem repI (A : Addr) (c0 : Nat) (x : Int) (n : Nat) (hn1 : 1 ≤ n) (hn : n ≤ 8) (w : World) (hx : w.cell? A = some (Value.int .i64 x)) (hc : 1 ≤ c0) :
    Calls Try.prog 64 #[.slice (some A) 1 c0, .int .i64 n] w fun e w' => ∃ v, e = .returned v ∧ Kd.R (Kd.int .i64) 3 w' w.heap.size (fun _ => True) v (List.replicate n x) ∧ Below w.heap.size w w' := by
  have HM := ak (mul_small n hn)
  have HB := ak (Below.refl w.heap.size w)
  have h0 : decide ((n : Int) < 0) = false := by simp
  have h1 : decide ((0 : Int) > 0) = false := by simp
  have h2 : decide ((n : Int) > 9223372036854775807) = false := by simp; omega
  have h2' : decide ((9223372036854775807 : Int) < (n : Int)) = false := by simp; omega
  have HK : ∀ (W : World), (Instr.makeSlice 25 (.int .i64 (n : Int)) (.int .i64 (n : Int))).run Try.prog W = .ok (.slice (some ⟨W.heap.size, 0, none⟩) n n) (W.alloc (.cells (List.replicate n (Value.int .i64 0)).toArray 3)) := by
    intro W
    obtain ⟨i0, hi, hzz⟩ := Option.map_eq_some_iff.1 info3
    simp only [Prod.mk.injEq] at hzz
    have := run_make (P := Try.prog) W 25 3 i0 (Value.int .i64 0) Try.underlying25 hi hzz.1 .i64 .i64 (n : Int) (n : Int) (by omega) (by omega) (by rw [hzz.2.2]; omega) (by omega)
    rw [this, hzz.2.1]
    have hm : madeCells (Value.int .i64 0).cells (n * 1) = (List.replicate n (Value.int .i64 0)).toArray := by
      rw [Nat.mul_one]
      apply Array.ext'
      apply List.ext_getElem
      · simp [madeCells]
      · intro i h1 h2
        simp [madeCells, Value.cells, Nat.mod_one]
    simp only [Int.toNat_natCast]
    rw [hm]
  go_enter Try.func64, Try.ntmps64
  go_wp2_with (first | ((with_reducible refine gate_callee (f := 70) rfl ?_); refine goesL_ (some 18) rfl rfl Try.func70 (by kernel_rfl) rfl #[.int .u64 1, .int .u64 n] rfl (by (try simp only [List.map_toArray, List.map_cons, List.map_nil]); first | done | rfl) ?_; (with_reducible refine (bits_Mul.calls 1 n 0 n _ HM.out).mono ?_); rintro e w' ⟨rfl, ⟨nd, rfl⟩⟩; refine ⟨_, rfl, ?_⟩) | ((with_reducible refine gate_builtin (b := .copy) (xs := #[.tmp 31, .tmp 32]) rfl ?_); refine wpList_copy_splice rfl (.tmp 31) (.tmp 32) 25 25 rfl 3 Try.underlying25 (by kernel_rfl) _ _ n n 1 c0 rfl rfl w.heap.size 0 (List.replicate n (Value.int .i64 0)) 3 ?hg [Value.int .i64 x] ?hn ?hpos ?hfit ?h1 w.heap.size w ?hb (Nat.le_refl _) ?_; (case hg => exact rep_hg w nd n _ _); (case hn => exact rep_min rfl hn1); (case hpos => exact fun _ => ⟨rfl, A, rfl, rep_hpos w nd A _ _ hx⟩); (case hfit => exact (show 0 + 1 ≤ (List.replicate n _).length by rw [List.length_replicate]; omega)); (case h1 => exact rep_one _ rfl); (case hb => exact rep_hb w nd _); intro w5 hg5 hb5; clear HB; have HB := ak hb5; have HG := ak hg5.out; clear hg5 hb5))
  go_loopw [8] (fun v wr => ∃ k : Nat, 1 ≤ k ∧ k ≤ n ∧ v = .int .i64 (k : Int) ∧ Aside0 (wr.heap[w.heap.size]? = some (.cells (List.replicate k (Value.int .i64 x) ++ List.replicate (n - k) (Value.int .i64 0)).toArray 3 (0, 0))) ∧ Aside0 (Below w.heap.size w wr)) (fun v _ => n - (intOf v).toNat)
  case atStart => exact ⟨1, by omega, by omega, by simp, ⟨by rw [HG.out, rep_splice0 n hn1]⟩, HB⟩
  case round =>
    clear HG HB
    obtain ⟨k, hk1, hkn, rfl, HG, HB⟩ := hrel
    by_cases hlt : k < n
    · have g1 : decide ((k : Int) < (n : Int)) = true := by simp; omega
      go_wp2
      have hne : ¬ n = k := by omega
      have HS := ak (rep_src HG.out (Nat.min k (n - k)) (Nat.min_le_left _ _))
      have hle : Nat.min k (n - k) ≤ n - k := Nat.min_le_right _ _
      have hpos : 1 ≤ Nat.min k (n - k) := by rw [Nat.le_min]; omega
      obtain ⟨m, hm⟩ : ∃ m, m = Nat.min k (n - k) := ⟨_, rfl⟩
      have HN := ak hm
      rw [← hm] at HS hle hpos
      clear hm
      go_region_law (refine step_copy_splice rfl (.tmp 41) (.tmp 44) 25 25 rfl 3 Try.underlying25 (by kernel_rfl) (some ⟨w.heap.size, k, none⟩) (some ⟨w.heap.size, 0, none⟩) (n - k) (n - k) k n (by simp [Act.eval, Act.put]) (by simp [Act.eval, Act.put]) w.heap.size k (List.replicate k (Value.int .i64 x) ++ List.replicate (n - k) (Value.int .i64 0)) 3 HG.out (List.replicate m (Value.int .i64 x)) (by rw [List.length_replicate]; exact HN.out) (fun _ => ⟨rfl, _, rfl, HS.out⟩) (by simp; omega) (by intro v hv; rw [List.eq_of_mem_replicate hv]; rfl) w.heap.size w (below_drew1 HB.out) (Nat.le_refl _) ?_; intro w7 hg7 hb7)
      have HG2 := ak (hg7.out.trans (by rw [rep_splice k n m HN.out (by omega)]))
      have HB2 := ak hb7
      clear hg7 hb7 HG HB HS
      have hwr : IntKind.i64.wrap ((k : Int) + (m : Int)) = ((k + m : Nat) : Int) := by rw [IntKind.wrap_i64]; omega
      go_wp2
      refine ⟨?_, ?_⟩
      · (repeat apply Exists.intro)
        exact ⟨⟨k + m, by omega, by omega, congrArg (Value.int .i64) hwr, HG2, HB2⟩, rfl⟩
      · show n - (intOf (.int .i64 (IntKind.i64.wrap ((k : Int) + (m : Int))))).toNat < n - (intOf (.int .i64 (k : Int))).toNat
        rw [hwr]
        simp only [intOf, Int.toNat_natCast]
        omega
    · obtain rfl : k = n := by omega
      go_wp2
      go_ret
      exact ⟨_, rfl, repI_R HG.out hn (Nat.le_refl _), HB.out⟩
def slices_Repeat_int_int.f (l0 : List Int) (a1 : Int) : Option (List Int) := if l0.length = 1 ∧ 1 ≤ a1 ∧ a1 ≤ 8 then some (List.replicate a1.toNat (rd l0 0)) else none
theorem slices_Repeat_int_int.calls (A0 : Option Addr) (c0 : Nat) (l0 : List Int) (a1 : Int) (r : List Int) (w : World) (hr0 : Kd.C (Kd.int .i64) w A0 l0.length l0) (hc0 : l0.length ≤ c0) (h : slices_Repeat_int_int.f l0 a1 = some r) :
    Calls Try.prog 64 #[.slice A0 l0.length c0, .int .i64 a1] w fun e w' => ∃ v0_ : Value, e = .returned (v0_) ∧ Kd.R (Kd.int .i64) 3 w' w.heap.size (fun _ => True) v0_ r ∧ Below w.heap.size w w' := by
  unfold slices_Repeat_int_int.f at h
  by_cases hc : l0.length = 1 ∧ 1 ≤ a1 ∧ a1 ≤ 8
  · rw [if_pos hc] at h
    cases h; obtain ⟨h1, h2, h3⟩ := hc; obtain ⟨n, rfl⟩ := Int.eq_ofNat_of_zero_le (show 0 ≤ a1 by omega); obtain ⟨ad, e, hx⟩ := Kd.at_int hr0 0 (by omega) (by omega); subst e; rw [show ad.add (0 : Int).toNat = ad by simp [Addr.add]] at hx; rw [Int.toNat_natCast, h1]; exact repI ad c0 (rd l0 0) n (by omega) (by omega) w hx (by omega)
  · rw [if_neg hc] at h
    cases h
end Go.Proofs.Ytnbhfcanknhkhaa.PAll
end

section
namespace Go.Proofs.Ytnbhfcanknhkhaa.PAll
open Go.RowKit Go.Proofs.YtnbhfcanknhkhaaW.PrintWords Go.Proofs.YtnbhfcanknhkhaaW.PrintLast Go.Proofs.YtnbhfcanknhkhaaW.PrintMore
attribute [local go_sem] max2_int min2_int max_two min_two max_three min_three max_four min_four   -- for this text's walks alone
set_option linter.unusedVariables false
set_option linter.unusedSimpArgs false
set_option maxHeartbeats 8000000
set_option maxRecDepth 100000
def stream_Left.f (l0 : List Int) (l1 : List Int) (a2 : Int) : Option (Int) := if (Int.tmod a2 2) = 1 then (if 0 ≤ (wrap64 (Int.tdiv a2 2)) then (if (wrap64 (Int.tdiv a2 2)) < (l1.length : Int) then (some (rd l1 (wrap64 (Int.tdiv a2 2)))) else (none)) else (none)) else (if 0 ≤ (wrap64 (Int.tdiv a2 2)) then (if (wrap64 (Int.tdiv a2 2)) < (l0.length : Int) then (if (wrap64 (Int.tdiv a2 2)) < (l1.length : Int) then (some (wrap64 ((rd l0 (wrap64 (Int.tdiv a2 2))) - (rd l1 (wrap64 (Int.tdiv a2 2)))))) else (none)) else (none)) else (none))
theorem stream_Left.calls (A0 : Option Addr) (c0 : Nat) (l0 : List Int) (A1 : Option Addr) (c1 : Nat) (l1 : List Int) (a2 : Int) (r : Int) (w : World) (hr0 : Kd.C (Kd.int .i64) w A0 l0.length l0) (hc0 : l0.length ≤ c0) (hr1 : Kd.C (Kd.int .i64) w A1 l1.length l1) (hc1 : l1.length ≤ c1) (h : stream_Left.f l0 l1 a2 = some r) :
    Calls Try.prog 65 #[.slice A0 l0.length c0, .slice A1 l1.length c1, .int .i64 a2] w fun e w' => e = .returned (.int .i64 r) ∧ Drawn0 w w' := by
  have HR0 := ak hr0; have HC0 := ak hc0; clear hr0 hc0; have HR1 := ak hr1; have HC1 := ak hc1; clear hr1 hc1; have H : (if (Int.tmod a2 2) = 1 then (if 0 ≤ (wrap64 (Int.tdiv a2 2)) then (if (wrap64 (Int.tdiv a2 2)) < (l1.length : Int) then (some (rd l1 (wrap64 (Int.tdiv a2 2)))) else (none)) else (none)) else (if 0 ≤ (wrap64 (Int.tdiv a2 2)) then (if (wrap64 (Int.tdiv a2 2)) < (l0.length : Int) then (if (wrap64 (Int.tdiv a2 2)) < (l1.length : Int) then (some (wrap64 ((rd l0 (wrap64 (Int.tdiv a2 2))) - (rd l1 (wrap64 (Int.tdiv a2 2)))))) else (none)) else (none)) else (none))) = some r := h; clear h
  by_cases c4 : (Int.tmod a2 2) = 1
  · rw [if_pos c4] at H
    have c4b0 : ((Int.tmod a2 2) == 1) = true := beq_iff_eq.mpr c4; have c4b1 : ((Int.tmod a2 2) != 1) = false := bne_eq_false_iff_eq.mpr c4; clear c4
    obtain ⟨ji5, hji5⟩ : ∃ j_ : Int, (wrap64 (Int.tdiv a2 2)) = j_ := ⟨_, rfl⟩
    replace H : (if 0 ≤ (ji5) then (if (ji5) < (l1.length : Int) then (some (rd l1 (ji5))) else (none)) else (none)) = some r := by first | (rw [hji5] at H; exact H) | (simp only [hji5] at H ⊢; exact H)
    have hji5w : (IntKind.i64.wrap (Int.tdiv a2 2)) = ji5 := (i64_w _).trans hji5
    by_cases c6 : 0 ≤ (ji5)
    · rw [if_pos c6] at H
      have c6b0 : decide (0 ≤ (ji5)) = true := dt c6; clear c6
      by_cases c7 : (ji5) < (l1.length : Int)
      · rw [if_pos c7] at H
        have c7b0 : decide ((ji5) < (l1.length : Int)) = true := dt c7; clear c7; obtain rfl := Option.some.inj H; have p204 : 0 ≤ ((ji5) : Int) := od; have q204 : (ji5) < (l1.length : Int) := od; obtain ⟨ad204, e204, hx204_0⟩ := Kd.at_int HR1.out (ji5) p204 q204; cases e204; replace p204 := eq_true p204; replace q204 := eq_true q204
        go_enter Try.func65, Try.ntmps65
        go_wp2
        repeat (go_quiet (fail); try go_wp2)
        go_ret
        exact ⟨by first | rfl | (simp; done) | (simp only [← hji5] <;> (first | rfl | simp)) | (simp [*]; done), by repeat (first | exact Drawn0.refl _ | apply Drawn0.step)⟩
      · rw [if_neg c7] at H
        exact absurd H (by simp)
    · rw [if_neg c6] at H
      exact absurd H (by simp)
  · rw [if_neg c4] at H
    have c4b0 : ((Int.tmod a2 2) == 1) = false := beq_eq_false_iff_ne.mpr c4; have c4b1 : ((Int.tmod a2 2) != 1) = true := bne_iff_ne.mpr c4
    obtain ⟨ji8, hji8⟩ : ∃ j_ : Int, (wrap64 (Int.tdiv a2 2)) = j_ := ⟨_, rfl⟩
    replace H : (if 0 ≤ (ji8) then (if (ji8) < (l0.length : Int) then (if (ji8) < (l1.length : Int) then (some (wrap64 ((rd l0 (ji8)) - (rd l1 (ji8))))) else (none)) else (none)) else (none)) = some r := by first | (rw [hji8] at H; exact H) | (simp only [hji8] at H ⊢; exact H)
    have hji8w : (IntKind.i64.wrap (Int.tdiv a2 2)) = ji8 := (i64_w _).trans hji8
    by_cases c9 : 0 ≤ (ji8)
    · rw [if_pos c9] at H
      have c9b0 : decide (0 ≤ (ji8)) = true := dt c9; clear c9
      by_cases c10 : (ji8) < (l0.length : Int)
      · rw [if_pos c10] at H
        have c10b0 : decide ((ji8) < (l0.length : Int)) = true := dt c10; clear c10
        by_cases c11 : (ji8) < (l1.length : Int)
        · rw [if_pos c11] at H
          have c11b0 : decide ((ji8) < (l1.length : Int)) = true := dt c11; clear c11; obtain rfl := Option.some.inj H; have p205 : 0 ≤ ((ji8) : Int) := od; have q205 : (ji8) < (l0.length : Int) := od; obtain ⟨ad205, e205, hx205_0⟩ := Kd.at_int HR0.out (ji8) p205 q205; cases e205; replace p205 := eq_true p205; replace q205 := eq_true q205; have p206 : 0 ≤ ((ji8) : Int) := od; have q206 : (ji8) < (l1.length : Int) := od; obtain ⟨ad206, e206, hx206_0⟩ := Kd.at_int HR1.out (ji8) p206 q206; cases e206; replace p206 := eq_true p206; replace q206 := eq_true q206
          go_enter Try.func65, Try.ntmps65
          go_wp2
          repeat (go_quiet (fail); try go_wp2)
          go_ret
          exact ⟨by first | rfl | (simp; done) | (simp only [← hji8] <;> (first | rfl | simp)) | (simp [*]; done), by repeat (first | exact Drawn0.refl _ | apply Drawn0.step)⟩
        · rw [if_neg c11] at H
          exact absurd H (by simp)
      · rw [if_neg c10] at H
        exact absurd H (by simp)
    · rw [if_neg c9] at H
      exact absurd H (by simp)
end Go.Proofs.Ytnbhfcanknhkhaa.PAll
end

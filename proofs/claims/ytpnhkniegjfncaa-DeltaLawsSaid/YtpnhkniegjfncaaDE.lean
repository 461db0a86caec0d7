/- What '==' gives on the sets, prefixes, routes and changes of this program; no condition. -/
import Derived.Test.YtpnhkniegjfncaaD1
import Derived.Laws.StructEq
namespace Go.Proofs.Ytpnhkniegjfncaa
open Go.ChangeShapes Go.WideShapes Go.ChangeAt Go.RowKit
set_option linter.unusedVariables false
set_option linter.unusedSimpArgs false
theorem eqI36 (d : Nat) (x y : Int) (w : World) : (Op.equalIn (d + 1) 36 (.int .u64 x) (.int .u64 y)).run Try.prog w = .ok (x == y) w := by
  simp [Op.equalIn, run_underlying Try.underlying36]
theorem eqI33 (d : Nat) (x y : Int) (w : World) : (Op.equalIn (d + 1) 33 (.int .u32 x) (.int .u32 y)).run Try.prog w = .ok (x == y) w := by
  simp [Op.equalIn, run_underlying Try.underlying33]
theorem eqI3 (d : Nat) (x y : Int) (w : World) : (Op.equalIn (d + 1) 3 (.int .i64 x) (.int .i64 y)).run Try.prog w = .ok (x == y) w := by
  simp [Op.equalIn, run_underlying Try.underlying3]
theorem part0 (x y : Int) (w : World) : (part 36 #[.int .u64 x, .int .u64 y] 0).run Try.prog w = .ok (.int .u64 x) w := by
  simp [part]
theorem part1 (x y : Int) (w : World) : (part 36 #[.int .u64 x, .int .u64 y] 1).run Try.prog w = .ok (.int .u64 y) w := by
  simp [part]
theorem size36 (w : World) : (sizeOf 36).run Try.prog w = .ok 1 w := by kernel_rfl
theorem eqB0 (d : Nat) (w : World) (x0 x1 y0 y1 : Int) : (Op.equalIn (d + 2) 38 (.agg #[.int .u64 x0, .int .u64 x1]) (.agg #[.int .u64 y0, .int .u64 y1])).run Try.prog w = .ok (x0 == y0 && x1 == y1) w := by
  have hr : List.range' 0 2 = [0, 1] := rfl
  rw [Op.equalIn]
  simp only [Sem.run_bind, run_underlying Try.underlying38, Result.andThen_ok, size36, Std.Legacy.Range.forIn_eq_forIn_range', Std.Legacy.Range.size]
  simp only [Nat.sub_zero, Nat.add_one_sub_one, Nat.div_one, hr, List.forIn_cons, List.forIn_nil, Sem.run_bind, part0, part1, Nat.zero_mul, Nat.one_mul, Result.andThen_ok, eqI36]
  cases h0 : x0 == y0 <;> cases h1 : x1 == y1 <;> simp [part1, eqI36, h1]
section
variable {P : Program} {d : Nat} {xs ys : Array Value} {f : Field} {fs : List Field} {a b : Value} {r s : Bool} {w : World}
theorem eqf_cons (hn : (f.name == "_") = false) (ha : (part f.type xs f.offset).run P w = .ok a w) (hb : (part f.type ys f.offset).run P w = .ok b w) (he : (Op.equalIn d f.type a b).run P w = .ok r w) (hr : (Op.eqFields d xs ys fs).run P w = .ok s w) : (Op.eqFields d xs ys (f :: fs)).run P w = .ok (r && s) w := by
  have hn' : f.name ≠ "_" := by simpa using hn
  rw [Op.eqFields]
  simp only [if_pos hn', Sem.run_bind, ha, hb, he, Result.andThen_ok]
  cases r
  · simp
  · simpa using hr
theorem eqf_nil : (Op.eqFields d xs ys []).run P w = .ok true w := by simp [Op.eqFields]
theorem eqf_of {t : TypeId} {fs : Array Field} (hu : P.underlying t = some (.struct fs)) (hp : P.stoodInHeld t = false) (h : (Op.eqFields d xs ys fs.toList).run P w = .ok r w) : (Op.equalIn (d + 1) t (.agg xs) (.agg ys)).run P w = .ok r w := by
  have hf : P.fieldsOf t = fs := by simp [Program.fieldsOf, hu]
  rw [run_equalIn_struct (P := P) w d t xs ys (by rw [hf]; exact hu) hp, hf]
  exact h
end
theorem eqP0 (d : Nat) (w : World) (p q : Pf) : (Op.equalIn (d + 2) 35 (.agg #[.int .u32 p.a, .int .i64 p.l]) (.agg #[.int .u32 q.a, .int .i64 q.l])).run Try.prog w = .ok (p.a == q.a && (p.l == q.l && true)) w := by
  refine eqf_of Try.underlying35 (by kernel_rfl) ?_
  refine eqf_cons (by rfl) (by go_simp) (by go_simp) (eqI33 _ _ _ _) ?_
  exact eqf_cons (by rfl) (by go_simp) (by go_simp) (eqI3 _ _ _ _) eqf_nil
theorem eqR0 (d : Nat) (w : World) (r s : Ro) : (Op.equalIn (d + 3) 40 (.agg #[.int .u32 r.p.a, .int .i64 r.p.l, .int .i64 r.m, .int .u64 r.o0, .int .u64 r.o1, .int .u64 r.h0, .int .u64 r.h1]) (.agg #[.int .u32 s.p.a, .int .i64 s.p.l, .int .i64 s.m, .int .u64 s.o0, .int .u64 s.o1, .int .u64 s.h0, .int .u64 s.h1])).run Try.prog w = .ok ((r.p.a == s.p.a && (r.p.l == s.p.l && true)) && (r.m == s.m && ((r.o0 == s.o0 && r.o1 == s.o1) && ((r.h0 == s.h0 && r.h1 == s.h1) && true)))) w := by
  refine eqf_of Try.underlying40 (by kernel_rfl) ?_
  refine eqf_cons (by rfl) (by go_simp) (by go_simp) (eqP0 _ _ r.p s.p) ?_
  refine eqf_cons (by rfl) (by go_simp) (by go_simp) (eqI3 _ _ _ _) ?_
  refine eqf_cons (by rfl) (by go_simp) (by go_simp) (eqB0 _ _ _ _ _ _) ?_
  exact eqf_cons (by rfl) (by go_simp) (by go_simp) (eqB0 _ _ _ _ _ _) eqf_nil
theorem eqC0 (d : Nat) (w : World) (x y : Ch) : (Op.equalIn (d + 4) 42 (.agg #[.int .i64 x.k, .int .u32 x.o.p.a, .int .i64 x.o.p.l, .int .i64 x.o.m, .int .u64 x.o.o0, .int .u64 x.o.o1, .int .u64 x.o.h0, .int .u64 x.o.h1, .int .u32 x.n.p.a, .int .i64 x.n.p.l, .int .i64 x.n.m, .int .u64 x.n.o0, .int .u64 x.n.o1, .int .u64 x.n.h0, .int .u64 x.n.h1]) (.agg #[.int .i64 y.k, .int .u32 y.o.p.a, .int .i64 y.o.p.l, .int .i64 y.o.m, .int .u64 y.o.o0, .int .u64 y.o.o1, .int .u64 y.o.h0, .int .u64 y.o.h1, .int .u32 y.n.p.a, .int .i64 y.n.p.l, .int .i64 y.n.m, .int .u64 y.n.o0, .int .u64 y.n.o1, .int .u64 y.n.h0, .int .u64 y.n.h1])).run Try.prog w = .ok (x.k == y.k && (((x.o.p.a == y.o.p.a && (x.o.p.l == y.o.p.l && true)) && (x.o.m == y.o.m && ((x.o.o0 == y.o.o0 && x.o.o1 == y.o.o1) && ((x.o.h0 == y.o.h0 && x.o.h1 == y.o.h1) && true)))) && (((x.n.p.a == y.n.p.a && (x.n.p.l == y.n.p.l && true)) && (x.n.m == y.n.m && ((x.n.o0 == y.n.o0 && x.n.o1 == y.n.o1) && ((x.n.h0 == y.n.h0 && x.n.h1 == y.n.h1) && true)))) && true))) w := by
  refine eqf_of Try.underlying42 (by kernel_rfl) ?_
  refine eqf_cons (by rfl) (by go_simp) (by go_simp) (eqI3 _ _ _ _) ?_
  refine eqf_cons (by rfl) (by go_simp) (by go_simp) (eqR0 _ _ x.o y.o) ?_
  exact eqf_cons (by rfl) (by go_simp) (by go_simp) (eqR0 _ _ x.n y.n) eqf_nil

def eqBb (x0 x1 y0 y1 : Int) : Bool := decide (x0 = y0 ∧ x1 = y1)
def eqPb (x0 x1 y0 y1 : Int) : Bool := decide ((⟨x0, x1⟩ : Pf) = ⟨y0, y1⟩)
def eqRb (x0 x1 x2 x3 x4 x5 x6 y0 y1 y2 y3 y4 y5 y6 : Int) : Bool := decide ((⟨⟨x0, x1⟩, x2, x3, x4, x5, x6⟩ : Ro) = ⟨⟨y0, y1⟩, y2, y3, y4, y5, y6⟩)
def eqCb (x0 x1 x2 x3 x4 x5 x6 x7 x8 x9 x10 x11 x12 x13 x14 y0 y1 y2 y3 y4 y5 y6 y7 y8 y9 y10 y11 y12 y13 y14 : Int) : Bool := decide ((⟨x0, ⟨⟨x1, x2⟩, x3, x4, x5, x6, x7⟩, ⟨⟨x8, x9⟩, x10, x11, x12, x13, x14⟩⟩ : Ch) = ⟨y0, ⟨⟨y1, y2⟩, y3, y4, y5, y6, y7⟩, ⟨⟨y8, y9⟩, y10, y11, y12, y13, y14⟩⟩)
theorem eqB1 (d : Nat) (w : World) (x0 x1 y0 y1 : Int) : (Op.equalIn (d + 2) 38 (.agg #[.int .u64 x0, .int .u64 x1]) (.agg #[.int .u64 y0, .int .u64 y1])).run Try.prog w = .ok (eqBb x0 x1 y0 y1) w := by
  rw [eqB0]
  congr 1
  unfold eqBb
  rw [Bool.eq_iff_iff]
  simp
theorem eqP1 (d : Nat) (w : World) (x0 x1 y0 y1 : Int) : (Op.equalIn (d + 2) 35 (.agg #[.int .u32 x0, .int .i64 x1]) (.agg #[.int .u32 y0, .int .i64 y1])).run Try.prog w = .ok (eqPb x0 x1 y0 y1) w := by
  rw [eqP0 d w ⟨x0, x1⟩ ⟨y0, y1⟩]
  congr 1
  unfold eqPb
  rw [Bool.eq_iff_iff]
  simp
theorem eqR1 (d : Nat) (w : World) (x0 x1 x2 x3 x4 x5 x6 y0 y1 y2 y3 y4 y5 y6 : Int) : (Op.equalIn (d + 3) 40 (.agg #[.int .u32 x0, .int .i64 x1, .int .i64 x2, .int .u64 x3, .int .u64 x4, .int .u64 x5, .int .u64 x6]) (.agg #[.int .u32 y0, .int .i64 y1, .int .i64 y2, .int .u64 y3, .int .u64 y4, .int .u64 y5, .int .u64 y6])).run Try.prog w = .ok (eqRb x0 x1 x2 x3 x4 x5 x6 y0 y1 y2 y3 y4 y5 y6) w := by
  rw [eqR0 d w ⟨⟨x0, x1⟩, x2, x3, x4, x5, x6⟩ ⟨⟨y0, y1⟩, y2, y3, y4, y5, y6⟩]
  congr 1
  unfold eqRb
  rw [Bool.eq_iff_iff]
  simp [and_assoc]
theorem eqC1 (d : Nat) (w : World) (x0 x1 x2 x3 x4 x5 x6 x7 x8 x9 x10 x11 x12 x13 x14 y0 y1 y2 y3 y4 y5 y6 y7 y8 y9 y10 y11 y12 y13 y14 : Int) : (Op.equalIn (d + 4) 42 (.agg #[.int .i64 x0, .int .u32 x1, .int .i64 x2, .int .i64 x3, .int .u64 x4, .int .u64 x5, .int .u64 x6, .int .u64 x7, .int .u32 x8, .int .i64 x9, .int .i64 x10, .int .u64 x11, .int .u64 x12, .int .u64 x13, .int .u64 x14]) (.agg #[.int .i64 y0, .int .u32 y1, .int .i64 y2, .int .i64 y3, .int .u64 y4, .int .u64 y5, .int .u64 y6, .int .u64 y7, .int .u32 y8, .int .i64 y9, .int .i64 y10, .int .u64 y11, .int .u64 y12, .int .u64 y13, .int .u64 y14])).run Try.prog w = .ok (eqCb x0 x1 x2 x3 x4 x5 x6 x7 x8 x9 x10 x11 x12 x13 x14 y0 y1 y2 y3 y4 y5 y6 y7 y8 y9 y10 y11 y12 y13 y14) w := by
  rw [eqC0 d w ⟨x0, ⟨⟨x1, x2⟩, x3, x4, x5, x6, x7⟩, ⟨⟨x8, x9⟩, x10, x11, x12, x13, x14⟩⟩ ⟨y0, ⟨⟨y1, y2⟩, y3, y4, y5, y6, y7⟩, ⟨⟨y8, y9⟩, y10, y11, y12, y13, y14⟩⟩]
  congr 1
  unfold eqCb
  rw [Bool.eq_iff_iff]
  simp [and_assoc]
theorem eqPb_of (p q : Pf) : eqPb p.a p.l q.a q.l = decide (p = q) := rfl
theorem eqRb_of (r s : Ro) : eqRb r.p.a r.p.l r.m r.o0 r.o1 r.h0 r.h1 s.p.a s.p.l s.m s.o0 s.o1 s.h0 s.h1 = decide (r = s) := rfl
theorem eqCb_of (x y : Ch) : eqCb x.k x.o.p.a x.o.p.l x.o.m x.o.o0 x.o.o1 x.o.h0 x.o.h1 x.n.p.a x.n.p.l x.n.m x.n.o0 x.n.o1 x.n.h0 x.n.h1 y.k y.o.p.a y.o.p.l y.o.m y.o.o0 y.o.o1 y.o.h0 y.o.h1 y.n.p.a y.n.p.l y.n.m y.n.o0 y.n.o1 y.n.h0 y.n.h1 = decide (x = y) := rfl

end Go.Proofs.Ytpnhkniegjfncaa

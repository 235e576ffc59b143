import Derived.Test.YtdnccchcflaphaaF15
import Derived.Laws.MakeOwn
import Derived.Laws.Tables
import Derived.Laws.BytesString
import Derived.Laws.IdiomStrings
namespace Go.Kw
set_option linter.unusedVariables false
set_option linter.unusedSimpArgs false
variable {P : Program}

section
variable {o : Oper} {x y z : Operand} {t t' T : TypeId} {v u : AVal} {b off k len sz n m : Nat} {full f' : Bool} {cells vs src : List AVal} {i : Int} {q : IntKind} {ts : Array TypeId}

/-! ### copy -/

/-- The first n elements of a source. -/
def SrcPre (P : Program) (ρ : Nat → Option Nat) (Im : Nat → Prop) (w : World) (sz m : Nat) (src : List AVal) (r : Value) : Prop :=
  (Builtin.lenOf r).run P w = .ok m w ∧ ∀ n, n ≤ m → ∃ vals : List Value, (Builtin.firstCells sz n r).run P w = .ok vals.toArray w ∧ VRels P ρ Im w (src.take (n * sz)) vals

theorem srcPre_vs {ρ Im w} {r : Value} {h : AHeap} (s : St P ρ Im h w) (hv : VRel P ρ Im w (.vs m full src) r) (hc : src.length = m * sz) : SrcPre P ρ Im w sz m src r := by
  simp only [VRel] at hv
  obtain ⟨ad, cap, rfl, h2, h3, h4⟩ := hv
  refine ⟨by simp [Builtin.lenOf], fun n hn => ?_⟩
  have hle : n * sz ≤ m * sz := Nat.mul_le_mul_right _ hn
  have hv' : VRel P ρ Im w (.vs n false (src.take (n * sz))) (.slice ad n cap) := by
    simp only [VRel]
    refine ⟨ad, cap, rfl, by omega, by simp, ?_⟩
    rcases h4 with rfl | ⟨c, base, vals, rfl, g1, g2, g3⟩
    · left; simp
    · refine .inr ⟨c, base, vals.take (n * sz), rfl, g1, ?_, g3.take _⟩
      intro j hj
      simp only [List.length_take] at hj
      rw [g2 j (by omega)]
      simp
  obtain ⟨_, _, vals, g1, g2⟩ := srcOf_vs (n := n) (sz := sz) s hv' (by rw [List.length_take]; omega)
  have := g1 w (fun _ _ => rfl)
  refine ⟨vals, ?_, g2⟩
  cases ad <;> simpa [Builtin.firstCells] using this
theorem srcPre_os {ρ Im w} {r : Value} {c : Nat} {Tc : TypeId} {cs2 : List AVal} {offc : Nat} {h : AHeap} (s : St P ρ Im h w) (hm : (c, .vec Tc cs2) ∈ h) (hv : VRel P ρ Im w (.os c offc m sz full) r)
    (hc : offc + m * sz ≤ cs2.length) : SrcPre P ρ Im w sz m ((cs2.drop offc).take (m * sz)) r := by
  have hlen : (Builtin.lenOf r).run P w = .ok m w := by
    simp only [VRel] at hv
    rcases hv with ⟨_, rfl, ad, rfl⟩ | ⟨d, cap, T', m', g1, rfl, g3⟩ <;> simp [Builtin.lenOf]
  refine ⟨hlen, fun n hn => ?_⟩
  have hle : n * sz ≤ m * sz := Nat.mul_le_mul_right _ hn
  simp only [VRel] at hv
  rw [List.take_take, Nat.min_eq_left hle]
  rcases hv with ⟨h0, rfl, ad, rfl⟩ | ⟨d, cap, T', m', g1, rfl, g3, g4, g5, g6⟩
  · have hn0 : n = 0 := by omega
    subst hn0
    refine ⟨[], ?_, by simp [VRels]⟩
    cases ad <;> simp [Builtin.firstCells, loadCells, loadCellsFrom]
  · have hv' : VRel P ρ Im w (.os c offc n sz false) (.slice (some ⟨d, offc, none⟩) n cap) := by
      simp only [VRel]
      exact .inr ⟨d, cap, T', m', g1, rfl, by omega, by simp, g5, g6⟩
    obtain ⟨_, _, vals, k1, k2⟩ := srcOf_os (n := n) (sz := sz) s hm hv' (by omega)
    refine ⟨vals, ?_, k2⟩
    simpa [Builtin.firstCells] using k1 w (fun _ _ => rfl)
theorem srcPre_str {ρ Im w} {r : Value} {s : List UInt8} (hv : VRel P ρ Im w (.str s) r) : SrcPre P ρ Im w 1 s.length (s.map AVal.u8) r := by
  simp only [VRel] at hv
  subst hv
  refine ⟨by simp only [Builtin.lenOf]; rfl, fun n hn => ?_⟩
  have e : (⟨s.toArray⟩ : ByteArray).extract 0 n = ⟨(s.take n).toArray⟩ := by
    apply ByteArray.ext
    simp [ByteArray.data_extract]
  refine ⟨(s.take n).map fun c => .int .u8 (c.toNat : Int), ?_, ?_⟩
  · simp only [Builtin.firstCells, e]
    simp
  · simp only [Nat.mul_one, ← List.map_take]
    generalize s.take n = l
    induction l with
    | nil => simp [VRels]
    | cons c s ih => simp only [List.map_cons, VRels]; exact ⟨_, _, rfl, by simp [VRel], ih⟩

theorem copy_core {ρ Im w ok} {t0 e : TypeId} {by' : Nat} {type : TypeId} {r r' : Value} (ht0 : ts[0]? = some t0) (ht : slT P t0 = some (e, sz, by')) (s : St P ρ Im [(b, .vec T cells)] w)
    (hv : VRel P ρ Im w (.os b off len sz full) r) (hs : SrcPre P ρ Im w sz m src r') (hc : off + len * sz ≤ cells.length) (hm : src.length = m * sz) (hone : src.all AVal.scalar = true) :
    ∃ w', (Builtin.copy_ ts type #[r, r']).run P w = .ok (.int .i64 (min m len : Nat)) w' ∧
      Ev P ρ Im [(b, .vec T cells)] w ok ρ Im [(b, .vec T (cells.take off ++ src.take (min m len * sz) ++ cells.drop (off + min m len * sz)))] w' := by
  obtain ⟨hl, hf⟩ := hs
  obtain ⟨vals, hf, hvals⟩ := hf (min m len) (Nat.min_le_left _ _)
  obtain ⟨hu1, hu2, _⟩ := slT_und ht
  have hlen := hvals.length
  have hvl : vals.length = min m len * sz := by
    rw [hlen, List.length_take, hm]
    exact Nat.min_eq_left (Nat.mul_le_mul_right _ (Nat.min_le_left _ _))
  simp only [VRel] at hv
  rcases hv with ⟨h0, rfl, ad, rfl⟩ | ⟨c, cap, T', m', g1, rfl, g3, g4, g5, g6⟩
  · simp only [Nat.min_zero, Nat.zero_mul, List.length_eq_zero_iff] at hvl
    subst hvl
    refine ⟨w, ?_, ?_⟩
    · simp only [Builtin.copy_, List.getElem?_toArray, List.getElem?_cons_zero, List.getElem?_cons_succ, ht0]
      cases ad <;> simp [run_underlying hu1, hl, hu2, goInt, Nat.min_def ▸ hf, storeCells] <;> simp_all [Nat.min_def, storeCells, goInt]
    · simpa using Ev.refl s
  · obtain ⟨c', cs, fz, vals0, k1, k2, k3, k4, k5, k6⟩ := s.at (off := off) (v := .pointer (some ⟨c, off, none⟩)) (by simp only [VRel]; exact ⟨c, g1, rfl⟩)
    rw [g1] at k1; cases k1
    have hl0 := k6.length
    obtain ⟨r0, hr0⟩ := pre_of k5
    have hsz : cs.size = vals0.length + r0.length := by rw [← Array.length_toList, hr0, List.length_append]
    have hle : min m len * sz ≤ len * sz := Nat.mul_le_mul_right _ (Nat.min_le_right _ _)
    have hone' := hvals.oneCell (by rw [List.all_eq_true] at hone ⊢; exact fun x hx => hone x (List.mem_of_mem_take hx))
    have hst := run_storeCells_vec (P := P) c off T fz vals 0 cs w k3 k4 (by omega) hone'
    simp only [Nat.add_zero, hvl] at hst
    have e1 : cs.toList.take off ++ vals ++ cs.toList.drop (off + min m len * sz) = (vals0.take off ++ vals ++ vals0.drop (off + min m len * sz)) ++ r0 := by
      rw [hr0, List.take_append_of_le_length (by omega), List.drop_append_of_le_length (by omega)]
      simp
    rw [e1] at hst
    refine ⟨w.setRow c ((vals0.take off ++ vals ++ vals0.drop (off + min m len * sz)) ++ r0).toArray, ?_, ?_⟩
    · have hmin : Nat.min m len = min m len := rfl
      simp [Builtin.copy_, ht0, run_underlying hu1, hl, hu2, goInt, hmin, hf]
      simp at hst
      rw [hst]
      simp
    · refine Ev.row s g1 k3 k4 ?_ (vals := vals0.take off ++ vals ++ vals0.drop (off + min m len * sz)) ?_ ?_
      · simp; omega
      · intro j hj
        rw [List.getElem?_toArray, List.getElem?_append_left hj, List.getElem?_eq_getElem hj]
      · exact ((k6.take off).append hvals).append (k6.drop _)

theorem opCopy {F F' : AHeap} (ho : o.op = .call { callee := .builtin .copy, args := #[x, y], argTypes := ts })
    (h : ∀ ρ Im w (a : Act) sup, St P ρ Im F w → Fresh ρ [] sup → VRel P ρ Im w v (a.eval x) → VRel P ρ Im w u (a.eval y) →
      ∃ w' ρ', (Builtin.copy_ ts o.type #[a.eval x, a.eval y]).run P w = .ok (.int .i64 (k : Nat)) w' ∧ Ev P ρ Im F w (okOf [] sup) ρ' Im F' w') :
    OpV P o [v, u] F [] (.i (k : Nat)) F' := by
  refine OpV.value fun ρ Im w a sup s fr hv => ?_
  rw [Array.toList_map, ho] at hv
  obtain ⟨r, r', hr, hv, hu⟩ := VRels.two.1 hv
  simp only [Op.operands, Call.operands, Array.empty_append, List.map_cons, List.map_nil, List.cons.injEq, and_true] at hr
  obtain ⟨rfl, rfl⟩ := hr
  obtain ⟨w', ρ', h1, h3⟩ := h ρ Im w a sup s fr hv hu
  exact ⟨.int .i64 (k : Nat), w', ρ', Im, by simp [execOp, ho, resolve, invoke, builtin, h1], by simp [VRel], h3⟩

theorem op_copyV {t0 e : TypeId} {by' : Nat} (ho : o.op = .call { callee := .builtin .copy, args := #[x, y], argTypes := ts }) (ht0 : ts[0]? = some t0) (ht : slT P t0 = some (e, sz, by'))
    (hc : off + len * sz ≤ cells.length) (hm : src.length = m * sz) (hone : src.all AVal.scalar = true) :
    OpV P o [.os b off len sz full, .vs m f' src] [(b, .vec T cells)] [] (.i (min m len : Nat)) [(b, .vec T (cells.take off ++ src.take (min m len * sz) ++ cells.drop (off + min m len * sz)))] :=
  opCopy ho fun ρ Im w a sup s fr hv hu => by
    obtain ⟨w', h1, h2⟩ := copy_core (type := o.type) (ok := okOf [] sup) ht0 ht s hv (srcPre_vs s hu hm) hc hm hone
    exact ⟨w', ρ, h1, h2⟩
theorem op_copyO {t0 e : TypeId} {by' c offc : Nat} {Tc : TypeId} {cs2 : List AVal} (ho : o.op = .call { callee := .builtin .copy, args := #[x, y], argTypes := ts }) (ht0 : ts[0]? = some t0) (ht : slT P t0 = some (e, sz, by'))
    (hc : off + len * sz ≤ cells.length) (hm : offc + m * sz ≤ cs2.length) (hone : ((cs2.drop offc).take (m * sz)).all AVal.scalar = true) :
    OpV P o [.os b off len sz full, .os c offc m sz f'] [(b, .vec T cells), (c, .vec Tc cs2)] [] (.i (min m len : Nat))
      [(b, .vec T (cells.take off ++ ((cs2.drop offc).take (m * sz)).take (min m len * sz) ++ cells.drop (off + min m len * sz))), (c, .vec Tc cs2)] :=
  opCopy ho fun ρ Im w a sup s fr hv hu => by
    obtain ⟨w', h1, h2⟩ := copy_core (type := o.type) (ok := okOf [] sup) ht0 ht (s.sub (h0 := [(b, .vec T cells)]) (by simp)) hv (srcPre_os s (List.mem_cons_of_mem _ (List.mem_singleton_self _)) hu hm) hc (by simp; omega) hone
    exact ⟨w', ρ, h1, h2.frame (R := [(c, .vec Tc cs2)]) s⟩

/-! ### makeSlice -/

theorem opA2 {b : Nat} {X : Nat × AObj} (hx : o.op.operands.toList = [x, y])
    (h : ∀ ρ Im w (a : Act) sup, St P ρ Im [] w → Fresh ρ [b] sup → VRel P ρ Im w u (a.eval x) → VRel P ρ Im w v (a.eval y) → ∃ r w' ρ' Im', (execOp a.eval o).run P w = .ok (.value r) w' ∧ VRel P ρ' Im' w' (.os b off len sz full) r ∧
      Ev P ρ Im [] w (okOf [b] sup) ρ' Im' [X] w') : OpV P o [u, v] [] [b] (.os b off len sz full) [X] := by
  refine OpV.value fun ρ Im w a sup s fr hv => ?_
  rw [Array.toList_map, hx] at hv
  obtain ⟨r, r', hr, hv, hu⟩ := VRels.two.1 hv
  simp only [List.map_cons, List.map_nil, List.cons.injEq, and_true] at hr
  obtain ⟨rfl, rfl⟩ := hr
  exact h ρ Im w a sup s fr hv hu

theorem VRels.repl {ρ Im w} {a : AVal} {v : Value} (h : VRel P ρ Im w a v) : ∀ n, VRels P ρ Im w (List.replicate n a) (List.replicate n v)
  | 0 => by simp [VRels]
  | n + 1 => by simp only [List.replicate_succ, VRels]; exact ⟨_, _, rfl, h, VRels.repl h n⟩

theorem madeOne (z0 : Value) (n : Nat) : madeCells #[z0] n = Array.replicate n z0 := by
  apply Array.ext
  · simp [madeCells]
  · intro i h1 h2
    simp [madeCells, Nat.mod_one]

/-- make([]T, l, c) of a type of one cell -/
theorem op_make1 {e : TypeId} {by' cap : Nat} {zv : AVal} {il ic : Int} (ho : o.op = .makeSlice t x y) (ht : slT P t = some (e, 1, by')) (hz : zeroT P e = some [zv]) (hl : il = len) (hc : ic = cap) (hlc : len ≤ cap)
    (hfit : cap * by' ≤ 140737488355328) (hcap : cap ≤ 9223372036854775807) :
    OpV P o [.i il, .i ic] [] [b] (.os b 0 len 1 false) [(b, .vec e (List.replicate len zv))] :=
  opA2 (by rw [ho]; rfl) fun ρ Im w a sup s fr hv hu => by
    obtain ⟨hu1, hu2, i, hi, hi1, hi2⟩ := slT_und ht
    simp only [VRel] at hv hu
    subst hl hc
    unfold zeroT at hz
    rw [hi] at hz
    simp only [Option.bind_some] at hz
    cases hzz : i.zero with
    | none => rw [hzz] at hz; cases hz
    | some z =>
      rw [hzz] at hz
      simp only [Option.bind_some] at hz
      have hrel := absCs_rel (P := P) (ρ := ρ) (Im := Im) (w := w) hz
      obtain ⟨z0, hz0, hz1⟩ := VRels.one.1 hrel
      have hzc : z.cells = #[z0] := Array.ext' (by simpa using hz0)
      have hb : (i.bytes : Int) * (cap : Int) ≤ 281474976710656 := by
        have : i.bytes * cap ≤ 281474976710656 := by rw [hi2, Nat.mul_comm]; omega
        rw [← Int.natCast_mul]; exact Int.ofNat_le.2 this
      have hr := run_make (P := P) w t e i z hu1 hi hzz .i64 .i64 len cap (by omega) (by omega) hb (by omega)
      simp only [Int.toNat_natCast, hzc, hi1, Nat.mul_one, madeOne] at hr
      refine ⟨.slice (some ⟨w.heap.size, 0, none⟩) len cap, { w with heap := w.heap.push (.cells (Array.replicate cap z0) e (0, 0)) }, _, Im, ?_, ?_,
        Ev.pushRow s fr (0, 0) (fun i _ => by simp) (vals := List.replicate len z0) ?_ (VRels.repl hz1 len)⟩
      · simp only [execOp, ho, hv, hu]
        simp only [Sem.run_bind, hr, Result.andThen_ok]
        rfl
      · simp only [VRel]
        exact .inr ⟨w.heap.size, cap, e, cap, by simp, rfl, hlc, by simp, by simp [World.shape?], by simp⟩
      · intro j hj
        have hj' : j < len := by simpa using hj
        rw [Array.getElem?_replicate, if_pos (by omega)]
        simp
end
end Go.Kw

import Derived.Test.YtdnccchcflaphaaFD
import Derived.Lib.ConvBytes
import Derived.Lib.SlBytesConst
set_option linter.unusedVariables false
set_option linter.unusedSimpArgs false
namespace Go.Kw
set_option linter.unusedVariables false
set_option linter.unusedSimpArgs false
variable {P : Program}
/-! ### New memory as data -/
theorem OpV.cool {o : Oper} {vals : List AVal} {h R : AHeap} {v : Nat → AVal} {v' : AVal} {T : TypeId} {cells : List AVal}
    (hc : ∀ b, OpV P o vals h [b] (v b) (R ++ [(b, .vec T cells)])) (hf : ∀ b, Frz b cells (v b) v') : OpV P o vals h [] v' R := by
  intro ρ Im w a sup s fr hv K Q hK
  have fr1 : Fresh ρ [sup 0] (fun i => sup (i + 1)) := { named := fun x hx => by simp only [List.mem_singleton] at hx; rw [hx]; exact fr.free 0, free := fun i => fr.free _, inj := fun i j hij => by have := fr.inj _ _ hij; omega, apart := fun i => by simp only [List.mem_singleton]; intro hh; have := fr.inj _ _ hh; omega, nd := by simp }
  refine hc (sup 0) ρ Im w a _ s fr1 hv K Q fun v1 w' ρ' Im' h1 h2 => ?_
  have h2' := h2.permR (List.perm_append_comm (l₁ := R) (l₂ := [(sup 0, AObj.vec T cells)]))
  obtain ⟨Im2, m, cold, h3⟩ := Ev.freeze s h2'
  refine hK v1 w' ρ' Im2 ((hf (sup 0)).rel m cold h1) (h3.okMono ?_)
  rintro b (hb | ⟨i, hi⟩)
  · simp only [List.mem_singleton] at hb; exact .inr ⟨0, hb⟩
  · exact .inr ⟨i + 1, hi⟩
section
variable {α : Type} {f : α → AVal} {o : Oper} {x y z : Operand} {t t' T e : TypeId} {v u zv : AVal} {b off k len n m by' : Nat} {full f' : Bool} {cells vs : List AVal} {i j : Int} {q : IntKind} {l : List α}
theorem op_boxD (ho : o.op = .box t x) : OpV P o [.agg cells] [] [] (.vptr cells 0) [] :=
  OpV.cool (R := []) (fun b => op_boxA (b := b) ho) fun b => .ptr 0
theorem op_buildSlD {parts : Array (Nat × Operand)} (ho : o.op = .buildSlice t len parts) (ht : slT P t = some (e, 1, by')) (hz : zeroT P e = some [zv]) (hi : parts.toList.map (·.1) = List.range' 0 vs.length) (hl : vs.length = len)
    (hs : vs.all AVal.scalar = true) (hfit : len ≤ 16777216) : OpV P o vs [] [] (.vs len true vs) [] :=
  OpV.cool (R := []) (fun b => op_buildSlM (b := b) ho ht hz hi hl hs hfit) fun b => by
    have := Frz.os (b := b) (cells := vs) 0 len 1 true (by omega)
    simpa [List.take_of_length_le (show vs.length ≤ len by omega)] using this
/-! parts of arrays in data -/
theorem op_slVA {lo hi mx : Option Operand} {li hI mi : Option Int} (ho : o.op = .slice t x lo hi mx) (ht : arrT P t = some (n, e, 1))
    (hl : lo.isSome = li.isSome) (hh : hi.isSome = hI.isSome) (hm : mx.isSome = mi.isSome) (hmh : mi.isSome = true → hI.isSome = true)
    (b1 : inB mi n) (b2 : inB hI (bnd mi n)) (b3 : inB li (bnd hI n)) (hfull : full = true → bnd hI n = bnd mi n) (hfit : off + n ≤ cells.length) :
    OpV P o (.vptr cells off :: (optV q li ++ (optV q hI ++ optV q mi))) [] [] (.vs (bnd hI n - bnd li 0) full ((cells.drop (off + bnd li 0)).take (bnd hI n - bnd li 0))) [] := by
  refine opSl ho hl hh hm fun ρ Im w a hv => ?_
  simp only [VRel] at hv
  obtain ⟨c, base, vals, h1, hIm, h2, h3⟩ := hv
  obtain ⟨hu1, hu2⟩ := arrT_und ht
  have hvl := h3.length
  have hr := run_bounds (P := P) (q := q) (w := w) (isS := false) (len := n) b1 b2 b3 hmh
  have hle1 : bnd li 0 ≤ bnd hI n := by cases li with
    | none => simp [bnd]
    | some l => simp only [inB] at b3; simp only [bnd] at b3 ⊢; omega
  have hle2 : bnd hI n ≤ bnd mi n := by
    cases hI with
    | none => cases mi with
      | none => simp [bnd]
      | some m => simp at hmh
    | some h => simp only [inB] at b2; simp only [bnd] at b2 ⊢; omega
  have hle3 : bnd mi n ≤ n := by cases mi with
    | none => simp [bnd]
    | some m => simp only [inB] at b1; simp only [bnd]; omega
  refine ⟨.slice (some (if bnd mi n = bnd li 0 then ⟨c, base + off, none⟩ else ⟨c, base + off + bnd li 0, none⟩)) (bnd hI n - bnd li 0) (bnd mi n - bnd li 0), ?_, ?_⟩
  · simp [Instr.sliceAt, run_underlying hu1, h1, Instr.sureAddr, hr, hu2, addr_add]
  · simp only [VRel]
    refine ⟨_, _, rfl, by omega, fun hf => by have := hfull hf; omega, ?_⟩
    by_cases hz : bnd mi n = bnd li 0
    · left
      rw [show bnd hI n - bnd li 0 = 0 by omega, List.take_zero]
    · right
      rw [if_neg hz]
      refine ⟨c, base + off + bnd li 0, (vals.drop (off + bnd li 0)).take (bnd hI n - bnd li 0), rfl, hIm, ?_, (h3.drop _).take _⟩
      intro i hi
      simp only [List.length_take, List.length_drop] at hi
      have := h2 (off + bnd li 0 + i) (by omega)
      simp only [List.getElem_take, List.getElem_drop]
      rw [← this]
      congr 1
      simp only [Addr.mk.injEq, and_true, true_and]
      omega
theorem op_sVAg {X : List AVal} (ho : o.op = .slice t x none none none) (ht : arrT P t = some (n, e, 1)) (hfit : off + n ≤ cells.length) (hX : (cells.drop off).take n = X) : OpV P o [.vptr cells off] [] [] (.vs n true X) [] := by
  have := op_slVA (P := P) (q := .i64) (off := off) (cells := cells) (li := none) (hI := none) (mi := none) (full := true) ho ht rfl rfl rfl (by simp) trivial trivial trivial (fun _ => rfl) hfit
  subst hX
  simpa [optV, bnd] using this
theorem op_sVA00 (ho : o.op = .slice t x none none none) (ht : arrT P t = some (n, e, 1)) (hn : l.length = n) : OpV P o [.vptr (l.map f) 0] [] [] (VS f true l) [] := by
  subst hn
  exact op_sVAg ho ht (by simp) (by rw [List.drop_zero, List.take_of_length_le (by simp)])
theorem op_sVA01 (hi : Nat) {z : Operand} (ho : o.op = .slice t x none (some z) none) (ht : arrT P t = some (n, e, 1)) (h2 : j = hi) (hhi : hi ≤ n) (hn : l.length = n) : OpV P o [.vptr (l.map f) 0, .int q j] [] [] (VS f false (l.take hi)) [] := by
  subst h2 hn
  have := op_slVA (P := P) (q := q) (off := 0) (cells := l.map f) (li := none) (hI := some (hi : Int)) (mi := none) (full := false) ho ht rfl rfl rfl (by simp) trivial ⟨by omega, by simpa [bnd] using hhi⟩ (by simp [inB, bnd]) (by simp) (by simp)
  simpa [optV, bnd, VS, List.map_take, Nat.min_eq_left hhi] using this
/-- l[lo:hi:hi] of data: nothing behind it -/
theorem op_sV111 [Inhabited α] (lo hi : Nat) {y z z2 : Operand} {jl jh jm : Int} (ho : o.op = .slice t x (some y) (some z) (some z2)) (ht : slT P t = some (e, 1, by')) (h1 : jl = lo) (h2 : jh = hi) (h3 : jm = hi) (hlo : lo ≤ hi) (hhi : hi ≤ l.length) :
    OpV P o [VS f full l, .int q jl, .int q jh, .int q jm] [] [] (VS f true ((l.take hi).drop lo)) [] := by
  subst h1 h2 h3
  have := op_slV (P := P) (q := q) (sz := 1) (len := l.length) (full := full) (f' := true) (cells := l.map f) (li := some (lo : Int)) (hI := some (hi : Int)) (mi := some (hi : Int)) ho ht rfl rfl rfl (by simp) ⟨by omega, by omega⟩ ⟨by omega, by simp [bnd]⟩ ⟨by omega, by simpa [bnd] using hlo⟩ (fun _ => .inl ⟨rfl, rfl⟩)
  have e1 : ((l.take hi).drop lo).length = hi - lo := by simp; omega
  simpa [optV, bnd, VS, List.map_take, List.map_drop, e1, List.drop_take, Nat.min_eq_left (show hi - lo ≤ l.length - lo by omega)] using this
theorem op_sV011 (hi : Nat) {z z2 : Operand} {jh jm : Int} (ho : o.op = .slice t x none (some z) (some z2)) (ht : slT P t = some (e, 1, by')) (h2 : jh = hi) (h3 : jm = hi) (hhi : hi ≤ l.length) :
    OpV P o [VS f full l, .int q jh, .int q jm] [] [] (VS f true (l.take hi)) [] := by
  subst h2 h3
  have := op_slV (P := P) (q := q) (sz := 1) (len := l.length) (full := full) (f' := true) (cells := l.map f) (li := none) (hI := some (hi : Int)) (mi := some (hi : Int)) ho ht rfl rfl rfl (by simp) ⟨by omega, by omega⟩ ⟨by omega, by simp [bnd]⟩ (by simp [inB, bnd]) (fun _ => .inl ⟨rfl, rfl⟩)
  simpa [optV, bnd, VS, List.map_take, Nat.min_eq_left hhi] using this
end
section
variable {fn : Func} {n : Nat} {new : List Nat} {R : AVal → AHeap → Prop} {env : Env} {h : AHeap} {todo : List Item}
def frzE (b : Nat) (cells : List AVal) (env : Env) : Env → Prop
  | [] => True
  | (t, v') :: r => (∃ v, env.get t = some v ∧ Frz b cells v v') ∧ frzE b cells env r
theorem frzE.cons {b : Nat} {cells : List AVal} {t : Nat} {v v' : AVal} {r : Env} (h1 : env.get t = some v) (h2 : Frz b cells v v') (h3 : frzE b cells env r) : frzE b cells env ((t, v') :: r) := ⟨⟨v, h1, h2⟩, h3⟩
theorem frzE.nil {b : Nat} {cells : List AVal} : frzE b cells env [] := trivial
theorem frzE.get {b : Nat} {cells : List AVal} : ∀ {up : Env}, frzE b cells env up → ∀ s v', (up ++ env).get s = some v' → env.get s = some v' ∨ ∃ v, env.get s = some v ∧ Frz b cells v v'
  | [], _, s, v', h => .inl h
  | (t, u) :: r, ⟨⟨v, h1, h2⟩, h3⟩, s, v', h => by
    simp only [List.cons_append, Env.get] at h
    cases hb : Nat.beq t s with
    | true =>
      have := Nat.eq_of_beq_eq_true hb
      subst this
      simp only [hb, cond_true, Option.some.injEq] at h
      subst h
      exact .inr ⟨v, h1, h2⟩
    | false =>
      simp only [hb, cond_false] at h
      exact frzE.get h3 s v' h
/-- A block that is not written any more becomes data. -/
theorem WP.cold {b : Nat} {T : TypeId} {cells : List AVal} (i : Nat) (up : Env) (hi : h[i]? = some (b, .vec T cells)) (hup : frzE b cells env up) (hw : WP P fn n new R todo (up ++ env) (h.eraseIdx i)) : WP P fn n new R todo env h := by
  intro ρ Im w a b0 cs sup s fr he hn hd
  obtain ⟨hlt, hget⟩ := List.getElem?_eq_some_iff.1 hi
  have hp : List.Perm h ((b, .vec T cells) :: h.eraseIdx i) := by
    rw [← hget, List.eraseIdx_eq_take_drop_succ]
    have e1 : h = h.take i ++ h[i] :: h.drop (i + 1) := by rw [List.getElem_cons_drop]; exact (List.take_append_drop i h).symm
    exact (List.Perm.of_eq e1).trans List.perm_middle
  have s1 := s.perm hp
  obtain ⟨Im1, m, cold, s2, hI⟩ := s1.freeze
  have he' : EnvRel P ρ Im1 w (up ++ env) a.tmps := by
    intro x v hx
    rcases frzE.get hup x v hx with h1 | ⟨u, h1, h2⟩
    · exact (he _ _ h1).mono m
    · exact h2.rel m cold (he _ _ h1)
  obtain ⟨a', w', todo', g1, g2, v', v, h', ρ1, Im2, g3, g4, g5, g6⟩ := hw ρ Im1 w a b0 cs sup s2 fr he' hn hd
  refine ⟨a', w', todo', g1, g2, v', v, h', ρ1, Im2, g3, g4, g5, ?_⟩
  have hmem : ∀ x y, (x, y) ∈ h.eraseIdx i → (x, y) ∈ h := fun x y hxy => List.mem_of_mem_eraseIdx hxy
  refine { size := g6.size, os := g6.os, out := g6.out, keep := fun c hc hn => g6.keep c hc fun x y hxy => hn x y (hmem x y hxy), rho := g6.rho, im := fun c hc => g6.im c (m.im c hc), imNew := ?_, shape := g6.shape, own := ?_, names := ?_, ok := g6.ok, st := g6.st }
  · intro c hc
    rcases g6.imNew c hc with h1 | ⟨x, y, hxy, hx⟩ | h1
    · rcases hI c h1 with h1 | h1
      · exact .inl h1
      · exact .inr (.inl ⟨b, _, List.mem_of_getElem? hi, h1⟩)
    · exact .inr (.inl ⟨x, y, hmem x y hxy, hx⟩)
    · exact .inr (.inr h1)
  · intro x y c hxy hx
    rcases g6.own x y c hxy hx with ⟨x0, y0, h1, h2⟩ | h1
    · exact .inl ⟨x0, y0, hmem _ _ h1, h2⟩
    · exact .inr h1
  · intro x y hxy
    rcases g6.names x y hxy with ⟨y0, h1⟩ | h1
    · exact .inl ⟨y0, hmem _ _ h1⟩
    · exact .inr h1
end
/-! conversions -/
section
variable {o : Oper} {x : Operand} {t t' T e src dst : TypeId} {b off len : Nat} {full : Bool} {cells : List AVal} {l : List UInt8}
theorem rel_u8s {ρ Im w} : ∀ l : List UInt8, VRels P ρ Im w (l.map AVal.u8) (l.map fun c => Value.int .u8 (c.toNat : Int))
  | [] => by simp [VRels]
  | a :: l => by simp only [List.map_cons, VRels]; exact ⟨_, _, rfl, by simp [VRel], rel_u8s l⟩
theorem op_cvStr {u : TypeDesc} (ho : o.op = .convert src dst x) (hs : P.underlying src = some u) (hd : P.underlying dst = some (.slice e)) (he : P.underlying e = some (.int .u8)) :
    OpV P o [.str l] [] [b] (.os b 0 l.length 1 false) [(b, .vec e (l.map AVal.u8))] :=
  opA1 (x := x) (by rw [ho]; rfl) fun ρ Im w a sup s fr hv => by
    simp only [VRel] at hv
    have hrun := Lib.run_convert_string_bytes (P := P) w src dst e ⟨l.toArray⟩ hs hd he
    have hsz : (⟨l.toArray⟩ : ByteArray).size = l.length := rfl
    have hge := grownCap_ge w l.length 0 e
    let cs := Lib.bytesCells w e ⟨l.toArray⟩
    have hw' : Lib.bytesWorld w e ⟨l.toArray⟩ = { w.drew with heap := w.drew.heap.push (.cells cs e (cs.size, cs.size + 1)) } := by
      have hm : ∀ (a : Array Obj) (x : Obj) (f : Obj → Obj), (a.push x).modify a.size f = a.push (f x) := by
        intro a x f
        apply Array.ext
        · simp
        · intro i h1 h2
          simp only [Array.getElem_modify, Array.getElem_push]
          by_cases h : a.size = i
          · subst h; simp
          · have hi : i < a.size := by simp at h1; omega
            simp [h, hi]
      unfold Lib.bytesWorld World.freeze
      rw [if_neg (by decide)]
      show ({ w.drew.alloc (.cells cs e) with heap := (w.drew.heap.push (.cells cs e)).modify w.drew.heap.size _ } : World) = _
      rw [hm]
      rfl
    have s' : St P ρ Im [] w.drew := s.drawn _
    have m : Mono ρ Im w ρ Im w.drew := (Ev.drew s (ok := fun _ => True)).mono s
    have ev := Ev.pushRow (T := e) (cs := cs) s' fr (cs.size, cs.size + 1) ⟨by simp only; omega, fun i hi => by simp only; omega⟩ (vals := l.map fun c => Value.int .u8 (c.toNat : Int)) (cells := l.map AVal.u8) (fun i hi => by
      have hi' : i < l.length := by simpa using hi
      simp [cs, Lib.bytesCells, Array.getElem?_append, hi']) (rel_u8s l)
    refine ⟨.slice (some ⟨w.heap.size, 0, none⟩) (⟨l.toArray⟩ : ByteArray).size (grownCap w (⟨l.toArray⟩ : ByteArray).size 0 e), Lib.bytesWorld w e ⟨l.toArray⟩, (fun x => if x = b then some (w.drew.heap.size + 1) else ρ x), Im, by simp [execOp, ho, hv, hrun], ?_, by rw [hw']; exact (Ev.drew s).trans ev⟩
    simp only [VRel]
    have hcs : cs.size = l.length + (grownCap w l.length 0 e - l.length) := by
      show (Lib.bytesCells w e ⟨l.toArray⟩).size = _
      unfold Lib.bytesCells
      rw [Array.size_append, Array.size_map, Array.size_replicate]
      rfl
    have hsh : (Lib.bytesWorld w e ⟨l.toArray⟩).shape? w.heap.size = some (e, cs.size) := by
      unfold World.shape?
      rw [Lib.bytesWorld_at_new]
    refine .inr ⟨w.heap.size, grownCap w l.length 0 e, e, cs.size, ?_, rfl, hge, (fun h => by simp at h), hsh, by omega⟩
    simp only [if_true]
    rfl
end
end Go.Kw

namespace Go.Kw
set_option linter.unusedVariables false
set_option linter.unusedSimpArgs false
variable {P : Program}
/-- A block's row changes to one of the same shape. -/
theorem Ev.rowZ {ρ Im w w' ok} {b c : Nat} {T : TypeId} {cs cs' : Array Value} {fz fz' : Nat × Nat} {cells cells' : List AVal} {vals : List Value} (s : St P ρ Im [(b, .vec T cells)] w)
    (hb : ρ b = some (c + 1)) (hg : w.heap[c]? = some (.cells cs T fz)) (hg' : w'.heap[c]? = some (.cells cs' T fz')) (ho : ∀ d, d ≠ c → w'.heap[d]? = w.heap[d]?) (hsize : w'.heap.size = w.heap.size) (hos : w'.os = w.os) (hout : w'.output = w.output)
    (hf : fz'.1 ≤ fz'.2 ∧ ∀ i, i < cs'.size → ¬ (fz'.1 ≤ i ∧ i < fz'.2)) (hsz : cs'.size = cs.size)
    (hv : ∀ i (h : i < vals.length), cs'[i]? = some vals[i]) (hc : VRels P ρ Im w cells' vals) :
    Ev P ρ Im [(b, .vec T cells)] w ok ρ Im [(b, .vec T cells')] w' := by
  have hIm : ¬ Im c := by
    rcases s.obj b _ (List.mem_singleton_self _) with ⟨h1, _⟩ | ⟨d, h1, _, h3⟩
    · rw [hb] at h1; cases h1
    · rw [hb] at h1; cases h1; exact h3
  have hshape : ∀ d T n, w.shape? d = some (T, n) → w'.shape? d = some (T, n) := by
    intro d T' n hs
    unfold World.shape? at hs ⊢
    by_cases hd : d = c
    · subst hd
      rw [hg] at hs
      rw [hg']
      simp only [Option.some.injEq, Prod.mk.injEq] at hs ⊢
      exact ⟨hs.1, by rw [hsz]; exact hs.2⟩
    · rw [ho d hd]; exact hs
  refine { size := by omega, os := hos, out := hout, keep := ?_, rho := fun _ _ h => h, im := fun _ h => h, imNew := fun _ h => .inl h, shape := hshape, own := ?_, names := ?_, ok := fun _ h => .inl h, st := ?_ }
  · intro d hd hn
    refine ho d fun h => ?_
    subst h
    exact hn b _ (List.mem_singleton_self _) hb
  · intro x y d hxy hr
    simp only [List.mem_singleton, Prod.mk.injEq] at hxy
    obtain ⟨rfl, rfl⟩ := hxy
    exact .inl ⟨x, _, List.mem_singleton_self _, hr⟩
  · intro x y hxy
    simp only [List.mem_singleton, Prod.mk.injEq] at hxy
    obtain ⟨rfl, rfl⟩ := hxy
    exact .inl ⟨_, List.mem_singleton_self _⟩
  · refine { obj := ?_, nd := by simp, inj := ?_, im := fun d hd => by have := s.im d hd; omega }
    · intro x y hxy
      simp only [List.mem_singleton, Prod.mk.injEq] at hxy
      obtain ⟨rfl, rfl⟩ := hxy
      refine .inr ⟨c, hb, ⟨cs', fz', vals, hg', hf, hv, ?_⟩, hIm⟩
      refine VRels.mono { rho := fun _ _ h => h, im := fun _ h => h, same := ?_, shape := hshape } hc
      intro d hd
      refine ho d fun h => ?_
      subst h
      exact hIm hd
    · intro x x' y y' d hx hx' _ _
      simp only [List.mem_singleton, Prod.mk.injEq] at hx hx'
      rw [hx.1, hx'.1]
section
variable {o : Oper} {x : Operand} {t T e : TypeId} {b off len : Nat} {full : Bool} {cells : List AVal} {l : List UInt8}
theorem op_cvO (ho : o.op = .convert t t x) (ht : P.underlying t = some (.slice e)) (he : P.underlying e = some (.int .u8)) (hlen : 0 < len) :
    OpV P o [.os b off len 1 full] [(b, .vec T cells)] [] (.os b off len 1 full) [(b, .vec T cells)] := by
  refine OpV.value fun ρ Im w a sup s fr hv => ?_
  rw [Array.toList_map, ho] at hv
  obtain ⟨r, hr, hv⟩ := VRels.one.1 hv
  simp only [Op.operands, List.map_cons, List.map_nil, List.cons.injEq, and_true] at hr
  subst hr
  have hv0 := hv
  simp only [VRel] at hv
  rcases hv with ⟨_, h0, _⟩ | ⟨c, cap, T', n', g1, g2, g3, g4, g5, g6⟩
  · omega
  obtain ⟨c', cs, fz, vals, k1, k2, k3, k4, k5, k6⟩ := s.at (off := 0) (v := .pointer (some ⟨c, 0, none⟩)) (by simp only [VRel]; exact ⟨c, g1, rfl⟩)
  rw [g1] at k1
  cases k1
  have hlt : c < w.heap.size := (Array.getElem?_eq_some_iff.1 k3).1
  have hsh : w.shape? c = some (T, cs.size) := by unfold World.shape?; rw [k3]
  have hrun : (convert t t (.slice (some ⟨c, off, none⟩) len cap)).run P w = .ok (.slice (some ⟨c, off, none⟩) len cap) (w.freeze ⟨c, cs.size, none⟩ 1) := by
    simp [convert, run_underlying ht, run_underlying he, markStringish, hsh]
  let w' := w.freeze ⟨c, cs.size, none⟩ 1
  have hget : w'.heap[c]? = some (.cells cs T (if fz.1 == fz.2 then (cs.size, cs.size + 1) else (min fz.1 cs.size, max fz.2 (cs.size + 1)))) := by
    show (w.freeze ⟨c, cs.size, none⟩ 1).heap[c]? = _
    unfold World.freeze
    rw [if_neg (by decide)]
    simp only [Array.getElem?_modify, if_true, k3, Option.map_some]
  have hoth : ∀ d, d ≠ c → w'.heap[d]? = w.heap[d]? := by
    intro d hd
    show (w.freeze ⟨c, cs.size, none⟩ 1).heap[d]? = _
    unfold World.freeze
    rw [if_neg (by decide)]
    simp only [Array.getElem?_modify, if_neg (Ne.symm hd)]
  have hsize : w'.heap.size = w.heap.size := by
    show (w.freeze ⟨c, cs.size, none⟩ 1).heap.size = _
    unfold World.freeze
    rw [if_neg (by decide)]
    simp
  have hos : w'.os = w.os := by
    show (w.freeze ⟨c, cs.size, none⟩ 1).os = _
    unfold World.freeze
    rw [if_neg (by decide)]
  have hout : w'.output = w.output := by
    show (w.freeze ⟨c, cs.size, none⟩ 1).output = _
    unfold World.freeze
    rw [if_neg (by decide)]
  have ev := Ev.rowZ (ok := okOf [] sup) (cells' := cells) s g1 k3 hget hoth hsize hos hout (by
    obtain ⟨q1, q2⟩ := k4
    by_cases hz : fz.1 = fz.2
    · rw [if_pos (by simpa using hz)]
      exact ⟨by simp only; omega, fun i hi => by simp only; omega⟩
    · rw [if_neg (by simpa using hz)]
      refine ⟨by simp only; omega, fun i hi => ?_⟩
      have := q2 i hi
      simp only
      rcases Nat.lt_or_ge fz.1 cs.size with h1 | h1
      · exact absurd ⟨Nat.le_refl _, by omega⟩ (q2 fz.1 h1)
      · omega) rfl k5 k6
  refine ⟨.slice (some ⟨c, off, none⟩) len cap, w', ρ, Im, by simp [execOp, ho, g2, hrun, w'], ?_, ev⟩
  simp only [VRel]
  exact .inr ⟨c, cap, T', n', g1, rfl, g3, g4, ev.shape _ _ _ g5, g6⟩
end
end Go.Kw

namespace Go.Kw
set_option linter.unusedVariables false
set_option linter.unusedSimpArgs false
variable {P : Program}
section
variable {α : Type} {f : α → AVal} {o : Oper} {x y z : Operand} {t T e src dst : TypeId} {b off n m : Nat} {full : Bool} {cells : List AVal} {l : List α}
theorem op_sVAf (ho : o.op = .slice t x none none none) (ht : arrT P t = some (n, e, 1)) (hfit : off + n ≤ cells.length) (hX : (cells.drop off).take n = l.map f) (hn : l.length = n) : OpV P o [.vptr cells off] [] [] (VS f false l) [] := by
  have := op_slVA (P := P) (q := .i64) (off := off) (cells := cells) (li := none) (hI := none) (mi := none) (full := false) ho ht rfl rfl rfl (by simp) trivial trivial trivial (fun _ => rfl) hfit
  subst hn
  simpa [optV, bnd, hX] using this
theorem op_sVA00f (ho : o.op = .slice t x none none none) (ht : arrT P t = some (n, e, 1)) (hn : l.length = n) : OpV P o [.vptr (l.map f) 0] [] [] (VS f false l) [] := by
  subst hn
  exact op_sVAf ho ht (by simp) (by rw [List.drop_zero, List.take_of_length_le (by simp)]) rfl
theorem op_cvStrD {l : List UInt8} {u : TypeDesc} (ho : o.op = .convert src dst x) (hs : P.underlying src = some u) (hd : P.underlying dst = some (.slice e)) (he : P.underlying e = some (.int .u8)) :
    OpV P o [.str l] [] [] (VS AVal.u8 false l) [] :=
  OpV.cool (R := []) (fun b => op_cvStr (b := b) ho hs hd he) fun b => frz_os rfl
/-- the capacity of nil -/
theorem op_capNil {t0 e : TypeId} (ho : o.op = .call { callee := .builtin .cap, args := #[x], argTypes := #[t0] }) (ht : P.underlying t0 = some (.slice e)) : OpV P o [.vs 0 true []] [] [] (.i 0) [] :=
  op1 (x := x) (by rw [ho]; rfl) fun ρ Im w a hv => by
    simp only [VRel] at hv
    obtain ⟨ad, cap, h1, _, h3, _⟩ := hv
    have := h3 trivial
    subst this
    exact ⟨.int .i64 0, by simp [execOp, ho, resolve, invoke, builtin, Builtin.cap_, h1, run_underlying ht, goInt], by simp [VRel]⟩
theorem op_appVZ {b' : Nat} {t0 tS tI : TypeId} (n : Nat) (ho : o.op = .call { callee := .builtin .append, args := #[x, y], argTypes := #[t0, tI] }) (ht : appT P #[t0, tS] = some (T, 1, 1)) (hS : P.underlying tS = some .string)
    (hI : P.underlying tI = some (.int .i64)) (hz : (P.info? T).bind (·.zero) = some (Value.int .u8 0)) (hn : 0 < n) (hfit : (0 + n) * 1 ≤ 140737488355328) :
    OpV P o [.vs 0 true [], .i (n : Int)] [] [b'] (.os b' 0 (0 + n) 1 false) [(b', .vec T ((List.replicate n (0 : UInt8)).map AVal.u8))] := by
  obtain ⟨u0, u1, i, z, hT⟩ := appT_spec ht
  have e0 : u0 = t0 := by have := hT.h0; simpa using this.symm
  have e1 : u1 = tS := by have := hT.h1; simpa using this.symm
  subst e0 e1
  have hzz : z.cells = #[Value.int .u8 0] := by
    rw [hT.info] at hz
    simp only [Option.bind_some, hT.zero, Option.some.injEq] at hz
    rw [hz]; rfl
  refine opApp ho fun ρ Im w a sup s fr hv hu => ?_
  have hu2 : VRel P ρ Im w (.str (List.replicate n (0 : UInt8))) (.string ⟨(List.replicate n (0 : UInt8)).toArray⟩) := by simp only [VRel]
  simp only [VRel] at hu
  have hsrc := srcOf_str (P := P) hu2
  rw [List.length_replicate] at hsrc
  obtain ⟨v', w', ρ', h1, h2, h3⟩ := append_coreV (ty := o.type) hT s fr hv rfl hsrc (.inl rfl) hfit
  refine ⟨v', w', ρ', ?_, h2, by simpa using h3⟩
  obtain ⟨ad, cap, hvv⟩ : ∃ ad cap, a.eval x = .slice ad 0 cap := by
    simp only [VRel] at hv
    obtain ⟨ad, cap, h, _⟩ := hv
    exact ⟨ad, cap, h⟩
  rw [hu, hvv, run_append_zeros hT hS hI hzz hn hfit, ← hvv]
  exact h1
end
theorem OpV.cast2 {o : Oper} {v1 u u' v v' : AVal} {F F' : AHeap} {new : List Nat} (h : OpV P o [v1, u] F new v F') (hu : u = u') (hv : v = v') : OpV P o [v1, u'] F new v' F' := hu ▸ hv ▸ h
theorem VRels.prefix {ρ Im w} {as : List AVal} {vs : List Value} (k : Nat) (h : VRels P ρ Im w as vs) : VRels P ρ Im w (as.take k) (vs.take k) := h.take k
theorem St.trim {ρ Im w} {h : AHeap} {i b : Nat} {T : TypeId} {cells : List AVal} (k : Nat) (hi : h[i]? = some (b, .vec T cells)) (s : St P ρ Im h w) : St P ρ Im (h.set i (b, .vec T (cells.take k))) w := by
  obtain ⟨hlt, hget⟩ := List.getElem?_eq_some_iff.1 hi
  have hfst : (h.set i (b, .vec T (cells.take k))).map Prod.fst = h.map Prod.fst := by
    rw [List.map_set]
    show (h.map Prod.fst).set i b = _
    apply List.ext_getElem
    · simp
    · intro j h1 h2
      rw [List.getElem_set]
      split
      · rename_i hij
        subst hij
        simp [hget]
      · rfl
  have mem : ∀ x y, (x, y) ∈ h.set i (b, .vec T (cells.take k)) → ∃ y0, (x, y0) ∈ h ∧ (y = y0 ∨ (x = b ∧ y0 = .vec T cells ∧ y = .vec T (cells.take k))) := by
    intro x y hxy
    rw [List.mem_iff_getElem?] at hxy
    obtain ⟨j, hj⟩ := hxy
    by_cases hij : i = j
    · subst hij
      rw [List.getElem?_set_self hlt] at hj
      simp only [Option.some.injEq, Prod.mk.injEq] at hj
      obtain ⟨rfl, rfl⟩ := hj
      exact ⟨_, List.mem_of_getElem? hi, .inr ⟨rfl, rfl, rfl⟩⟩
    · rw [List.getElem?_set_ne hij] at hj
      exact ⟨y, List.mem_of_getElem? hj, .inl rfl⟩
  refine { obj := ?_, nd := by rw [hfst]; exact s.nd, inj := ?_, im := s.im }
  · intro x y hxy
    obtain ⟨y0, h1, h2 | ⟨rfl, rfl, rfl⟩⟩ := mem x y hxy
    · subst h2; exact s.obj x y h1
    · rcases s.obj _ _ h1 with ⟨g1, g2⟩ | ⟨c, g1, ⟨cs, fz, vals, k1, k2, k3, k4⟩, g3⟩
      · refine .inl ⟨g1, ?_⟩
        simp only [AObj.void] at g2 ⊢
        rw [g2]; simp
      · refine .inr ⟨c, g1, ⟨cs, fz, vals.take k, k1, k2, ?_, k4.take k⟩, g3⟩
        intro j hj
        simp only [List.length_take] at hj
        rw [k3 j (by omega)]; simp
  · intro x x' y y' c hx hx' h1 h2
    obtain ⟨y0, g1, _⟩ := mem x y hx
    obtain ⟨y0', g1', _⟩ := mem x' y' hx'
    exact s.inj x x' y0 y0' c g1 g1' h1 h2
/-- What lies behind a block's first cells may be forgotten. -/
theorem WP.trim {fn : Func} {n : Nat} {new : List Nat} {R : AVal → AHeap → Prop} {env : Env} {h : AHeap} {todo : List Item} {b : Nat} {T : TypeId} {cells : List AVal} (i k : Nat) (hi : h[i]? = some (b, .vec T cells))
    (hw : WP P fn n new R todo env (h.set i (b, .vec T (cells.take k)))) : WP P fn n new R todo env h := by
  intro ρ Im w a b0 cs sup s fr he hn hd
  have s1 := s.trim k hi
  obtain ⟨a', w', todo', g1, g2, v', v, h', ρ1, Im2, g3, g4, g5, g6⟩ := hw ρ Im w a b0 cs sup s1 fr he hn hd
  refine ⟨a', w', todo', g1, g2, v', v, h', ρ1, Im2, g3, g4, g5, ?_⟩
  obtain ⟨hlt, hget⟩ := List.getElem?_eq_some_iff.1 hi
  have mem : ∀ x y, (x, y) ∈ h.set i (b, .vec T (cells.take k)) → ∃ y0, (x, y0) ∈ h := by
    intro x y hxy
    rw [List.mem_iff_getElem?] at hxy
    obtain ⟨j, hj⟩ := hxy
    by_cases hij : i = j
    · subst hij
      rw [List.getElem?_set_self hlt] at hj
      simp only [Option.some.injEq, Prod.mk.injEq] at hj
      obtain ⟨rfl, rfl⟩ := hj
      exact ⟨_, List.mem_of_getElem? hi⟩
    · rw [List.getElem?_set_ne hij] at hj
      exact ⟨y, List.mem_of_getElem? hj⟩
  refine { size := g6.size, os := g6.os, out := g6.out, keep := ?_, rho := g6.rho, im := g6.im, imNew := ?_, shape := g6.shape, own := ?_, names := ?_, ok := g6.ok, st := g6.st }
  · intro c hc hno
    refine g6.keep c hc fun x y hxy => ?_
    obtain ⟨y0, h0⟩ := mem x y hxy
    exact hno x y0 h0
  · intro c hc
    rcases g6.imNew c hc with h1 | ⟨x, y, hxy, hx⟩ | h1
    · exact .inl h1
    · obtain ⟨y0, h0⟩ := mem x y hxy
      exact .inr (.inl ⟨x, y0, h0, hx⟩)
    · exact .inr (.inr h1)
  · intro x y c hxy hx
    rcases g6.own x y c hxy hx with ⟨x0, y0, h1, h2⟩ | h1
    · obtain ⟨y1, h0⟩ := mem x0 y0 h1
      exact .inl ⟨x0, y1, h0, h2⟩
    · exact .inr h1
  · intro x y hxy
    rcases g6.names x y hxy with ⟨y0, h1⟩ | h1
    · obtain ⟨y1, h0⟩ := mem x y0 h1
      exact .inl ⟨y1, h0⟩
    · exact .inr h1
end Go.Kw

namespace Go.Kw
set_option linter.unusedVariables false
set_option linter.unusedSimpArgs false
variable {P : Program}
section
variable {α : Type} {f : α → AVal} {o : Oper} {x y z : Operand} {t T e src dst : TypeId} {b off n m : Nat} {full : Bool} {cells : List AVal} {l : List α}
theorem op_sV01F {z : Operand} {j : Int} {q : IntKind} {by' : Nat} (ho : o.op = .slice t x none (some z) none) (ht : slT P t = some (e, 1, by')) (h2 : j = l.length) : OpV P o [VS f true l, .int q j] [] [] (VS f true l) [] := by
  subst h2
  have := op_slV (P := P) (q := q) (sz := 1) (len := l.length) (full := true) (f' := true) (cells := l.map f) (li := none) (hI := some (l.length : Int)) (mi := none) ho ht rfl rfl rfl (by simp) trivial ⟨by omega, by simp [bnd]⟩ (by simp [inB, bnd]) (fun _ => .inr ⟨rfl, by simp [bnd]⟩)
  have e1 : (l.map f).take l.length = l.map f := List.take_of_length_le (by simp)
  simpa [optV, bnd, VS, e1] using this
end
end Go.Kw

namespace Go.Kw
set_option linter.unusedVariables false
set_option linter.unusedSimpArgs false
variable {P : Program}
/-- A slice's capacity may be forgotten. -/
theorem WP.weakV {fn : Func} {n : Nat} {new : List Nat} {R : AVal → AHeap → Prop} {env : Env} {h : AHeap} {todo : List Item} (t : Nat) {len : Nat} {full : Bool} {cells : List AVal} (ht : env.get t = some (.vs len full cells))
    (hw : WP P fn n new R todo ((t, .vs len false cells) :: env) h) : WP P fn n new R todo env h := by
  intro ρ Im w a b cs sup s fr he hn hd
  refine hw ρ Im w a b cs sup s fr ?_ hn hd
  intro x v hx
  simp only [Env.get] at hx
  cases hb : Nat.beq t x with
  | true =>
    have := Nat.eq_of_beq_eq_true hb
    subst this
    simp only [hb, cond_true, Option.some.injEq] at hx
    subst hx
    have hv := he t _ ht
    simp only [VRel] at hv ⊢
    obtain ⟨ad, cap, h1, h2, _, h4⟩ := hv
    exact ⟨ad, cap, h1, h2, by simp, h4⟩
  | false =>
    simp only [hb, cond_false] at hx
    exact he _ _ hx
end Go.Kw

namespace Go.Kw
set_option linter.unusedVariables false
set_option linter.unusedSimpArgs false
variable {P : Program}
theorem vrel_weak {ρ Im w} {len : Nat} {full : Bool} {cells : List AVal} {v : Value} (h : VRel P ρ Im w (.vs len full cells) v) : VRel P ρ Im w (.vs len false cells) v := by
  simp only [VRel] at h ⊢
  obtain ⟨ad, cap, h1, h2, _, h4⟩ := h
  exact ⟨ad, cap, h1, h2, by simp, h4⟩
theorem OpV.weakR {o : Oper} {vals : List AVal} {F F' : AHeap} {new : List Nat} {len : Nat} {full : Bool} {cells : List AVal} (h : OpV P o vals F new (.vs len full cells) F') : OpV P o vals F new (.vs len false cells) F' := by
  intro ρ Im w a sup s fr hv K Q hK
  exact h ρ Im w a sup s fr hv K Q fun v' w' ρ' Im' h1 h2 => hK v' w' ρ' Im' (vrel_weak h1) h2
theorem noRef_tup8 {l : List UInt8} {n : Int} : noRef (.tup [.agg (l.map AVal.u8), .i n]) = true := by simp [noRef, noRefs, noRefs_8]
section
variable {f : FuncId} {a a2 a' a3 : AVal} {b : Nat} {T : TypeId} {cells : List AVal} {new : List Nat} {v : AVal} {x : Nat × AObj}
theorem lend2n (hx : noRefO x.2 = true) (hc : ACalls P f [a', a2] [] new v [x]) (hf : Frz b cells a a') (hv : noRef v = true) : ACalls P f [a, a2] [(b, .vec T cells)] new v [(b, .vec T cells), x] :=
  ACalls.lend hc (.cons hf (.cons (.refl _) .nil)) hv (by simp [hx])
end
end Go.Kw

namespace Go.Kw
set_option linter.unusedVariables false
set_option linter.unusedSimpArgs false
variable {P : Program}
theorem fillC {place : Nat → Option (Nat × Nat)} {cells cells' out : List AVal} {i off size : Nat} {v : AVal} {is : List Nat} {vs : List AVal} (hp : place i = some (off, size)) (hv : v.cellsA.length = size) (hc : off + size ≤ cells.length)
    (he : cells.take off ++ v.cellsA ++ cells.drop (off + size) = cells') (hr : fillV place cells' is vs = some out) : fillV place cells (i :: is) (v :: vs) = some out := by
  simp only [fillV, hp]
  rw [if_pos ⟨hv, hc⟩, he, hr]
theorem puO {u v : AVal} : [u].take 0 ++ [v] ++ [u].drop (0 + 1) = [v] := rfl
theorem aggLen {α : Type} {f : α → AVal} {l : List α} {n : Nat} (h : l.length = n) : (AVal.agg (l.map f)).cellsA.length = n := by
  simp [AVal.cellsA, h]
end Go.Kw

namespace Go.Kw
set_option linter.unusedVariables false
set_option linter.unusedSimpArgs false
variable {P : Program}
theorem frz_osL {α : Type} {g : α → AVal} {b len : Nat} {full : Bool} {l l' : List α} (h : l = l') (hl : l.length = len) : Frz b (l.map g) (.os b 0 len 1 full) (VS g full l') := by
  subst h; exact frz_os hl
theorem vsL {α : Type} {f : α → AVal} {full : Bool} {l l' : List α} (h : l = l') : VS f full l = VS f full l' := by rw [h]
end Go.Kw

namespace Go.Kw
set_option linter.unusedVariables false
set_option linter.unusedSimpArgs false
variable {P : Program}
section
variable {fn : Func} {n : Nat} {new : List Nat} {R : AVal → AHeap → Prop} {env : Env} {h : AHeap} {k : List Item} {c : Code}
theorem WP.loopPh1_4 {A0 B0 B1 B2 B3 : Type} (E : A0 → Env) (H : A0 → AHeap) (I : A0 → Prop) (m : A0 → Nat) (a0 : A0) (he : subE (E a0) env) (hh : List.Sublist (H a0) h) (h0 : I a0)
    (E2 : B0 → B1 → B2 → B3 → Env) (H2 : B0 → B1 → B2 → B3 → AHeap) (I2 : B0 → B1 → B2 → B3 → Prop) (m2 : B0 → B1 → B2 → B3 → Nat)
    (step2 : ∀ b0 b1 b2 b3, I2 b0 b1 b2 b3 → (∀ y0 y1 y2 y3, I2 y0 y1 y2 y3 → m2 y0 y1 y2 y3 < m2 b0 b1 b2 b3 → WP P fn n new R (.inLoop c :: k) (E2 y0 y1 y2 y3) (H2 y0 y1 y2 y3)) → WP P fn n new R (.code c :: .inLoop c :: k) (E2 b0 b1 b2 b3) (H2 b0 b1 b2 b3))
    (step : ∀ a0, I a0 → (∀ y0 y1 y2 y3, I2 y0 y1 y2 y3 → WP P fn n new R (.inLoop c :: k) (E2 y0 y1 y2 y3) (H2 y0 y1 y2 y3)) → (∀ x0, I x0 → m x0 < m a0 → WP P fn n new R (.inLoop c :: k) (E x0) (H x0)) → WP P fn n new R (.code c :: .inLoop c :: k) (E a0) (H a0)) :
    WP P fn n new R (.code (.loop c) :: k) env h :=
  WP.loopPh (fun x : A0 => E x) (fun x => H x) (fun x => I x) (fun x => m x) a0 he hh h0 (fun x : B0 × B1 × B2 × B3 => E2 x.1 x.2.1 x.2.2.1 x.2.2.2) (fun x => H2 x.1 x.2.1 x.2.2.1 x.2.2.2) (fun x => I2 x.1 x.2.1 x.2.2.1 x.2.2.2) (fun x => m2 x.1 x.2.1 x.2.2.1 x.2.2.2)
    (fun x hI hn => step2 x.1 x.2.1 x.2.2.1 x.2.2.2 hI fun y0 y1 y2 y3 h1 h2 => hn (y0, y1, y2, y3) h1 h2) (fun x hI hB hn => step x hI (fun y0 y1 y2 y3 h1 => hB (y0, y1, y2, y3) h1) fun x0 h1 h2 => hn x0 h1 h2)
end
/-- A result's slice, its capacity forgotten. -/
theorem ACalls.weakRes {f : FuncId} {args : List AVal} {h h' : AHeap} {new : List Nat} {len : Nat} {full : Bool} {cells : List AVal} {r : List AVal} (hc : ACalls P f args h new (.tup (.vs len full cells :: r)) h') : ACalls P f args h new (.tup (.vs len false cells :: r)) h' := by
  intro ρ Im w as sup s fr hv
  refine (hc ρ Im w as sup s fr hv).mono fun e w' he => ?_
  obtain ⟨v', ρ', Im', rfl, h1, h2⟩ := he
  refine ⟨v', ρ', Im', rfl, ?_, h2⟩
  simp only [VRel, VRels] at h1
  obtain ⟨cs, rfl, v, vs', h3, h4, h5⟩ := h1
  simp only [VRel, VRels]
  refine ⟨cs, rfl, v, vs', h3, ?_, h5⟩
  obtain ⟨ad, cap, g1, g2, _, g4⟩ := h4
  exact ⟨ad, cap, g1, g2, by simp, g4⟩
end Go.Kw

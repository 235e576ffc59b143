import Derived.Test.YtdnccchcflaphaaF34
namespace Go.Kw
set_option linter.unusedVariables false
set_option linter.unusedSimpArgs false
variable {P : Program}
theorem noRefs_append : ∀ {as bs : List AVal}, noRefs (as ++ bs) = (noRefs as && noRefs bs)
  | [], bs => by simp [noRefs]
  | a :: as, bs => by simp [noRefs, noRefs_append, Bool.and_assoc]
theorem noRefs_map {α : Type} {f : α → AVal} (hf : ∀ a, noRef (f a) = true) : ∀ {l : List α}, noRefs (l.map f) = true
  | [] => rfl
  | a :: l => by simp [noRefs, hf, noRefs_map hf]
theorem noRefs_8 {l : List UInt8} : noRefs (l.map AVal.u8) = true := noRefs_map fun _ => rfl
theorem noRefO_vec {T : TypeId} {cells : List AVal} (h : noRefs cells = true) {b : Nat} : noRefO ((b, AObj.vec T cells) : Nat × AObj).2 = true := h
theorem allS {α : Type} {f : α → AVal} (hf : ∀ a, (f a).scalar = true) {l : List α} : (l.map f).all AVal.scalar = true := by
  simp only [List.all_eq_true]; intro a ha; obtain ⟨w, _, rfl⟩ := List.mem_map.1 ha; exact hf w
theorem suO {u v : AVal} : [u].set 0 v = [v] := rfl
theorem toH1 {α : Type} {f : α → AVal} {l l' : List α} {b : Nat} {T : TypeId} (h : l = l') : [(b, AObj.vec T (l.map f))] = [(b, AObj.vec T (l'.map f))] := by rw [h]
theorem toH2 {α : Type} {f : α → AVal} {l l' : List α} {b : Nat} {T : TypeId} {x : Nat × AObj} (h : l = l') : [(b, AObj.vec T (l.map f)), x] = [(b, AObj.vec T (l'.map f)), x] := by rw [h]
theorem osN {b lo n n' sz : Nat} {full : Bool} (h : n = n') : AVal.os b lo n sz full = .os b lo n' sz full := by rw [h]
theorem noRef_8 {l : List UInt8} : noRef (.agg (l.map AVal.u8)) = true := noRefs_8
theorem ACalls.nsCase {f : FuncId} {full : Bool} {new : List Nat} {v : AVal} {h h' : AHeap} (hc : ∀ nil, ACalls P f [.ns nil] h new v h') : ACalls P f [.vs 0 full []] h new v h' := by
  intro ρ Im w as sup s fr hv
  simp only [VRels, VRel] at hv
  obtain ⟨u, us, h1, ⟨ad, cap, h2, _⟩, h3⟩ := hv
  refine hc ad.isNone ρ Im w as sup s fr ?_
  simp only [VRels, VRel]
  exact ⟨u, us, h1, ⟨ad, cap, h2, rfl⟩, h3⟩
theorem lend1n {f : FuncId} {a a' : AVal} {b : Nat} {T : TypeId} {cells : List AVal} {new : List Nat} {v : AVal} {x : Nat × AObj} (hx : noRefO x.2 = true) (hc : ACalls P f [a'] [] new v [x]) (hf : Frz b cells a a') (hv : noRef v = true) :
    ACalls P f [a] [(b, .vec T cells)] new v [(b, .vec T cells), x] := ACalls.lend hc (.cons hf .nil) hv (by simp [hx])
theorem ACalls.swap {f : FuncId} {args : List AVal} {x y x' y' : Nat × AObj} {new : List Nat} {v : AVal} (hc : ACalls P f args [x, y] new v [x', y']) : ACalls P f args [y, x] new v [y', x'] := by
  intro ρ Im w as sup s fr hv
  refine (hc ρ Im w as sup (s.perm (List.Perm.swap x y [])) fr hv).mono fun e w' he => ?_
  obtain ⟨v', ρ', Im', rfl, h1, h2⟩ := he
  exact ⟨v', ρ', Im', rfl, h1, (h2.permL (List.Perm.swap y x [])).permR (List.Perm.swap y' x' [])⟩
section
variable {α : Type} {g : α → AVal} {f : FuncId} {args args' : List AVal} {new : List Nat} {v : AVal} {b len lo sz : Nat} {T : TypeId} {l : List α} {cells : List AVal} {full : Bool}
/-- a part of a block, as data -/
theorem frz_part (h : lo + len ≤ l.length) : Frz b (l.map g) (.os b lo len 1 full) (VS g full ((l.drop lo).take len)) := by
  have := Frz.os (b := b) (cells := l.map g) lo len 1 full (by simpa using h)
  have e : ((l.drop lo).take len).length = len := by simp; omega
  simpa [VS, List.map_take, List.map_drop, e, Nat.min_eq_left (show len ≤ l.length - lo by omega)] using this
/-- the second argument's block is lent; the first one's is changed -/
theorem lend21 {a a2 a2' : AVal} {x x' : Nat × AObj} (hc : ACalls P f [a, a2'] [x] [] v [x']) (hf : Frz b cells a2 a2') (hv : noRef v = true) (hx : noRefO x'.2 = true) : ACalls P f [a, a2] [x, (b, .vec T cells)] [] v [x', (b, .vec T cells)] :=
  ACalls.swap (ACalls.lend hc (.cons (.refl _) (.cons hf .nil)) hv (by simp [hx]))
theorem lend11 {a2 a2' : AVal} (hc : ACalls P f [a2'] [] [] v []) (hf : Frz b cells a2 a2') (hv : noRef v = true) : ACalls P f [a2] [(b, .vec T cells)] [] v [(b, .vec T cells)] :=
  ACalls.lend hc (.cons hf .nil) hv rfl
theorem lend12 {a a2 a2' : AVal} (hc : ACalls P f [a, a2'] [] [] v []) (hf : Frz b cells a2 a2') (hv : noRef v = true) : ACalls P f [a, a2] [(b, .vec T cells)] [] v [(b, .vec T cells)] :=
  ACalls.lend hc (.cons (.refl _) (.cons hf .nil)) hv rfl
end
section
variable {o : Oper} {x y : Operand} {t e : TypeId} {b lo len by' : Nat} {full : Bool} {i : Int} {q : IntKind}
/-- part[lo:] of a slice in a block -/
theorem op_sO10 (k : Nat) {z : Operand} (ho : o.op = .slice t x (some z) none none) (ht : slT P t = some (e, 1, by')) (h2 : i = k) (hk : k ≤ len) (hp : 0 < len) {r m : Nat} (hr : lo + k = r) (hm : len - k = m) :
    OpV P o [.os b lo len 1 full, .int q i] [] [] (.os b r m 1 full) [] := by
  subst h2 hr hm
  refine op2 (x := x) (y := z) (by rw [ho]; simp [Op.operands]) fun ρ Im w a hv hu => ?_
  obtain ⟨hu1, hu2, _⟩ := slT_und ht
  simp only [VRel] at hv hu
  rcases hv with ⟨_, h0, _⟩ | ⟨c, cap, T', n', g1, g2, g3, g4, g5, g6⟩
  · omega
  have hr := run_bounds (P := P) (q := q) (w := w) (isS := true) (len := len) (cap := cap) (lo := some (k : Int)) (hi := none) (mx := none) trivial trivial (by simp [inB, bnd]; omega) (by simp)
  by_cases hck : cap = k
  · subst hck
    refine ⟨.slice (some ⟨c, lo, none⟩) (len - cap) (cap - cap), ?_, ?_⟩
    · simp only [Option.map_none, Option.map_some] at hr
      simp [execOp, ho, g2, hu, Instr.sliceAt, Instr.slice, run_underlying hu1, hr, hu2, bnd, addr_add]
    · simp only [VRel]
      exact .inl ⟨⟨_, g1⟩, by omega, some ⟨c, lo, none⟩, by rw [show len - cap = 0 by omega, show cap - cap = 0 by omega]⟩
  · refine ⟨.slice (some ⟨c, lo + k, none⟩) (len - k) (cap - k), ?_, ?_⟩
    · simp only [Option.map_none, Option.map_some] at hr
      simp [execOp, ho, g2, hu, Instr.sliceAt, Instr.slice, run_underlying hu1, hr, hu2, bnd, addr_add, hck]
    · simp only [VRel]
      exact .inr ⟨c, cap - k, T', n', g1, rfl, by omega, fun h => by rw [g4 h], g5, by omega⟩
end
end Go.Kw

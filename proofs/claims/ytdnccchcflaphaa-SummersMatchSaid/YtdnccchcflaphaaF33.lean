import Derived.Test.YtdnccchcflaphaaF32
namespace Go.Kw
set_option linter.unusedVariables false
set_option linter.unusedSimpArgs false
variable {P : Program}

/-! ### Cells in segments -/
section
variable {α : Type} {f : α → AVal} {A A' B B' X vs cells : List AVal} {v : AVal} {l l2 : List α}
theorem sgN (n i : Nat) {m : Nat} (hm : m = n + i) (hn : A.length = n) (h : B[i]? = some v) : (A ++ B)[m]? = some v := by
  subst hm hn; rw [List.getElem?_append_right (Nat.le_add_right _ _)]; simpa using h
theorem sgH {i : Nat} (h : A[i]? = some v) : (A ++ B)[i]? = some v := by
  obtain ⟨h1, h2⟩ := List.getElem?_eq_some_iff.1 h
  rw [List.getElem?_append_left h1, h]
theorem suN (n i : Nat) {m : Nat} (hm : m = n + i) (hn : A.length = n) (h : B.set i v = B') : (A ++ B).set m v = A ++ B' := by
  subst hm hn; rw [List.set_append_right _ _ (Nat.le_add_right _ _)]; simp [h]
theorem suH {i : Nat} (hi : i < A.length) (h : A.set i v = A') : (A ++ B).set i v = A' ++ B := by
  rw [List.set_append_left _ _ hi, h]
theorem suM {i : Nat} (x : α) : (l.map f).set i (f x) = (l.set i x).map f := List.map_set.symm
theorem prN (n i : Nat) {m k : Nat} (hm : m = n + i) (hn : A.length = n) (h : (B.drop i).take k = X) : ((A ++ B).drop m).take k = X := by
  subst hm hn; rw [List.drop_append, List.drop_eq_nil_of_le (show A.length ≤ A.length + i by omega)]; simpa using h
theorem prH {i k : Nat} (hi : i + k ≤ A.length) (h : (A.drop i).take k = X) : ((A ++ B).drop i).take k = X := by
  rw [List.drop_append_of_le_length (by omega), List.take_append_of_le_length (by simp; omega), h]
theorem prW {k : Nat} (hk : A.length = k) : (A.drop 0).take k = A := by
  rw [List.drop_zero, List.take_of_length_le (by omega)]
theorem prM {i k : Nat} : ((l.map f).drop i).take k = ((l.drop i).take k).map f := by simp [List.map_take, List.map_drop]
theorem puN (n i : Nat) {m k : Nat} (hm : m = n + i) (hn : A.length = n) (h : B.take i ++ vs ++ B.drop (i + k) = B') : (A ++ B).take m ++ vs ++ (A ++ B).drop (m + k) = A ++ B' := by
  subst hm hn
  rw [List.take_append, List.drop_append, List.take_of_length_le (by omega), List.drop_eq_nil_of_le (show A.length ≤ A.length + i + k by omega), ← h]
  simp [show A.length + i + k - A.length = i + k by omega]
theorem puH {i k : Nat} (hi : i + k ≤ A.length) (h : A.take i ++ vs ++ A.drop (i + k) = A') : (A ++ B).take i ++ vs ++ (A ++ B).drop (i + k) = A' ++ B := by
  rw [List.take_append_of_le_length (by omega), List.drop_append_of_le_length (by omega), ← h]
  simp
theorem puW {k : Nat} (hk : A.length = k) : A.take 0 ++ vs ++ A.drop (0 + k) = vs := by
  rw [List.drop_eq_nil_of_le (by omega)]; simp
theorem puM {i k : Nat} : (l.map f).take i ++ l2.map f ++ (l.map f).drop (i + k) = (l.take i ++ l2 ++ l.drop (i + k)).map f := by simp [List.map_take, List.map_drop]
theorem puMt {i k : Nat} : (l.map f).take i ++ (l2.map f).take k ++ (l.map f).drop (i + k) = (l.take i ++ l2.take k ++ l.drop (i + k)).map f := by simp [List.map_take, List.map_drop]
end

section
variable {α : Type} {f : α → AVal} {o : Oper} {x y z : Operand} {t t' T : TypeId} {v u : AVal} {b off k len sz n m r : Nat} {full f' : Bool} {cells vs X : List AVal} {i j : Int} {q : IntKind} {ts : Array TypeId} {l l2 : List α} {e : TypeId} {by' : Nat}
theorem op_fieldE {s fd d : Nat} (ho : o.op = .fieldAddr s x fd) (hf : fieldT P s fd = some d) (hm : off + d = m) : OpV P o [.ptr b off] [] [] (.ptr b m) [] := by
  subst hm; exact op_field ho hf
theorem op_fieldVE {s fd d : Nat} (ho : o.op = .fieldAddr s x fd) (hf : fieldT P s fd = some d) (hm : off + d = m) : OpV P o [.vptr cells off] [] [] (.vptr cells m) [] := by
  subst hm; exact op_fieldV ho hf
theorem op_iAo (m : Nat) (ho : o.op = .indexAddr t x y) (ht : arrT P t = some (n, e, sz)) (hi : i = m) (hm : m < n) (hr : off + m * sz = r) : OpV P o [.ptr b off, .int q i] [] [] (.ptr b r) [] := by
  have := op_idxA (P := P) (b := b) (off := off) (i := i) (q := q) ho ht (by omega) (by omega)
  subst hi hr
  simpa using this
theorem op_iVAo (m : Nat) (ho : o.op = .indexAddr t x y) (ht : arrT P t = some (n, e, sz)) (hi : i = m) (hm : m < n) (hr : off + m * sz = r) : OpV P o [.vptr cells off, .int q i] [] [] (.vptr cells r) [] := by
  have := op_idxVA (P := P) (cells := cells) (off := off) (i := i) (q := q) ho ht (by omega) (by omega)
  subst hi hr
  simpa using this
theorem op_iOo (m : Nat) (ho : o.op = .indexAddr t x y) (ht : slT P t = some (e, sz, by')) (hi : i = m) (hm : m < len) (hr : off + m * sz = r) : OpV P o [.os b off len sz full, .int q i] [] [] (.ptr b r) [] := by
  have := op_idxO (P := P) (b := b) (off := off) (len := len) (k := sz) (full := full) (i := i) (q := q) ho ht (by omega) (by omega)
  subst hi hr
  simpa using this
theorem op_iVo (m : Nat) (ho : o.op = .indexAddr t x y) (ht : slT P t = some (e, sz, by')) (hi : i = m) (hm : m < len) (hc : cells ≠ []) (hr : m * sz = r) : OpV P o [.vs len full cells, .int q i] [] [] (.vptr cells r) [] := by
  have := op_idxV (P := P) (len := len) (full := full) (cells := cells) (i := i) (q := q) ho ht (by omega) (by omega) hc
  subst hi hr
  simpa using this
theorem op_loadG (ho : o.op = .load t x) (ht : aggT P t = some k) (hk : off + k ≤ cells.length) (hX : (cells.drop off).take k = X) : OpV P o [.ptr b off] [(b, .vec T cells)] [] (.agg X) [(b, .vec T cells)] := by
  subst hX; exact op_loadA ho ht hk
theorem op_loadVG (ho : o.op = .load t x) (ht : aggT P t = some k) (hk : off + k ≤ cells.length) (hX : (cells.drop off).take k = X) : OpV P o [.vptr cells off] [] [] (.agg X) [] := by
  subst hX; exact op_loadVA ho ht hk
theorem op_storeX (ho : o.op = .store t x y) (ht : scalT P t = true) (hs : v.scalar = true) (hc : off < cells.length) (hX : cells.set off v = X) : OpV P o [.ptr b off, v] [(b, .vec T cells)] [] (.tup []) [(b, .vec T X)] := by
  subst hX; exact op_store ho ht hs hc
theorem op_storeG (ho : o.op = .store t x y) (ht : aggT P t = some k) (hk : vs.length = k) (hs : vs.all AVal.scalar = true) (hc : off + k ≤ cells.length) (hX : cells.take off ++ vs ++ cells.drop (off + k) = X) :
    OpV P o [.ptr b off, .agg vs] [(b, .vec T cells)] [] (.tup []) [(b, .vec T X)] := by
  subst hX; exact op_storeA ho ht hk hs hc
theorem op_sAo00 (ho : o.op = .slice t x none none none) (ht : arrT P t = some (n, e, 1)) (hc : off + n ≤ cells.length) : OpV P o [.ptr b off] [(b, .vec T cells)] [] (.os b off n 1 true) [(b, .vec T cells)] := by
  have := op_slA (P := P) (q := .i64) (b := b) (off := off) (T := T) (cells := cells) (li := none) (hI := none) (mi := none) (full := true) ho ht rfl rfl rfl (by simp) trivial trivial trivial (fun _ => rfl) (by omega)
  simpa [optV, bnd] using this
theorem op_sAo10 (lo : Nat) {y : Operand} (ho : o.op = .slice t x (some y) none none) (ht : arrT P t = some (n, e, 1)) (hi : i = lo) (hlo : lo ≤ n) (hc : off + n ≤ cells.length) (hr : off + lo = r) :
    OpV P o [.ptr b off, .int q i] [(b, .vec T cells)] [] (.os b r (n - lo) 1 true) [(b, .vec T cells)] := by
  subst hi hr
  have := op_slA (P := P) (q := q) (b := b) (off := off) (T := T) (cells := cells) (li := some (lo : Int)) (hI := none) (mi := none) (full := true) ho ht rfl rfl rfl (by simp) trivial trivial ⟨by omega, by simpa [bnd] using hlo⟩ (fun _ => rfl) (by omega)
  simpa [optV, bnd] using this
theorem op_sAo01 (hi : Nat) {z : Operand} (ho : o.op = .slice t x none (some z) none) (ht : arrT P t = some (n, e, 1)) (h2 : j = hi) (hhi : hi ≤ n) (hc : off + n ≤ cells.length) :
    OpV P o [.ptr b off, .int q j] [(b, .vec T cells)] [] (.os b off hi 1 false) [(b, .vec T cells)] := by
  subst h2
  have := op_slA (P := P) (q := q) (b := b) (off := off) (T := T) (cells := cells) (li := none) (hI := some (hi : Int)) (mi := none) (full := false) ho ht rfl rfl rfl (by simp) trivial ⟨by omega, by simpa [bnd] using hhi⟩ (by simp [inB, bnd]) (by simp) (by omega)
  simpa [optV, bnd] using this
theorem op_copyG {t0 : TypeId} (hs : ∀ a, (f a).scalar = true) (ho : o.op = .call { callee := .builtin .copy, args := #[x, y], argTypes := ts }) (ht0 : ts[0]? = some t0) (ht : slT P t0 = some (e, 1, by'))
    (hc : off + len ≤ cells.length) (hm : min l2.length len = m) (hX : cells.take off ++ (l2.map f).take m ++ cells.drop (off + m) = X) :
    OpV P o [.os b off len 1 full, VS f f' l2] [(b, .vec T cells)] [] (.i (m : Nat)) [(b, .vec T X)] := by
  subst hm hX
  have := op_copyV (P := P) (b := b) (T := T) (off := off) (len := len) (m := l2.length) (full := full) (f' := f') (cells := cells) (src := l2.map f) ho ht0 ht (by simpa using hc) (by simp) (by simp [hs])
  simpa using this
theorem op_copyGO {t0 : TypeId} {c lo2 ml : Nat} {Tc : TypeId} (hs : ∀ a, (f a).scalar = true) (ho : o.op = .call { callee := .builtin .copy, args := #[x, y], argTypes := ts }) (ht0 : ts[0]? = some t0) (ht : slT P t0 = some (e, 1, by'))
    (hc : off + len ≤ cells.length) (hl : lo2 + ml ≤ l2.length) (hm : min ml len = m) (hX : cells.take off ++ (((l2.drop lo2).take m).map f) ++ cells.drop (off + m) = X) :
    OpV P o [.os b off len 1 full, .os c lo2 ml 1 f'] [(b, .vec T cells), (c, .vec Tc (l2.map f))] [] (.i (m : Nat)) [(b, .vec T X), (c, .vec Tc (l2.map f))] := by
  subst hm hX
  have := op_copyO (P := P) (b := b) (T := T) (c := c) (Tc := Tc) (off := off) (len := len) (m := ml) (offc := lo2) (full := full) (f' := f') (cells := cells) (cs2 := l2.map f) ho ht0 ht (by simpa using hc) (by simpa using hl)
    (by simp only [List.all_eq_true]; intro a ha; obtain ⟨w, _, rfl⟩ := List.mem_map.1 (List.mem_of_mem_drop (List.mem_of_mem_take ha)); exact hs w)
  simpa [List.map_take, List.map_drop, List.take_take] using this
/-! arrays of octets against each other -/
theorem samesB_map8 : ∀ {l l2 : List UInt8}, l.length = l2.length → samesB (l.map AVal.u8) (l2.map AVal.u8) = (l == l2)
  | [], [], _ => rfl
  | a :: l, b :: l2, h => by
    simp only [List.map_cons, samesB, sameB]
    rw [samesB_map8 (by simpa using h), show (a :: l == b :: l2) = (a == b && l == l2) from rfl]
    congr 1
    rw [Bool.eq_iff_iff]
    simp only [beq_iff_eq]
    exact ⟨fun h => UInt8.toNat_inj.1 (by omega), fun h => by rw [h]⟩
  | [], _ :: _, h => by simp at h
  | _ :: _, [], h => by simp at h
theorem fitsB_map8 {k : Nat} : ∀ {n : Nat} {l : List UInt8}, l.length = n → fitsB (List.replicate n (.int .u8)) (l.map AVal.u8) = true
  | 0, [], _ => rfl
  | n + 1, a :: l, h => by
    simp only [List.replicate_succ, List.map_cons, fitsB, fitB, beq_self_eq_true, Bool.true_and]
    exact fitsB_map8 (k := k) (by simpa using h)
  | 0, _ :: _, h => by simp at h
  | n + 1, [], h => by simp at h
def arr8T (P : Program) (t : TypeId) (n : Nat) : Bool := match P.underlying t with
  | some (.array m e) => (match P.underlying e with | some (.int .u8) => Nat.beq m n && Nat.beq (P.cellsOf e) 1 && (P.info? e).isSome | _ => false) && (aggT P t).isSome && guardT P t
  | _ => false
theorem flat_single {α : Type} (a : α) : ∀ n, (List.replicate n [a]).flatten = List.replicate n a
  | 0 => rfl
  | n + 1 => by rw [List.replicate_succ, List.flatten_cons, flat_single a n]; rfl
theorem arr8_cmp {t : TypeId} {n : Nat} (h : arr8T P t n = true) : cmpT P 20 t = some (List.replicate n (.int .u8)) ∧ (aggT P t).isSome = true ∧ guardT P t = true := by
  unfold arr8T at h
  split at h
  · rename_i m e hu
    simp only [Bool.and_eq_true] at h
    obtain ⟨⟨h1, h2⟩, h3⟩ := h
    split at h1
    · rename_i he
      simp only [Bool.and_eq_true] at h1
      obtain ⟨⟨hm, hc⟩, hi⟩ := h1
      have hm := Nat.eq_of_beq_eq_true hm
      have hc := Nat.eq_of_beq_eq_true hc
      subst hm
      refine ⟨?_, h2, h3⟩
      have e1 : cmpT P 19 e = some [.int .u8] := by rw [cmpT]; simp [he]
      rw [cmpT]
      simp [hu, e1, hc, hi, flat_single]
    · cases h1
  · cases h
theorem op_eqA8 {l l2 : List UInt8} (ho : o.op = .binOp .eql t x y t') (ht : arr8T P t n = true) (h1 : l.length = n) (h2 : l2.length = n) : OpV P o [.agg (l.map AVal.u8), .agg (l2.map AVal.u8)] [] [] (.bool (l == l2)) [] := by
  have ht := arr8_cmp ht
  have := op_eqA (P := P) ho ht.1 ht.2.1 ht.2.2 (fitsB_map8 (k := 0) h1) (fitsB_map8 (k := 0) h2)
  rwa [samesB_map8 (by omega)] at this
theorem op_neqA8 {l l2 : List UInt8} (ho : o.op = .binOp .neq t x y t') (ht : arr8T P t n = true) (h1 : l.length = n) (h2 : l2.length = n) : OpV P o [.agg (l.map AVal.u8), .agg (l2.map AVal.u8)] [] [] (.bool (!(l == l2))) [] := by
  have ht := arr8_cmp ht
  have := op_neqA (P := P) ho ht.1 ht.2.1 ht.2.2 (fitsB_map8 (k := 0) h1) (fitsB_map8 (k := 0) h2)
  rwa [samesB_map8 (by omega)] at this
theorem op_neqNil {b off : Nat} (ho : o.op = .binOp .neq t x y t') {e : TypeId} (ht : P.underlying t = some (.pointer e)) : OpV P o [.ptr b off, .nilp] [] [] (.bool true) [] :=
  op2 (x := x) (y := y) (by rw [ho]; rfl) fun ρ Im w ac hv hu => by
    simp only [VRel] at hv hu ⊢
    obtain ⟨c, _, h2⟩ := hv
    exact ⟨.bool true, by simp [execOp, ho, h2, hu, eqGuard, binOp, run_eqPN ht], rfl⟩
theorem op_neqNilNil (ho : o.op = .binOp .neq t x y t') {e : TypeId} (ht : P.underlying t = some (.pointer e)) : OpV P o [.nilp, .nilp] [] [] (.bool false) [] :=
  op2 (x := x) (y := y) (by rw [ho]; rfl) fun ρ Im w ac hv hu => by
    simp only [VRel] at hv hu ⊢
    exact ⟨.bool false, by simp [execOp, ho, hv, hu, eqGuard, binOp, run_eqPN ht], rfl⟩
end
end Go.Kw

import Derived.Test.YtdnccchcflaphaaF20
namespace Go.Kw
set_option linter.unusedVariables false
set_option linter.unusedSimpArgs false
variable {P : Program}

abbrev VS {α : Type} (f : α → AVal) (full : Bool) (l : List α) : AVal := .vs l.length full (l.map f)
abbrev OS {α : Type} (b : Nat) (full : Bool) (l : List α) : AVal := .os b 0 l.length 1 full

section
variable {α : Type} {f : α → AVal} {o : Oper} {x y z : Operand} {t t' T : TypeId} {v u : AVal} {b off k len sz n : Nat} {full f' : Bool} {cells vs : List AVal} {i j : Int} {q : IntKind} {ts : Array TypeId} {l l2 : List α} {e : TypeId} {by' : Nat}

theorem getM [Inhabited α] (hm : n < l.length) : (l.map f)[n]? = some (f l[n]!) := by
  simp [List.getElem?_eq_getElem hm, List.getElem!_eq_getElem?_getD]

theorem op_boxA (ho : o.op = .box t x) : OpV P o [.agg cells] [] [b] (.ptr b 0) [(b, .vec t cells)] := op_box ho (by intro l h; cases h)
theorem op_boxS (ho : o.op = .box t x) (hs : v.scalar = true) : OpV P o [v] [] [b] (.ptr b 0) [(b, .vec t [v])] := by
  have := op_box (P := P) (b := b) (u := v) ho (by intro l h; subst h; cases hs)
  cases v <;> first | exact this | cases hs
theorem op_loadW (ho : o.op = .load t x) (ht : aggT P t = some k) (hk : cells.length = k) : OpV P o [.ptr b 0] [(b, .vec T cells)] [] (.agg cells) [(b, .vec T cells)] := by
  have := op_loadA (P := P) (b := b) (T := T) (off := 0) (cells := cells) ho ht (by omega)
  simpa [List.take_of_length_le (Nat.le_of_eq hk)] using this
theorem op_storeW (ho : o.op = .store t x y) (ht : aggT P t = some k) (hk : vs.length = k) (hc : cells.length = k) (hs : vs.all AVal.scalar = true) :
    OpV P o [.ptr b 0, .agg vs] [(b, .vec T cells)] [] (.tup []) [(b, .vec T vs)] := by
  have := op_storeA (P := P) (b := b) (T := T) (off := 0) (cells := cells) (vs := vs) ho ht hk hs (by omega)
  simpa [List.drop_eq_nil_of_le (Nat.le_of_eq hc)] using this
theorem op_loadM [Inhabited α] (ho : o.op = .load t x) (ht : scalT P t = true) (hm : n < l.length) : OpV P o [.ptr b n] [(b, .vec T (l.map f))] [] (f l[n]!) [(b, .vec T (l.map f))] :=
  op_load ho ht (getM hm)
theorem op_loadVM [Inhabited α] (ho : o.op = .load t x) (ht : scalT P t = true) (hm : n < l.length) : OpV P o [.vptr (l.map f) n] [] [] (f l[n]!) [] :=
  op_loadV ho ht (getM hm)
theorem op_storeM {v : α} (ho : o.op = .store t x y) (ht : scalT P t = true) (hs : (f v).scalar = true) (hm : n < l.length) :
    OpV P o [.ptr b n, f v] [(b, .vec T (l.map f))] [] (.tup []) [(b, .vec T ((l.set n v).map f))] := by
  have := op_store (P := P) (b := b) (T := T) (off := n) (cells := l.map f) (v := f v) ho ht hs (by simpa using hm)
  rwa [← List.map_set] at this
theorem op_iA (m : Nat) (ho : o.op = .indexAddr t x y) (ht : arrT P t = some (n, e, 1)) (hi : i = m) (hm : m < n) : OpV P o [.ptr b 0, .int q i] [] [] (.ptr b m) [] := by
  have := op_idxA (P := P) (b := b) (off := 0) (i := i) (q := q) ho ht (by omega) (by omega)
  rwa [show 0 + i.toNat * 1 = m by omega] at this
theorem op_iVA (m : Nat) (ho : o.op = .indexAddr t x y) (ht : arrT P t = some (n, e, 1)) (hi : i = m) (hm : m < n) : OpV P o [.vptr cells 0, .int q i] [] [] (.vptr cells m) [] := by
  have := op_idxVA (P := P) (cells := cells) (off := 0) (i := i) (q := q) ho ht (by omega) (by omega)
  rwa [show 0 + i.toNat * 1 = m by omega] at this
theorem op_iO (m : Nat) (ho : o.op = .indexAddr t x y) (ht : slT P t = some (e, 1, by')) (hi : i = m) (hm : m < len) : OpV P o [.os b 0 len 1 full, .int q i] [] [] (.ptr b m) [] := by
  have := op_idxO (P := P) (b := b) (off := 0) (len := len) (k := 1) (full := full) (i := i) (q := q) ho ht (by omega) (by omega)
  rwa [show 0 + i.toNat * 1 = m by omega] at this
theorem op_iV (m : Nat) (ho : o.op = .indexAddr t x y) (ht : slT P t = some (e, 1, by')) (hi : i = m) (hm : m < l.length) : OpV P o [VS f full l, .int q i] [] [] (.vptr (l.map f) m) [] := by
  have := op_idxV (P := P) (len := l.length) (full := full) (cells := l.map f) (i := i) (q := q) ho ht (by omega) (by omega) (by intro h; simp at h; subst h; simp at hm)
  rwa [show i.toNat * 1 = m by omega] at this
theorem op_xA [Inhabited α] (m : Nat) (ho : o.op = .index t x y) (ht : arrT P t = some (n, e, 1)) (he : scalT P e = true) (hi : i = m) (hm : m < n) (hl : l.length = n) : OpV P o [.agg (l.map f), .int q i] [] [] (f l[m]!) [] :=
  op_indexA (m := m) ho ht he hi hm (getM (by omega))
theorem op_xS {l : List UInt8} (m : Nat) (ho : o.op = .index t x y) (ht : P.underlying t = some .string) (hi : i = m) (hm : m < l.length) : OpV P o [.str l, .int q i] [] [] (.u8 l[m]!) [] :=
  op_indexS (m := m) ho ht hi (by simp [List.getElem?_eq_getElem hm, List.getElem!_eq_getElem?_getD])

/-! parts of arrays in blocks -/
theorem op_sA00 (ho : o.op = .slice t x none none none) (ht : arrT P t = some (n, e, 1)) (hc : n ≤ cells.length) : OpV P o [.ptr b 0] [(b, .vec T cells)] [] (.os b 0 n 1 true) [(b, .vec T cells)] := by
  have := op_slA (P := P) (q := .i64) (b := b) (off := 0) (T := T) (cells := cells) (li := none) (hI := none) (mi := none) (full := true) ho ht rfl rfl rfl (by simp) trivial trivial trivial (fun _ => rfl) (by omega)
  simpa [optV, bnd] using this
theorem op_sA10 (lo : Nat) {y : Operand} (ho : o.op = .slice t x (some y) none none) (ht : arrT P t = some (n, e, 1)) (hi : i = lo) (hlo : lo ≤ n) (hc : n ≤ cells.length) :
    OpV P o [.ptr b 0, .int q i] [(b, .vec T cells)] [] (.os b lo (n - lo) 1 true) [(b, .vec T cells)] := by
  subst hi
  have := op_slA (P := P) (q := q) (b := b) (off := 0) (T := T) (cells := cells) (li := some lo) (hI := none) (mi := none) (full := true) ho ht rfl rfl rfl (by simp) trivial trivial (by simp [inB, bnd]; omega) (fun _ => rfl) (by omega)
  simpa [optV, bnd] using this
theorem op_sA11 (lo hi : Nat) {y z : Operand} (ho : o.op = .slice t x (some y) (some z) none) (ht : arrT P t = some (n, e, 1)) (h1 : i = lo) (h2 : j = hi) (hlo : lo ≤ hi) (hhi : hi ≤ n) (hc : n ≤ cells.length) :
    OpV P o [.ptr b 0, .int q i, .int q j] [(b, .vec T cells)] [] (.os b lo (hi - lo) 1 false) [(b, .vec T cells)] := by
  subst h1 h2
  have := op_slA (P := P) (q := q) (b := b) (off := 0) (T := T) (cells := cells) (li := some lo) (hI := some hi) (mi := none) (full := false) ho ht rfl rfl rfl (by simp) trivial (by simp [inB, bnd]; omega) (by simp [inB, bnd]; omega) (by simp) (by omega)
  simpa [optV, bnd] using this
theorem op_sA01 (hi : Nat) {z : Operand} (ho : o.op = .slice t x none (some z) none) (ht : arrT P t = some (n, e, 1)) (h2 : j = hi) (hhi : hi ≤ n) (hc : n ≤ cells.length) :
    OpV P o [.ptr b 0, .int q j] [(b, .vec T cells)] [] (.os b 0 hi 1 false) [(b, .vec T cells)] := by
  subst h2
  have := op_slA (P := P) (q := q) (b := b) (off := 0) (T := T) (cells := cells) (li := none) (hI := some hi) (mi := none) (full := false) ho ht rfl rfl rfl (by simp) trivial (by simp [inB, bnd]; omega) (by simp [inB, bnd]) (by simp) (by omega)
  simpa [optV, bnd] using this

/-! parts of data -/
theorem op_sV10 (lo : Nat) {y : Operand} (ho : o.op = .slice t x (some y) none none) (ht : slT P t = some (e, 1, by')) (hi : i = lo) (hlo : lo ≤ l.length) :
    OpV P o [VS f full l, .int q i] [] [] (VS f full (l.drop lo)) [] := by
  subst hi
  have := op_slV (P := P) (q := q) (len := l.length) (full := full) (cells := l.map f) (li := some lo) (hI := none) (mi := none) (f' := full) ho ht rfl rfl rfl (by simp) trivial trivial (by simp [inB, bnd]; omega) (fun h => .inr ⟨h, rfl⟩)
  have e2 : ((l.map f).drop lo).take (l.length - lo) = (l.drop lo).map f := by rw [List.take_of_length_le (by simp), List.map_drop]
  simpa [optV, bnd, VS, e2] using this
theorem op_sV01 (hi : Nat) {z : Operand} (ho : o.op = .slice t x none (some z) none) (ht : slT P t = some (e, 1, by')) (h2 : j = hi) (hhi : hi ≤ l.length) :
    OpV P o [VS f full l, .int q j] [] [] (VS f false (l.take hi)) [] := by
  subst h2
  have := op_slV (P := P) (q := q) (len := l.length) (full := full) (cells := l.map f) (li := none) (hI := some hi) (mi := none) (f' := false) ho ht rfl rfl rfl (by simp) trivial (by simp [inB, bnd]; omega) (by simp [inB, bnd]) (by simp)
  simpa [optV, bnd, VS, Nat.min_eq_left hhi, List.map_take] using this
theorem op_sV11 (lo hi : Nat) {y z : Operand} (ho : o.op = .slice t x (some y) (some z) none) (ht : slT P t = some (e, 1, by')) (h1 : i = lo) (h2 : j = hi) (hlo : lo ≤ hi) (hhi : hi ≤ l.length) :
    OpV P o [VS f full l, .int q i, .int q j] [] [] (VS f false ((l.take hi).drop lo)) [] := by
  subst h1 h2
  have := op_slV (P := P) (q := q) (len := l.length) (full := full) (cells := l.map f) (li := some lo) (hI := some hi) (mi := none) (f' := false) ho ht rfl rfl rfl (by simp) trivial (by simp [inB, bnd]; omega) (by simp [inB, bnd]; omega) (by simp)
  have e2 : ((l.map f).drop lo).take (hi - lo) = ((l.take hi).drop lo).map f := by rw [List.map_drop, List.map_take, List.drop_take]
  have e3 : ((l.take hi).drop lo).length = hi - lo := by simp; omega
  simpa [optV, bnd, VS, e2, e3] using this

/-! whole owned slices -/
theorem op_lenV (ho : o.op = .call { callee := .builtin .len, args := #[x], argTypes := #[t] }) (ht : slT P t = some (e, sz, by')) : OpV P o [VS f full l] [] [] (.i l.length) [] := op_len_v ho ht
theorem op_lenO (ho : o.op = .call { callee := .builtin .len, args := #[x], argTypes := #[t] }) (ht : slT P t = some (e, sz, by')) : OpV P o [.os b off len k full] [] [] (.i len) [] := op_len_s ho ht
theorem op_makeM {z : α} {m c : Nat} (ho : o.op = .makeSlice t x y) (ht : slT P t = some (e, 1, by')) (hz : zeroT P e = some [f z]) (hl : i = m) (hc : j = c) (hlc : m ≤ c)
    (hfit : c * by' ≤ 140737488355328) (hcap : c ≤ 9223372036854775807) :
    OpV P o [.i i, .i j] [] [b] (OS b false (List.replicate m z)) [(b, .vec e ((List.replicate m z).map f))] := by
  have := op_make1 (P := P) (b := b) ho ht hz hl hc hlc hfit hcap
  simpa [OS] using this
theorem op_appM {b' bytes : Nat} (hs : ∀ a, (f a).scalar = true) (ho : o.op = .call { callee := .builtin .append, args := #[x, y], argTypes := ts }) (ht : appT P ts = some (T, 1, bytes))
    (hfit : (l.length + l2.length) * bytes ≤ 140737488355328) :
    OpV P o [OS b full l, VS f f' l2] [(b, .vec T (l.map f))] [b'] (OS b' false (l ++ l2)) [(b', .vec T ((l ++ l2).map f))] := by
  have := op_appV (P := P) (b := b) (b' := b') (len := l.length) (n := l2.length) (full := full) (f' := f') (cells := l.map f) (new := l2.map f) ho ht (by simp) (by simp) (by simp [hs]) hfit
  simpa [OS] using this
theorem op_appMVV {b' bytes : Nat} (ho : o.op = .call { callee := .builtin .append, args := #[x, y], argTypes := ts }) (ht : appT P ts = some (T, 1, bytes))
    (h0 : l.length = 0 ∨ 0 < l2.length) (hfit : (l.length + l2.length) * bytes ≤ 140737488355328) :
    OpV P o [VS f true l, VS f f' l2] [] [b'] (OS b' false (l ++ l2)) [(b', .vec T ((l ++ l2).map f))] := by
  have := op_appVV (P := P) (b' := b') (len := l.length) (n := l2.length) (f' := f') (cells := l.map f) (new := l2.map f) ho ht (by simp) (by simp) h0 hfit
  simpa [OS] using this
/-- append(own, part of another block) -/
theorem op_appMO {b' bytes c lo n : Nat} {Tc : TypeId} (hs : ∀ a, (f a).scalar = true) (ho : o.op = .call { callee := .builtin .append, args := #[x, y], argTypes := ts }) (ht : appT P ts = some (T, 1, bytes))
    (hn : lo + n ≤ l2.length) (hfit : (l.length + n) * bytes ≤ 140737488355328) :
    OpV P o [OS b full l, .os c lo n 1 f'] [(b, .vec T (l.map f)), (c, .vec Tc (l2.map f))] [b'] (OS b' false (l ++ (l2.drop lo).take n))
      [(b', .vec T ((l ++ (l2.drop lo).take n).map f)), (c, .vec Tc (l2.map f))] := by
  have := op_appO (P := P) (b := b) (b' := b') (c := c) (Tc := Tc) (len := l.length) (n := n) (offc := lo) (full := full) (f' := f') (cells := l.map f) (cs2 := l2.map f) ho ht (by simp) (by simpa using hn)
    (by simp only [List.all_eq_true]; intro a ha; obtain ⟨w, _, rfl⟩ := List.mem_map.1 (List.mem_of_mem_drop (List.mem_of_mem_take ha)); exact hs w) hfit
  have e1 : ((l2.drop lo).take n).length = n := by simp; omega
  simpa [OS, List.map_append, List.map_take, List.map_drop, e1, Nat.min_eq_left (show n ≤ l2.length - lo by omega)] using this
/-- copy(part of a block, data) -/
theorem op_copyM {t0 : TypeId} {lo : Nat} (hs : ∀ a, (f a).scalar = true) (ho : o.op = .call { callee := .builtin .copy, args := #[x, y], argTypes := ts }) (ht0 : ts[0]? = some t0) (ht : slT P t0 = some (e, 1, by'))
    (hc : lo + len ≤ l.length) :
    OpV P o [.os b lo len 1 full, VS f f' l2] [(b, .vec T (l.map f))] [] (.i (min l2.length len : Nat)) [(b, .vec T ((l.take lo ++ l2.take (min l2.length len) ++ l.drop (lo + min l2.length len)).map f))] := by
  have := op_copyV (P := P) (b := b) (T := T) (off := lo) (len := len) (m := l2.length) (full := full) (f' := f') (cells := l.map f) (src := l2.map f) ho ht0 ht (by simpa using hc) (by simp) (by simp [hs])
  simpa [List.map_append, List.map_take, List.map_drop] using this
/-- copy(part of a block, part of another block) -/
theorem op_copyMO {t0 : TypeId} {lo c lo2 m : Nat} {Tc : TypeId} (hs : ∀ a, (f a).scalar = true) (ho : o.op = .call { callee := .builtin .copy, args := #[x, y], argTypes := ts }) (ht0 : ts[0]? = some t0) (ht : slT P t0 = some (e, 1, by'))
    (hc : lo + len ≤ l.length) (hm : lo2 + m ≤ l2.length) :
    OpV P o [.os b lo len 1 full, .os c lo2 m 1 f'] [(b, .vec T (l.map f)), (c, .vec Tc (l2.map f))] [] (.i (min m len : Nat))
      [(b, .vec T ((l.take lo ++ (l2.drop lo2).take (min m len) ++ l.drop (lo + min m len)).map f)), (c, .vec Tc (l2.map f))] := by
  have := op_copyO (P := P) (b := b) (T := T) (c := c) (Tc := Tc) (off := lo) (len := len) (m := m) (offc := lo2) (full := full) (f' := f') (cells := l.map f) (cs2 := l2.map f) ho ht0 ht (by simpa using hc) (by simpa using hm)
    (by simp only [List.all_eq_true]; intro a ha; obtain ⟨w, _, rfl⟩ := List.mem_map.1 (List.mem_of_mem_drop (List.mem_of_mem_take ha)); exact hs w)
  simpa [List.map_append, List.map_take, List.map_drop, List.take_take] using this
end
end Go.Kw

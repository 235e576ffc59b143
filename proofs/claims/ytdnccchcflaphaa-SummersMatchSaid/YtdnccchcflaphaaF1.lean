import Derived.Orders
namespace Go.Kw

/-- Abstract values. -/
inductive AVal where
  | int (k : IntKind) (n : Int)
  | bool (b : Bool)
  | str (s : List UInt8)
  | nilp
  | ptr (b off : Nat)
  | vptr (cells : List AVal) (off : Nat)
  | vs (len : Nat) (full : Bool) (cells : List AVal)
  | os (b off len sz : Nat) (full : Bool)
  | nilm
  | ns (nil : Bool)
  | mp (b : Nat)
  | nilf
  | fn (f : FuncId) (first captured : List AVal)
  | agg (cells : List AVal)
  | tup (vs : List AVal)
  deriving Inhabited

inductive AObj where
  | vec (T : TypeId) (cells : List AVal)
  | map (entries : List (AVal × AVal))
  deriving Inhabited

abbrev AHeap := List (Nat × AObj)
abbrev Env := List (Nat × AVal)

/-- The values stand in block c from base on. -/
def Reads (w : World) (c base : Nat) (vals : List Value) : Prop :=
  ∀ i (h : i < vals.length), w.cell? ⟨c, base + i, none⟩ = some vals[i]

mutual
def VRel (P : Program) (ρ : Nat → Option Nat) (Im : Nat → Prop) (w : World) : AVal → Value → Prop
  | .int k n, v => v = .int k n
  | .bool b, v => v = .bool b
  | .str s, v => v = .string ⟨s.toArray⟩
  | .nilp, v => v = .pointer none
  | .ptr b off, v => ∃ c, ρ b = some (c + 1) ∧ v = .pointer (some ⟨c, off, none⟩)
  | .vptr cells off, v => ∃ c base vals, v = .pointer (some ⟨c, base + off, none⟩) ∧ Im c ∧ Reads w c base vals ∧ VRels P ρ Im w cells vals
  | .vs len full cells, v => ∃ a cap, v = .slice a len cap ∧ len ≤ cap ∧ (full = true → cap = len) ∧
      (cells = [] ∨ ∃ c base vals, a = some ⟨c, base, none⟩ ∧ Im c ∧ Reads w c base vals ∧ VRels P ρ Im w cells vals)
  | .os b off len sz full, v => ((∃ c, ρ b = some c) ∧ len = 0 ∧ ∃ a, v = .slice a 0 0) ∨
      ∃ c cap T n, ρ b = some (c + 1) ∧ v = .slice (some ⟨c, off, none⟩) len cap ∧ len ≤ cap ∧ (full = true → cap = len) ∧
      w.shape? c = some (T, n) ∧ off + cap * sz ≤ n
  | .nilm, v => v = .map none
  | .ns nil, v => ∃ a cap, v = .slice a 0 cap ∧ a.isNone = nil
  | .mp b, v => ∃ c, ρ b = some (c + 1) ∧ v = .map (some c)
  | .nilf, v => v = .nilFunc
  | .fn f first captured, v => ∃ as bs, v = .func (.func f) as bs ∧ VRels P ρ Im w first as.toList ∧ VRels P ρ Im w captured bs.toList
  | .agg cells, v => ∃ cs, v = .agg cs ∧ VRels P ρ Im w cells cs.toList
  | .tup vs, v => ∃ cs, v = .tuple cs ∧ VRels P ρ Im w vs cs.toList
def VRels (P : Program) (ρ : Nat → Option Nat) (Im : Nat → Prop) (w : World) : List AVal → List Value → Prop
  | [], vs => vs = []
  | a :: as, vs => ∃ v vs', vs = v :: vs' ∧ VRel P ρ Im w a v ∧ VRels P ρ Im w as vs'
end

end Go.Kw

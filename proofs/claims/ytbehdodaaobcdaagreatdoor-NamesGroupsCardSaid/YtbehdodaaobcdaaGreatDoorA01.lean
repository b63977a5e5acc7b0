import Derived.WalkKit
import Derived.KernelRfl
import Derived.Deep.Quiet
import Derived.StillTail
set_option maxHeartbeats 4000000
namespace Go.AM

inductive SV where
  | any
  | con (k : IntKind) (n : Int)
  | sym (k : IntKind) (n : Int)
  | cb (b : Bool)
  | sb (b : Bool)
  | cstr (s : List UInt8)
  | str (s : List UInt8)
  | ptr (b off : Nat)
  | nilp
  | sl (b off len cap : Nat)
  | ow (b esz st len : Nat) (lit : Bool)
  | pe (b esz idx sub : Nat)
  | rs (b esz len cap : Nat)
  | rp (b esz idx sub : Nat)
  | nils
  | mp (b : Nat)
  | yld (b : Nat)
  | fn (f : Nat) (cap : List (Nat × Nat))
  | nilf
  | nili
  | ifp (t b off : Nat)
  | ifi (t : Nat) (k : IntKind) (n : Int)

inductive PV where
  | one (s : SV)
  | agg (l : List SV)

inductive AV where
  | v (p : PV)
  | tup (l : List PV)

def AV.any : AV := .v (.one .any)
def AV.undef : AV := .tup []

structure Pl where
  blk : Nat
  nil : Bool
  cap : Nat

def addrOf (pl : List Pl) (b off : Nat) : Option Addr := match pl[b]? with | some p => some ⟨p.blk, off, none⟩ | none => none
def capVals (pl : List Pl) : List (Nat × Nat) → Option (List Value)
  | [] => some []
  | (b, o) :: l => match addrOf pl b o, capVals pl l with
    | some a, some r => some (.pointer (some a) :: r)
    | _, _ => none
def owVal (pl : List Pl) (b esz st len : Nat) : Option Value := match pl[b]? with
  | some p => if p.nil then (if st = 0 ∧ len = 0 then some (.slice none 0 0) else none) else some (.slice (some ⟨p.blk, (if len = 0 ∧ p.cap = st then 0 else st * esz), none⟩) len (p.cap - st))
  | none => none
def rsVal (pl : List Pl) (b len cap : Nat) : Option Value := match pl[b]? with
  | some p => if p.nil then (if len = 0 ∧ cap = 0 then some (.slice none 0 0) else none) else some (.slice (some ⟨p.blk, p.cap, none⟩) len cap)
  | none => none
def rpVal (pl : List Pl) (b n : Nat) : Option Value := match pl[b]? with
  | some p => some (.pointer (some ⟨p.blk, p.cap + n, none⟩))
  | none => none
def SV.val (pl : List Pl) : SV → Option Value
  | .any => none
  | .con k n => some (.int k n)
  | .sym k n => some (.int k n)
  | .cb b => some (.bool b)
  | .sb b => some (.bool b)
  | .cstr s => some (.string ⟨s.toArray⟩)
  | .str s => some (.string ⟨s.toArray⟩)
  | .ptr b off => match addrOf pl b off with | some a => some (.pointer (some a)) | none => none
  | .nilp => some (.pointer none)
  | .sl b off len cap => match addrOf pl b off with | some a => some (.slice (some a) len cap) | none => none
  | .ow b esz st len _ => owVal pl b esz st len
  | .pe b esz idx sub => match addrOf pl b (idx * esz + sub) with | some a => some (.pointer (some a)) | none => none
  | .rs b _ len cap => rsVal pl b len cap
  | .rp b esz idx sub => rpVal pl b (idx * esz + sub)
  | .nils => some (.slice none 0 0)
  | .mp b => match pl[b]? with | some p => some (.map (some p.blk)) | none => none
  | .yld b => match pl[b]? with | some p => some (.func (.yield p.blk) #[] #[]) | none => none
  | .fn f cap => match capVals pl cap with | some vs => some (.func (.func f) #[] vs.toArray) | none => none
  | .nilf => some .nilFunc
  | .nili => some .nilIface
  | .ifp t b off => match addrOf pl b off with | some a => some (.iface t (.pointer (some a))) | none => none
  | .ifi t k n => some (.iface t (.int k n))
def SV.R (pl : List Pl) (s : SV) (v : Value) : Prop := s = .any ∨ s.val pl = some v
def RL (pl : List Pl) : List SV → List Value → Prop
  | [], [] => True
  | s :: l, v :: vs => s.R pl v ∧ RL pl l vs
  | _, _ => False
def SV.known : SV → Bool
  | .any => false
  | _ => true
def knownAll : List SV → Bool
  | [] => true
  | s :: l => s.known && knownAll l
def SV.below (n : Nat) : SV → Bool
  | .ptr b _ => decide (b < n)
  | .sl b _ _ _ => decide (b < n)
  | .ow b _ _ _ _ => decide (b < n)
  | .pe b _ _ _ => decide (b < n)
  | .rs b _ _ _ => decide (b < n)
  | .rp b _ _ _ => decide (b < n)
  | .mp b => decide (b < n)
  | .yld b => decide (b < n)
  | .fn _ cap => cap.all (fun x => decide (x.1 < n))
  | .ifp _ b _ => decide (b < n)
  | _ => true
def belowAll (n : Nat) : List SV → Bool
  | [] => true
  | s :: l => s.below n && belowAll n l
structure Codec where
  τ : Type
  esz : Nat
  enc : τ → List SV
  dec : List SV → Option τ
  d : τ
  len_ok : ∀ t, (enc t).length = esz
  known_ok : ∀ t, knownAll (enc t) = true
  dec_ok : ∀ l t pl vs, dec l = some t → RL pl l vs → RL pl (enc t) vs
  low_ok : ∀ t n, belowAll n (enc t) = true
  deq : DecidableEq τ
def flatC (C : Codec) : List C.τ → List SV
  | [] => []
  | t :: l => C.enc t ++ flatC C l

inductive SameRows (C' : Codec) (xs' : List C'.τ) (C : Codec) (xs : List C.τ) : Prop
  | mk (hl : xs'.length = xs.length) (hf : flatC C' xs' = flatC C xs)
inductive Jmp where
  | none | ret | exit (id : Nat)
inductive Blk where
  | gone
  | row (T : Nat) (cells : List SV)
  | own (T : Nat) (C : Codec) (xs : List C.τ)
  | ownL (T esz n : Nat) (cells : List SV)
  | ro (T : Nat) (C : Codec) (xs : List C.τ)
  | omp (C : Codec) (es : List (C.τ × Int))
  | sit (lit : Bool) (s : List UInt8) (pos : Nat)
  /-- the record of a loop over a function, while no round is under way -/
  | lp (e : List AV) (ps : Array Tmp) (asg body : Code) (j : Jmp)
  | mp (es : List (PV × PV))

abbrev Heap := List Blk
abbrev Env := List AV

def forceN {β : Type _} : Nat → (Nat → β) → β
  | 0, K => K 0
  | n + 1, K => K (n + 1)
theorem forceN_eq {β : Type _} (n : Nat) (K : Nat → β) : forceN n K = K n := by cases n <;> rfl
def forceB {β : Type _} : List UInt8 → (List UInt8 → β) → β
  | [], K => K []
  | b :: l, K => forceN b.toNat (fun n => forceB l (fun r => K (UInt8.ofNat n :: r)))
theorem forceB_eq {β : Type _} : ∀ (l : List UInt8) (K : List UInt8 → β), forceB l K = K l
  | [], _ => rfl
  | b :: l, K => by simp only [forceB, forceN_eq, UInt8.ofNat_toNat]; rw [forceB_eq l]
def shortB : Nat → List UInt8 → Bool
  | 0, _ => false
  | _ + 1, [] => true
  | n + 1, _ :: l => shortB n l
def forceL {β : Type _} (l : List UInt8) (K : List UInt8 → β) : β := match shortB 80 l with
  | true => forceB l K
  | false => K l
theorem forceL_eq {β : Type _} (l : List UInt8) (K : List UInt8 → β) : forceL l K = K l := by
  unfold forceL
  split
  · exact forceB_eq l K
  · rfl
def forceS {β : Type _} : List SV → (List SV → β) → β
  | [], K => K []
  | .any :: l, K => forceS l (fun l => K (.any :: l))
  | .con k n :: l, K => match n with
    | .ofNat 0 => forceS l (fun l => K (.con k (.ofNat 0) :: l))
    | .ofNat (m + 1) => forceS l (fun l => K (.con k (.ofNat (m + 1)) :: l))
    | .negSucc 0 => forceS l (fun l => K (.con k (.negSucc 0) :: l))
    | .negSucc (m + 1) => forceS l (fun l => K (.con k (.negSucc (m + 1)) :: l))
  | .sym k n :: l, K => forceS l (fun l => K (.sym k n :: l))
  | .cb b :: l, K => forceS l (fun l => K (.cb b :: l))
  | .sb b :: l, K => forceS l (fun l => K (.sb b :: l))
  | .cstr b :: l, K => forceL b (fun b => forceS l (fun l => K (.cstr b :: l)))
  | .str b :: l, K => forceS l (fun l => K (.str b :: l))
  | .ptr b o :: l, K => forceS l (fun l => K (.ptr b o :: l))
  | .nilp :: l, K => forceS l (fun l => K (.nilp :: l))
  | .sl b o n c :: l, K => forceS l (fun l => K (.sl b o n c :: l))
  | .ow b z s n q :: l, K => forceS l (fun l => K (.ow b z s n q :: l))
  | .pe b z i o :: l, K => forceS l (fun l => K (.pe b z i o :: l))
  | .rs b z n c :: l, K => forceS l (fun l => K (.rs b z n c :: l))
  | .rp b z i o :: l, K => forceS l (fun l => K (.rp b z i o :: l))
  | .nils :: l, K => forceS l (fun l => K (.nils :: l))
  | .mp b :: l, K => forceS l (fun l => K (.mp b :: l))
  | .yld b :: l, K => forceS l (fun l => K (.yld b :: l))
  | .fn f c :: l, K => forceS l (fun l => K (.fn f c :: l))
  | .nilf :: l, K => forceS l (fun l => K (.nilf :: l))
  | .nili :: l, K => forceS l (fun l => K (.nili :: l))
  | .ifp t b o :: l, K => forceS l (fun l => K (.ifp t b o :: l))
  | .ifi t k n :: l, K => forceS l (fun l => K (.ifi t k n :: l))
def forceP {β : Type _} : List PV → (List PV → β) → β
  | [], K => K []
  | .one s :: l, K => forceS [s] (fun c => match c with
    | [s] => forceP l (fun l => K (.one s :: l))
    | _ => forceP l (fun l => K (.one s :: l)))
  | .agg c :: l, K => forceS c (fun c => forceP l (fun l => K (.agg c :: l)))
def forceE {β : Type _} : Env → (Env → β) → β
  | [], K => K []
  | .v (.one s) :: l, K => forceS [s] (fun c => match c with
    | [s] => forceE l (fun l => K (.v (.one s) :: l))
    | _ => forceE l (fun l => K (.v (.one s) :: l)))
  | .v (.agg c) :: l, K => forceS c (fun c => forceE l (fun l => K (.v (.agg c) :: l)))
  | .tup c :: l, K => forceP c (fun c => forceE l (fun l => K (.tup c :: l)))
def forceH {β : Type _} : Heap → (Heap → β) → β
  | [], K => K []
  | .gone :: l, K => forceH l (fun l => K (.gone :: l))
  | .row T cs :: l, K => forceS cs (fun cs => forceH l (fun l => K (.row T cs :: l)))
  | .own T C xs :: l, K => forceH l (fun l => K (.own T C xs :: l))
  | .ro T C xs :: l, K => forceH l (fun l => K (.ro T C xs :: l))
  | .omp C es :: l, K => forceH l (fun l => K (.omp C es :: l))
  | .lp e ps c d j :: l, K => forceH l (fun l => K (.lp e ps c d j :: l))
  | .sit true s 0 :: l, K => forceH l (fun l => K (.sit true s 0 :: l))
  | .sit true s (n + 1) :: l, K => forceH l (fun l => K (.sit true s (n + 1) :: l))
  | .sit false s n :: l, K => forceH l (fun l => K (.sit false s n :: l))
  | .ownL T z n cs :: l, K => forceS cs (fun cs => forceH l (fun l => K (.ownL T z n cs :: l)))
  | .mp es :: l, K => forceH l (fun l => K (.mp es :: l))
theorem forceS_eq {β : Type _} : ∀ (l : List SV) (K : List SV → β), forceS l K = K l
  | [], _ => rfl
  | .con k n :: l, K => by
    rcases n with n | n
    · cases n <;> (simp only [forceS]; rw [forceS_eq l])
    · cases n <;> (simp only [forceS]; rw [forceS_eq l])
  | .any :: l, K => by simp only [forceS]; rw [forceS_eq l]
  | .sym _ _ :: l, K => by simp only [forceS]; rw [forceS_eq l]
  | .cb _ :: l, K => by simp only [forceS]; rw [forceS_eq l]
  | .sb _ :: l, K => by simp only [forceS]; rw [forceS_eq l]
  | .cstr _ :: l, K => by simp only [forceS, forceL_eq]; rw [forceS_eq l]
  | .str _ :: l, K => by simp only [forceS]; rw [forceS_eq l]
  | .ptr _ _ :: l, K => by simp only [forceS]; rw [forceS_eq l]
  | .nilp :: l, K => by simp only [forceS]; rw [forceS_eq l]
  | .sl _ _ _ _ :: l, K => by simp only [forceS]; rw [forceS_eq l]
  | .ow _ _ _ _ _ :: l, K => by simp only [forceS]; rw [forceS_eq l]
  | .pe _ _ _ _ :: l, K => by simp only [forceS]; rw [forceS_eq l]
  | .rs _ _ _ _ :: l, K => by simp only [forceS]; rw [forceS_eq l]
  | .rp _ _ _ _ :: l, K => by simp only [forceS]; rw [forceS_eq l]
  | .nils :: l, K => by simp only [forceS]; rw [forceS_eq l]
  | .mp _ :: l, K => by simp only [forceS]; rw [forceS_eq l]
  | .yld _ :: l, K => by simp only [forceS]; rw [forceS_eq l]
  | .fn _ _ :: l, K => by simp only [forceS]; rw [forceS_eq l]
  | .nilf :: l, K => by simp only [forceS]; rw [forceS_eq l]
  | .nili :: l, K => by simp only [forceS]; rw [forceS_eq l]
  | .ifp _ _ _ :: l, K => by simp only [forceS]; rw [forceS_eq l]
  | .ifi _ _ _ :: l, K => by simp only [forceS]; rw [forceS_eq l]
theorem forceP_eq {β : Type _} : ∀ (l : List PV) (K : List PV → β), forceP l K = K l
  | [], _ => rfl
  | p :: l, K => by
    cases p with
    | one s => simp only [forceP, forceS_eq]; rw [forceP_eq l]
    | agg c => simp only [forceP, forceS_eq]; rw [forceP_eq l]
theorem forceE_eq {β : Type _} : ∀ (l : Env) (K : Env → β), forceE l K = K l
  | [], _ => rfl
  | .v (.one s) :: l, K => by simp only [forceE, forceS_eq]; rw [forceE_eq l]
  | .v (.agg c) :: l, K => by simp only [forceE, forceS_eq]; rw [forceE_eq l]
  | .tup c :: l, K => by simp only [forceE, forceP_eq]; rw [forceE_eq l]
theorem forceH_eq {β : Type _} : ∀ (l : Heap) (K : Heap → β), forceH l K = K l
  | [], _ => rfl
  | b :: l, K => by
    cases b with
    | sit c s n => cases c <;> cases n <;> (simp only [forceH]; rw [forceH_eq l])
    | _ => all_goals (simp only [forceH, forceS_eq]; rw [forceH_eq l])

def getD {α : Type _} : List α → Nat → α → α
  | [], _, d => d
  | a :: _, 0, _ => a
  | _ :: l, n + 1, d => getD l n d
def get? {α : Type _} : List α → Nat → Option α
  | [], _ => none
  | a :: _, 0 => some a
  | _ :: l, n + 1 => get? l n
def set {α : Type _} : List α → Nat → α → List α
  | [], _, _ => []
  | _ :: l, 0, x => x :: l
  | a :: l, n + 1, x => a :: set l n x
def takeE {α : Type _} : Nat → List α → Option (List α)
  | 0, _ => some []
  | _ + 1, [] => none
  | n + 1, a :: l => match takeE n l with | some r => some (a :: r) | none => none
def dropN {α : Type _} : Nat → List α → List α
  | 0, l => l
  | _ + 1, [] => []
  | n + 1, _ :: l => dropN n l
def takeN {α : Type _} : Nat → List α → List α
  | 0, _ => []
  | _ + 1, [] => []
  | n + 1, a :: l => a :: takeN n l
def over {α : Type _} : List α → Nat → List α → Option (List α)
  | l, 0, [] => some l
  | [], 0, _ :: _ => none
  | _ :: l, 0, y :: ys => match over l 0 ys with | some r => some (y :: r) | none => none
  | [], _ + 1, _ => none
  | a :: l, n + 1, ys => match over l n ys with | some r => some (a :: r) | none => none
def len' {α : Type _} : List α → Nat
  | [] => 0
  | _ :: l => len' l + 1

def app {α : Type _} : List α → List α → List α
  | [], m => m
  | a :: l, m => a :: app l m

def size? (P : Program) (t : Nat) : Option Nat := match P.info? t with | some i => some i.size | none => none
def isAggT (P : Program) (t : Nat) : Option Bool := match P.underlying t with | some (.struct _) => some true | some (.array ..) => some true | some _ => some false | none => none

def ofVal : Value → SV
  | .int k n => .con k n
  | .bool b => .cb b
  | .string s => .cstr s.data.toList
  | .pointer none => .nilp
  | .slice none 0 0 => .nils
  | .nilFunc => .nilf
  | .nilIface => .nili
  | _ => .any
def ofVals : List Value → List SV
  | [] => []
  | v :: l => ofVal v :: ofVals l
def ofValue : Value → PV
  | .agg cs => .agg (ofVals cs.toList)
  | v => .one (ofVal v)
def zeroOf (P : Program) (t : Nat) : Option PV := match P.info? t with | some i => (match i.zero with | some z => some (ofValue z) | none => none) | none => none

def PV.cells : PV → List SV
  | .one s => [s]
  | .agg l => l

def PV.known : PV → Bool
  | .one s => s.known
  | .agg l => knownAll l

inductive OR where
  | fail
  | ok (v : AV)
  | iff (p : Prop) (v : AV)

def cmpI (op : BinOp) (x y : Int) : Option Bool :=
  match op with
  | .eql => some (decide (x = y))
  | .neq => some (!decide (x = y))
  | .lss => some (decide (x < y))
  | .leq => some (decide (x ≤ y))
  | .gtr => some (decide (y < x))
  | .geq => some (decide (y ≤ x))
  | _ => none

def arith (op : BinOp) (k : IntKind) (x y : Int) : Option Int :=
  match op with
  | .add => some (k.wrap (x + y))
  | .sub => some (k.wrap (x - y))
  | .mul => some (k.wrap (x * y))
  | _ => none

def mkI (c : Bool) (k : IntKind) (n : Int) : AV := .v (.one (if c then .con k n else .sym k n))
def mkB (c : Bool) (b : Bool) : AV := .v (.one (if c then .cb b else .sb b))

def divI (op : BinOp) (k : IntKind) (x y : Int) : Option Int :=
  match op with
  | .quo => some (k.wrap (x.tdiv y))
  | .rem => some (x.tmod y)
  | _ => none

def bitI (op : BinOp) (k : IntKind) (x y : Int) : Option Int :=
  match op with
  | .and => some (k.wrap ((BitVec.ofInt k.bits x &&& BitVec.ofInt k.bits y).toNat))
  | .or => some (k.wrap ((BitVec.ofInt k.bits x ||| BitVec.ofInt k.bits y).toNat))
  | .xor => some (k.wrap ((BitVec.ofInt k.bits x ^^^ BitVec.ofInt k.bits y).toNat))
  | .andNot => some (k.wrap ((BitVec.ofInt k.bits x &&& ~~~ BitVec.ofInt k.bits y).toNat))
  | _ => none
def aInt (op : BinOp) (k : IntKind) (x y : Int) (xc : Bool) (yc : Bool) : OR :=
  match arith op k x y with
  | some r => .ok (mkI (xc && yc) k r)
  | none => match divI op k x y with
    | some r => if yc then (if y = 0 then .fail else .ok (mkI xc k r)) else .iff (y ≠ 0) (mkI false k r)
    | none => match cmpI op x y with
      | some b => .ok (mkB (xc && yc) b)
      | none => match bitI op k x y with
        | some r => .ok (mkI (xc && yc) k r)
        | none => .fail

def eqB (op : BinOp) (c : Bool) (b : Bool) : OR :=
  match op with
  | .eql => .ok (mkB c b)
  | .neq => .ok (mkB c (!b))
  | _ => .fail

def strB (op : BinOp) (c : Bool) (x y : List UInt8) : OR :=
  match op with
  | .add => .iff (((x.length + y.length : Nat) : Int) ≤ IntKind.i64.max) (.v (.one (if c then .cstr (x ++ y) else .str (x ++ y))))
  | .eql => .ok (mkB c (decide (x = y)))
  | .neq => .ok (mkB c (!decide (x = y)))
  | _ => .fail

def aBin (op : BinOp) (x y : SV) : OR :=
  match x, y with
  | .con k a, .con k' b => if k = k' then aInt op k a b true true else .fail
  | .con k a, .sym k' b => if k = k' then aInt op k a b true false else .fail
  | .sym k a, .con k' b => if k = k' then aInt op k a b false true else .fail
  | .sym k a, .sym k' b => if k = k' then aInt op k a b false false else .fail
  | .cstr a, .cstr b => strB op true a b
  | .cstr a, .str b => strB op false a b
  | .str a, .cstr b => strB op false a b
  | .str a, .str b => strB op false a b
  | _, _ => .fail

def isSh : BinOp → Bool
  | .shl => true
  | .shr => true
  | _ => false
def shI (op : BinOp) (k : IntKind) (x y : Int) : Int :=
  match op with
  | .shl => k.wrap (x * 2 ^ min y.toNat k.bits)
  | _ => x.fdiv (2 ^ min y.toNat k.bits)
def aSh (op : BinOp) (x y : SV) : OR :=
  match x, y with
  | .con k a, .con _ b => if 0 ≤ b then .ok (mkI true k (shI op k a b)) else .fail
  | .con k a, .sym _ b => .iff (0 ≤ b) (mkI false k (shI op k a b))
  | .sym k a, .con _ b => if 0 ≤ b then .ok (mkI false k (shI op k a b)) else .fail
  | .sym k a, .sym _ b => .iff (0 ≤ b) (mkI false k (shI op k a b))
  | _, _ => .fail

def aUn (op : UnOp) (x : SV) : OR :=
  match op, x with
  | .neg, .con k a => .ok (mkI true k (k.wrap (0 - a)))
  | .neg, .sym k a => .ok (mkI false k (k.wrap (0 - a)))
  | .not, .cb b => .ok (mkB true (!b))
  | .not, .sb b => .ok (mkB false (!b))
  | _, _ => .fail

def partOf (P : Program) (t : Nat) (cs : List SV) (off : Nat) : Option PV :=
  match isAggT P t, size? P t with
  | some true, some n => (match takeE n (dropN off cs) with | some l => some (.agg l) | none => none)
  | some false, _ => (match get? cs off with | some s => some (.one s) | none => none)
  | _, _ => none

def loadV (P : Program) (t : Nat) (h : Heap) (b off : Nat) : Option PV :=
  match get? h b with
  | some (.row _ cs) => (match partOf P t cs off with | some p => if p.known then some p else none | none => none)
  | some (.ownL _ _ _ cs) => (match partOf P t cs off with | some p => if p.known then some p else none | none => none)
  | _ => none
def loadE (P : Program) (t : Nat) (h : Heap) (b esz idx sub : Nat) : OR :=
  match get? h b with
  | some (.own _ C xs) => if C.esz = esz then (match partOf P t (C.enc (xs.getD idx C.d)) sub with | some p => if p.known then .iff (idx < xs.length) (.v p) else .fail | none => .fail) else .fail
  | _ => .fail
def loadR (P : Program) (t : Nat) (h : Heap) (b esz idx sub : Nat) : OR :=
  match get? h b with
  | some (.ro _ C xs) => if C.esz = esz then (match partOf P t (C.enc (xs.getD idx C.d)) sub with | some p => if p.known then .iff (idx < xs.length) (.v p) else .fail | none => .fail) else .fail
  | _ => .fail

def storeV (P : Program) (t : Nat) (h : Heap) (b off : Nat) (p : PV) : Option Heap :=
  match get? h b with
  | some (.row T cs) => if p.known && decide (size? P t = some (len' p.cells)) then (match over cs off p.cells with | some cs' => some (set h b (.row T cs')) | none => none) else none
  | some (.ownL T esz n cs) => if p.known && decide (size? P t = some (len' p.cells)) && decide (0 < len' p.cells) then (match over cs off p.cells with | some cs' => some (set h b (.ownL T esz n cs')) | none => none) else none
  | _ => none
def storeE (P : Program) (t : Nat) (h : Heap) (b esz idx sub : Nat) (p : PV) (K : Heap → Prop) : Prop :=
  match get? h b with
  | some (.own T C xs) => if p.known && decide (C.esz = esz) && decide (size? P t = some (len' p.cells)) && decide (0 < len' p.cells) then (match over (C.enc (xs.getD idx C.d)) sub p.cells with
    | some cs' => (match C.dec cs' with | some y => idx < xs.length ∧ K (set h b (.own T C (xs.set idx y))) | none => False)
    | none => False) else False
  | _ => False

def scalEq : SV → SV → Option (Bool × Bool)
  | .con k a, .con k' b => if k = k' then some (true, decide (a = b)) else none
  | .con k a, .sym k' b => if k = k' then some (false, decide (a = b)) else none
  | .sym k a, .con k' b => if k = k' then some (false, decide (a = b)) else none
  | .sym k a, .sym k' b => if k = k' then some (false, decide (a = b)) else none
  | .cb a, .cb b => some (true, a == b)
  | .cb a, .sb b => some (false, a == b)
  | .sb a, .cb b => some (false, a == b)
  | .sb a, .sb b => some (false, a == b)
  | .cstr a, .cstr b => some (true, decide (a = b))
  | .cstr a, .str b => some (false, decide (a = b))
  | .str a, .cstr b => some (false, decide (a = b))
  | .str a, .str b => some (false, decide (a = b))
  | _, _ => none
def tyFit : TypeDesc → SV → Bool
  | .int _, .con .. => true
  | .int _, .sym .. => true
  | .bool, .cb _ => true
  | .bool, .sb _ => true
  | .string, .cstr _ => true
  | .string, .str _ => true
  | _, _ => false
def aEqL (P : Program) (f : Nat → PV → PV → Option (Bool × Bool)) (xs ys : List SV) : List (Nat × Nat) → Option (Bool × Bool)
  | [] => some (true, true)
  | (t, off) :: l => match partOf P t xs off, partOf P t ys off with
    | some p, some q => (match f t p q, aEqL P f xs ys l with
      | some (c1, b1), some (c2, b2) => some (c1 && c2, b1 && b2)
      | _, _ => none)
    | _, _ => none
def fieldPl : List Field → List (Nat × Nat)
  | [] => []
  | f :: l => if f.name ≠ "_" then (f.type, f.offset) :: fieldPl l else fieldPl l
def arrPl (e sz : Nat) : Nat → Nat → List (Nat × Nat)
  | 0, _ => []
  | n + 1, i => (e, i * sz) :: arrPl e sz n (i + 1)
def aEq (P : Program) : Nat → Nat → PV → PV → Option (Bool × Bool)
  | 0, _, _, _ => none
  | m + 1, t, p, q => match P.underlying t, p, q with
    | some (.struct fs), .agg xs, .agg ys => if P.stoodInHeld t then none else aEqL P (aEq P m) xs ys (fieldPl fs.toList)
    | some (.array n e), .agg xs, .agg ys => (match size? P e with | some sz => aEqL P (aEq P m) xs ys (arrPl e sz n 0) | none => none)
    | some d, .one a, .one b => if tyFit d a && tyFit d b then scalEq a b else none
    | _, _, _ => none
def cmpV (P : Program) (op : BinOp) (t : Nat) (p q : PV) : OR :=
  match aEq P 20 t p q with
  | some (c, b) => eqB op c b
  | none => .fail
def SV.isB : SV → Bool
  | .cb _ => true
  | .sb _ => true
  | _ => false
def splitIx (i : Int) (K : Nat → Prop) : Nat → Prop
  | 0 => True
  | n + 1 => splitIx i K n ∧ (i = (n : Int) → K n)

def fillP (place : Nat → Option (Nat × Nat)) (cells : List SV) : List (Nat × PV) → Option (List SV)
  | [] => some cells
  | (i, v) :: rest => match place i with
    | none => none
    | some (off, size) => if v.known && decide (len' v.cells = size) then (match over cells off v.cells with | some cs => fillP place cs rest | none => none) else none

def ev (env : Env) : Operand → AV
  | .tmp t => getD env t AV.any
  | .const v => .v (ofValue v)
  | .global _ => AV.any
  | .func f => .v (.one (.fn f []))

def evParts (env : Env) : List (Nat × Operand) → Option (List (Nat × PV))
  | [] => some []
  | (i, o) :: r => match ev env o, evParts env r with
    | .v p, some l => some ((i, p) :: l)
    | _, _ => none

def arrPlace (P : Program) (e : Nat) : Option (Nat → Option (Nat × Nat)) := match size? P e with | some n => some (fun i => some (i * n, n)) | none => none
def fieldPlaces (P : Program) : List Field → Option (List (Nat × Nat))
  | [] => some []
  | f :: l => match size? P f.type, fieldPlaces P l with
    | some n, some r => some ((f.offset, n) :: r)
    | _, _ => none

def buildV (P : Program) (t : Nat) (ps : List (Nat × PV)) : Option (List SV) :=
  match zeroOf P t with
  | some z => match P.underlying t with
    | some (.array _ e) => (match arrPlace P e with | some pl => fillP pl z.cells ps | none => none)
    | some (.struct fs) => (match fieldPlaces P fs.toList with | some pl => fillP (fun i => get? pl i) z.cells ps | none => none)
    | _ => none
  | none => none

def caps (env : Env) : List Operand → Option (List (Nat × Nat))
  | [] => some []
  | x :: l => match ev env x, caps env l with
    | .v (.one (.ptr b off)), some r => some ((b, off) :: r)
    | _, _ => none

def ofOpt (r : Option PV) : OR := match r with | some p => .ok (.v p) | none => .fail

def litS : SV → SV → Bool
  | .con k a, .con k' b => decide (k = k') && decide (a = b)
  | .cb a, .cb b => a == b
  | .cstr a, .cstr b => decide (a = b)
  | _, _ => false
def litL : List SV → List SV → Bool
  | [], [] => true
  | a :: l, b :: m => litS a b && litL l m
  | _, _ => false
def litEq : PV → PV → Bool
  | .one a, .one b => litS a b
  | .agg a, .agg b => litL a b
  | _, _ => false
def aGet (P : Program) (kt : Nat) (k : PV) : List (PV × PV) → Option (Option PV)
  | [] => some none
  | (k', v) :: l => match aEq P 20 kt k k' with
    | some (true, b) => if b then some (some v) else aGet P kt k l
    | _ => none
def aPut (P : Program) (kt : Nat) (k v : PV) : List (PV × PV) → Option (List (PV × PV))
  | [] => some [(k, v)]
  | (k', v') :: l => match aEq P 20 kt k k' with
    | some (true, b) => if b then (if litEq k' k then some ((k, v) :: l) else none) else (match aPut P kt k v l with | some r => some ((k', v') :: r) | none => none)
    | _ => none
def keyOk (P : Program) (kt : Nat) (k : PV) : Bool := match aEq P 20 kt k k with | some _ => true | none => false
def mix {α : Type} (d : DecidableEq α) (x : α) : List (α × Int) → Nat → Option (Nat × Int)
  | [], _ => none
  | (y, n) :: l, i => match d y x with
    | isTrue _ => some (i, n)
    | isFalse _ => mix d x l (i + 1)
def mget (C : Codec) (es : List (C.τ × Int)) (x : C.τ) : Option Int := match mix C.deq x es 0 with
  | some (_, n) => some n
  | none => none
def mput (C : Codec) (es : List (C.τ × Int)) (x : C.τ) (n : Int) : List (C.τ × Int) := match mix C.deq x es 0 with
  | some (j, _) => es.set j (x, n)
  | none => es ++ [(x, n)]
def mhas (C : Codec) (es : List (C.τ × Int)) (x : C.τ) : Bool := match mget C es x with
  | some _ => true
  | none => false
def mval (C : Codec) (es : List (C.τ × Int)) (x : C.τ) : Int := match mget C es x with
  | some n => n
  | none => 0
def numS : SV → Bool
  | .sym _ _ => true
  | _ => false
structure KeyLaw (P : Program) (kt : Nat) (C : Codec) : Prop where
  eqv : ∀ x y : C.τ, ∃ c b, aEq P 20 kt (.agg (C.enc x)) (.agg (C.enc y)) = some (c, b) ∧ (b = true ↔ y = x)
  nums : ∀ x : C.τ, ∀ s ∈ C.enc x, numS s = true
def i64? : SV → Option Int
  | .con .i64 n => some n
  | .sym .i64 n => some n
  | _ => none
def zeroI (P : Program) (e : Nat) : Bool := match zeroOf P e with
  | some (.one (.con .i64 (.ofNat 0))) => true
  | _ => false
def lookV (P : Program) (t : Nat) (m k : AV) (ok : Bool) (h : Heap) : OR :=
  match P.underlying t, m, k with
  | some (.map kt e), .v (.one (.mp b)), .v k => (match get? h b with
    | some (.mp es) => if keyOk P kt k then (match aGet P kt k es with
      | some (some v) => if v.known then .ok (if ok then .tup [v, .one (.cb true)] else .v v) else .fail
      | some none => (match zeroOf P e with | some z => if z.known then .ok (if ok then .tup [z, .one (.cb false)] else .v z) else .fail | none => .fail)
      | none => .fail) else .fail
    | some (.omp C es) => (match k with
      | .agg l => (match C.dec l with
        | some x => if zeroI P e then .iff (KeyLaw P kt C) (if ok then .tup [.one (.sym .i64 (mval C es x)), .one (.sb (mhas C es x))] else .v (.one (.sym .i64 (mval C es x)))) else .fail
        | none => .fail)
      | _ => .fail)
    | _ => .fail)
  | _, _, _ => .fail
def lenV (P : Program) (env : Env) (args : List Operand) (ts : List Nat) : OR :=
  match args, ts with
  | [x], [t] => (match P.underlying t, ev env x with
    | some (.slice _), .v (.one (.ow _ _ _ len lit)) => .ok (mkI lit .i64 (len : Int))
    | some (.slice _), .v (.one (.rs _ _ len _)) => .ok (mkI false .i64 (len : Int))
    | some (.slice _), .v (.one .nils) => .ok (mkI true .i64 0)
    | some .string, .v (.one (.cstr s)) => .ok (mkI true .i64 ((len' s : Nat) : Int))
    | some .string, .v (.one (.str s)) => .ok (mkI false .i64 ((s.length : Nat) : Int))
    | _, _ => .fail)
  | _, _ => .fail
def qop0 (P : Program) (env : Env) (h : Heap) : Op → OR
  | .move x => .ok (ev env x)
  | .assign x => .ok (ev env x)
  | .build t parts => match evParts env parts.toList with
    | some ps => (match buildV P t ps with | some cs => .ok (.v (.agg cs)) | none => .fail)
    | none => .fail
  | .load t a => match ev env a with
    | .v (.one (.ptr b off)) => ofOpt (loadV P t h b off)
    | .v (.one (.pe b esz idx sub)) => loadE P t h b esz idx sub
    | .v (.one (.rp b esz idx sub)) => loadR P t h b esz idx sub
    | _ => .fail
  | .nilCheck x => match ev env x with
    | .v (.one (.ptr b off)) => .ok (.v (.one (.ptr b off)))
    | .v (.one (.fn f c)) => .ok (.v (.one (.fn f c)))
    | .v (.one (.pe b esz idx sub)) => .ok (.v (.one (.pe b esz idx sub)))
    | .v (.one (.rp b esz idx sub)) => .ok (.v (.one (.rp b esz idx sub)))
    | _ => .fail
  | .binOp op t x y _ => match ev env x, ev env y with
    | .v (.one a), .v (.one b) => if a.isB && b.isB then cmpV P op t (.one a) (.one b) else if isSh op then aSh op a b else aBin op a b
    | .v (.agg a), .v (.agg b) => if P.eqGuardType P.depth t then .fail else cmpV P op t (.agg a) (.agg b)
    | _, _ => .fail
  | .unOp op _ x => match ev env x with
    | .v (.one a) => aUn op a
    | _ => .fail
  | .fieldAddr s x f => match ev env x, P.underlying s with
    | .v (.one (.ptr b off)), some (.struct fs) => (match get? fs.toList f with
      | some fd => (match size? P fd.type with
        | some (_ + 1) => .ok (.v (.one (.ptr b (off + fd.offset))))
        | _ => .fail)
      | none => .fail)
    | .v (.one (.pe b esz idx sub)), some (.struct fs) => (match get? fs.toList f with
      | some fd => (match size? P fd.type with
        | some (_ + 1) => .ok (.v (.one (.pe b esz idx (sub + fd.offset))))
        | _ => .fail)
      | none => .fail)
    | .v (.one (.rp b esz idx sub)), some (.struct fs) => (match get? fs.toList f with
      | some fd => (match size? P fd.type with
        | some (_ + 1) => .ok (.v (.one (.rp b esz idx (sub + fd.offset))))
        | _ => .fail)
      | none => .fail)
    | _, _ => .fail
  | .field s x f => match ev env x, P.underlying s with
    | .v (.agg cs), some (.struct fs) => (match get? fs.toList f with
      | some fd => ofOpt (partOf P fd.type cs fd.offset)
      | none => .fail)
    | _, _ => .fail
  | .indexAddr t x i => match P.underlying t, ev env x, ev env i with
    | some (.array n e), .v (.one (.ptr b off)), .v (.one (.con _ j)) => (match size? P e with
      | some z => if 0 ≤ j ∧ j < (n : Int) then .ok (.v (.one (.ptr b (off + j.toNat * z)))) else .fail
      | none => .fail)
    | some (.array n e), .v (.one (.pe b esz idx sub)), .v (.one (.con _ j)) => (match size? P e with
      | some z => if 0 ≤ j ∧ j < (n : Int) then .ok (.v (.one (.pe b esz idx (sub + j.toNat * z)))) else .fail
      | none => .fail)
    | some (.array n e), .v (.one (.rp b esz idx sub)), .v (.one (.con _ j)) => (match size? P e with
      | some z => if 0 ≤ j ∧ j < (n : Int) then .ok (.v (.one (.rp b esz idx (sub + j.toNat * z)))) else .fail
      | none => .fail)
    | some (.slice e), .v (.one (.ow b esz st len lit)), .v (.one (.con _ j)) => if size? P e = some esz then
        (if lit then (if 0 ≤ j ∧ j < (len : Int) then .ok (.v (.one (.ptr b ((st + j.toNat) * esz)))) else .fail) else .iff (0 ≤ j ∧ j < (len : Int)) (.v (.one (.pe b esz (st + j.toNat) 0)))) else .fail
    | some (.slice e), .v (.one (.ow b esz st len lit)), .v (.one (.sym _ j)) => if size? P e = some esz then
        (if lit then .fail else .iff (0 ≤ j ∧ j < (len : Int)) (.v (.one (.pe b esz (st + j.toNat) 0)))) else .fail
    | some (.slice e), .v (.one (.rs b esz len _)), .v (.one (.con _ j)) => if size? P e = some esz then .iff (0 ≤ j ∧ j < (len : Int)) (.v (.one (.rp b esz j.toNat 0))) else .fail
    | some (.slice e), .v (.one (.rs b esz len _)), .v (.one (.sym _ j)) => if size? P e = some esz then .iff (0 ≤ j ∧ j < (len : Int)) (.v (.one (.rp b esz j.toNat 0))) else .fail
    | _, _, _ => .fail
  | .index t x i => match P.underlying t, ev env x, ev env i with
    | some (.array n e), .v (.agg cs), .v (.one (.con _ j)) => (match size? P e with
      | some z => if 0 ≤ j ∧ j < (n : Int) then ofOpt (partOf P e cs (j.toNat * z)) else .fail
      | none => .fail)
    | some .string, .v (.one (.cstr s)), .v (.one (.con _ j)) => if 0 ≤ j then (match get? s j.toNat with | some b => .ok (mkI true .u8 (b.toNat : Nat)) | none => .fail) else .fail
    | some .string, .v (.one (.cstr s)), .v (.one (.sym _ j)) => .iff (0 ≤ j ∧ j < (s.length : Int)) (mkI false .u8 ((s.getD j.toNat 0).toNat : Nat))
    | some .string, .v (.one (.str s)), .v (.one (.con _ j)) => .iff (0 ≤ j ∧ j < (s.length : Int)) (mkI false .u8 ((s.getD j.toNat 0).toNat : Nat))
    | some .string, .v (.one (.str s)), .v (.one (.sym _ j)) => .iff (0 ≤ j ∧ j < (s.length : Int)) (mkI false .u8 ((s.getD j.toNat 0).toNat : Nat))
    | _, _, _ => .fail
  | .makeFunc (.func f) first cap => (match first.toList, caps env cap.toList with
    | [], some l => .ok (.v (.one (.fn f l)))
    | _, _ => .fail)
  | .extract t i => match ev env t with
    | .tup l => ofOpt (get? l i)
    | _ => .fail
  | .pick c a b => match ev env c with
    | .v (.one (.cb true)) => .ok (ev env a)
    | .v (.one (.cb false)) => .ok (ev env b)
    | _ => .fail
  | .convert s d x => match P.underlying s, P.underlying d, ev env x with
    | some (.int _), some (.int k), .v (.one (.con _ n)) => .ok (mkI true k (k.wrap n))
    | some (.int _), some (.int k), .v (.one (.sym _ n)) => .ok (mkI false k (k.wrap n))
    | _, _, _ => .fail
  | .lookup t m k ok => lookV P t (ev env m) (ev env k) ok h
  | .call { callee := .builtin .len, args, argTypes, .. } => lenV P env args.toList argTypes.toList
  | _ => .fail

def evs (env : Env) : List Operand → List AV
  | [] => []
  | o :: l => ev env o :: evs env l

def isRow : Option Blk → Bool
  | some (.row _ _) => true
  | _ => false
def pEq (P : Program) (t : Nat) (x y : SV) : Option Bool :=
  match P.underlying t with
  | some (.pointer e) => (match x, y with
    | .nilp, .nilp => some true
    | .nilp, .ptr _ _ => some false
    | .ptr _ _, .nilp => some false
    | .ptr b o, .ptr b' o' => (match size? P e with
      | some (_ + 1) => if b = b' then some (decide (o = o')) else none
      | _ => none)
    | _, _ => none)
  | some (.slice _) => (match x, y with
    | .nils, .nils => some true
    | .nils, .sl _ _ _ _ => some false
    | .sl _ _ _ _, .nils => some false
    | _, _ => none)
  | _ => none
def litB (x : AV) : Option Nat :=
  match x with
  | .v (.one (.con _ n)) => if 0 ≤ n then some n.toNat else none
  | _ => none
def bounds2 (lo hi : Bool) (len : Nat) (l : List AV) : Option (Nat × Nat) :=
  match lo, hi, l with
  | false, false, [] => some (0, len)
  | true, false, [a] => (match litB a with | some x => some (x, len) | none => none)
  | false, true, [b] => (match litB b with | some y => some (0, y) | none => none)
  | true, true, [a, b] => (match litB a, litB b with | some x, some y => some (x, y) | _, _ => none)
  | _, _, _ => none
def intOf : AV → Option Int
  | .v (.one (.con _ n)) => some n
  | .v (.one (.sym _ n)) => some n
  | _ => none
def boundsO (lo hi : Bool) (len : Nat) (l : List AV) : Option (Int × Int) :=
  match lo, hi, l with
  | false, false, [] => some (0, (len : Int))
  | true, false, [a] => (match intOf a with | some x => some (x, (len : Int)) | none => none)
  | false, true, [b] => (match intOf b with | some y => some (0, y) | none => none)
  | true, true, [a, b] => (match intOf a, intOf b with | some x, some y => some (x, y) | _, _ => none)
  | _, _, _ => none
def sliceX (P : Program) (t : Nat) (x : SV) (lo hi : Bool) (l : List AV) : OR :=
  match P.underlying t, x with
  | some (.slice e), .sl b off len cap => (match size? P e, bounds2 lo hi len l with
    | some z, some (i, j) => if i ≤ j ∧ j ≤ cap then .ok (.v (.one (.sl b (if cap = i then off else off + i * z) (j - i) (cap - i)))) else .fail
    | _, _ => .fail)
  | some (.slice e), .nils => (match size? P e, bounds2 lo hi 0 l with
    | some _, some (0, 0) => .ok (.v (.one .nils))
    | _, _ => .fail)
  | some (.array n e), .ptr b off => (match size? P e, bounds2 lo hi n l with
    | some z, some (i, j) => if i ≤ j ∧ j ≤ n then .ok (.v (.one (.sl b (if n = i then off else off + i * z) (j - i) (n - i)))) else .fail
    | _, _ => .fail)
  | some .string, .cstr s => (match bounds2 lo hi (len' s) l with
    | some (i, j) => if i ≤ j ∧ j ≤ len' s then forceB (takeN (j - i) (dropN i s)) (fun s => .ok (.v (.one (.cstr s)))) else .fail
    | none => (match boundsO lo hi (len' s) l with
      | some (i, j) => .iff (0 ≤ i ∧ i ≤ j ∧ j ≤ (s.length : Int)) (.v (.one (.str ((s.drop i.toNat).take (j - i).toNat))))
      | none => .fail))
  | some .string, .str s => (match boundsO lo hi s.length l with
    | some (i, j) => .iff (0 ≤ i ∧ i ≤ j ∧ j ≤ (s.length : Int)) (.v (.one (.str ((s.drop i.toNat).take (j - i).toNat))))
    | none => .fail)
  | _, _ => .fail
def min2X (mx : Bool) (x y : AV) : OR :=
  match x, y with
  | .v (.one (.con k a)), .v (.one (.con k' b)) => if k = k' then .ok (mkI true k (if (if mx then decide (a < b) else decide (b < a)) then b else a)) else .fail
  | .v (.one (.con k a)), .v (.one (.sym k' b)) => if k = k' then .ok (mkI false k (if (if mx then decide (a < b) else decide (b < a)) then b else a)) else .fail
  | .v (.one (.sym k a)), .v (.one (.con k' b)) => if k = k' then .ok (mkI false k (if (if mx then decide (a < b) else decide (b < a)) then b else a)) else .fail
  | .v (.one (.sym k a)), .v (.one (.sym k' b)) => if k = k' then .ok (mkI false k (if (if mx then decide (a < b) else decide (b < a)) then b else a)) else .fail
  | _, _ => .fail
def bltX (P : Program) (f : Builtin) (ts : List Nat) (l : List AV) : OR :=
  match f, ts, l with
  | .cap, [t], [x] => (match P.underlying t, x with
    | some (.slice _), .v (.one (.sl _ _ _ cap)) => .ok (mkI true .i64 (cap : Int))
    | some (.slice _), .v (.one .nils) => .ok (mkI true .i64 0)
    | _, _ => .fail)
  | .len, [t], [x] => (match P.underlying t, x with
    | some (.slice _), .v (.one (.sl _ _ len _)) => .ok (mkI true .i64 (len : Int))
    | _, _ => .fail)
  | .min, [_, _], [x, y] => min2X false x y
  | .max, [_, _], [x, y] => min2X true x y
  | _, _, _ => .fail
def nilX (P : Program) (op : BinOp) (t : Nat) : OR := match P.underlying t, op with
  | some (.interface _), .eql => .ok (mkB true true)
  | some (.interface _), .neq => .ok (mkB true false)
  | _, _ => .fail
def qop1 (P : Program) (o : Op) (l : List AV) : OR :=
  match o, l with
  | .binOp op t _ (.const .nilIface) _, [.v (.one .nili), _] => nilX P op t
  | .binOp op t _ _ _, [.v (.one a), .v (.one b)] => (match op with
    | .eql => (match pEq P t a b with | some r => .ok (mkB true r) | none => .fail)
    | .neq => (match pEq P t a b with | some r => .ok (mkB true (!r)) | none => .fail)
    | _ => .fail)
  | .slice t _ lo hi none, .v (.one x) :: l => sliceX P t x lo.isSome hi.isSome l
  | .convert s d _, [.v (.one (.con k n))] => (match P.underlying s, P.underlying d with
    | some (.int _), some .string => .ok (.v (.one (.cstr (Utf8.encode n).data.toList)))
    | _, _ => .fail)
  | .convert s d _, [.v (.one (.sym k n))] => (match P.underlying s, P.underlying d with
    | some (.int _), some .string => .ok (.v (.one (.str (Utf8.encode n).data.toList)))
    | _, _ => .fail)
  | .indexAddr t _ _, [.v (.one (.sl b off len _)), .v (.one (.con _ j))] => (match P.underlying t with
    | some (.slice e) => (match size? P e with
      | some z => if 0 ≤ j ∧ j < (len : Int) then .ok (.v (.one (.ptr b (off + j.toNat * z)))) else .fail
      | none => .fail)
    | _ => .fail)
  | .call { callee := .builtin f, argTypes, .. }, l => bltX P f argTypes.toList l
  | _, _ => .fail
def orElse (r s : OR) : OR := match r with
  | .fail => s
  | r => r
def qop (P : Program) (env : Env) (h : Heap) (o : Op) : OR := orElse (qop0 P env h o) (qop1 P o (evs env o.operands.toList))
def ptrNe (P : Program) (t : Nat) (h : Heap) (x y : SV) : Bool :=
  match P.underlying t, x, y with
  | some (.pointer e), .ptr b _, .ptr b' _ => (match size? P e with
    | some (_ + 1) => decide (b ≠ b') && isRow (get? h b) && isRow (get? h b')
    | _ => false)
  | _, _, _ => false
def qop2 (P : Program) (h : Heap) (o : Op) (l : List AV) : OR :=
  match o, l with
  | .binOp op t _ _ _, [.v (.one a), .v (.one b)] => (match op with
    | .eql => if ptrNe P t h a b then .ok (mkB true false) else .fail
    | .neq => if ptrNe P t h a b then .ok (mkB true true) else .fail
    | _ => .fail)
  | .slice t _ lo hi none, .v (.one (.ow b esz st len true)) :: l => (match P.underlying t with
    | some (.slice e) => (match get? h b, bounds2 lo.isSome hi.isSome len l with
      | some (.ownL _ _ n _), some (i, j) => if size? P e = some esz ∧ i ≤ j ∧ j ≤ len ∧ st + len ≤ n ∧ 0 < n ∧ 0 < esz ∧ (i < len ∨ i = 0 ∨ st = 0) then .ok (.v (.one (.ow b esz (st + i) (j - i) true))) else .fail
      | _, _ => .fail)
    | _ => .fail)
  | .slice t _ lo hi none, .v (.one (.ow b esz st len false)) :: l => (match P.underlying t with
    | some (.slice e) => (match get? h b, boundsO lo.isSome hi.isSome len l with
      | some (.own _ C xs), some (i, j) => if size? P e = some esz ∧ C.esz = esz ∧ 0 < esz then .iff (0 ≤ i ∧ i ≤ j ∧ j ≤ (len : Int) ∧ st + len ≤ xs.length ∧ (i < (len : Int) ∨ i = 0 ∨ st = 0)) (.v (.one (.ow b esz (st + i.toNat) (j - i).toNat false))) else .fail
      | _, _ => .fail)
    | _ => .fail)
  | _, _ => .fail
def qopE (P : Program) (env : Env) (h : Heap) (o : Op) : OR := orElse (qop P env h o) (qop2 P h o (evs env o.operands.toList))

abbrev KV := AV → Heap → Prop

def kOR (r : OR) (K : AV → Prop) : Prop :=
  match r with
  | .fail => False
  | .ok v => K v
  | .iff p v => p ∧ K v

def repC (z : List SV) : Nat → List SV
  | 0 => []
  | n + 1 => app z (repC z n)
def sliceV (P : Program) (t n : Nat) (ps : Option (List (Nat × PV))) (h : Heap) (K : KV) : Prop :=
  match P.underlying t, ps with
  | some (.slice e), some ps => (match zeroOf P e, size? P e with
    | some z, some (esz + 1) => if len' z.cells = esz + 1 then (match fillP (fun i => some (i * (esz + 1), esz + 1)) (repC z.cells n) ps with
      | some cs => if knownAll cs && decide (n * (esz + 1) ≤ 16777216) then K (.v (.one (.ow (len' h) (esz + 1) 0 n true))) (h ++ [.ownL e (esz + 1) n cs]) else False
      | none => False) else False
    | _, _ => False)
  | _, _ => False
def decAll (C : Codec) : Nat → List SV → Option (List C.τ)
  | 0, _ => some []
  | n + 1, cs => match takeE C.esz cs with
    | some l => (match C.dec l, decAll C n (dropN C.esz cs) with | some t, some r => some (t :: r) | _, _ => none)
    | none => none
def bytes? (P : Program) (t : Nat) : Option Nat := match P.info? t with | some i => some i.bytes | none => none
def mapV (P : Program) (t : Nat) (r : Option Operand) (h : Heap) (K : KV) : Prop :=
  match P.underlying t, r with
  | some (.map _ _), none => K (.v (.one (.mp (len' h)))) (h ++ [.mp []])
  | some (.map _ _), some (.const (.int _ _)) => K (.v (.one (.mp (len' h)))) (h ++ [.mp []])
  | _, _ => False
def putV (P : Program) (t : Nat) (m k v : AV) (h : Heap) (K : KV) : Prop :=
  match P.underlying t, m, k, v with
  | some (.map kt _), .v (.one (.mp b)), .v k, .v v => (match get? h b with
    | some (.mp es) => if keyOk P kt k then (match aPut P kt k v es with | some es' => K AV.undef (set h b (.mp es')) | none => False) else False
    | some (.omp C es) => (match k, v with
      | .agg l, .one s => (match C.dec l, i64? s with
        | some x, some n => KeyLaw P kt C ∧ K AV.undef (set h b (.omp C (mput C es x n)))
        | _, _ => False)
      | _, _ => False)
    | _ => False)
  | _, _, _, _ => False
def srcV (h : Heap) : AV → Option ((C : Codec) × (Nat × Nat × Prop × List C.τ))
  | .v (.one (.rs b esz m _)) => (match get? h b with
    | some (.ro _ C xs) => if C.esz = esz then some ⟨C, (b, m, m = xs.length, xs)⟩ else none
    | _ => none)
  | .v (.one (.ow b esz st m false)) => (match get? h b with
    | some (.own _ C xs) => if C.esz = esz then some ⟨C, (b, m, st + m ≤ xs.length, (xs.drop st).take m)⟩ else none
    | _ => none)
  | _ => none
def appR (P : Program) (h : Heap) (t : Nat) (s : AV) (src : (C : Codec) × (Nat × Nat × Prop × List C.τ)) (K : KV) : Prop :=
  match src with
  | ⟨C, (b2, m, pr, ys)⟩ => (match P.underlying t with
    | some (.slice e) => (match size? P e, bytes? P e, zeroOf P e with
      | some (sz + 1), some by_, some z => if decide (len' z.cells = sz + 1) && decide (C.esz = sz + 1) then (match s with
        | .v (.one .nils) => (pr ∧ m * by_ ≤ 140737488355328 ∧ m ≤ 4611686018427387904) ∧ K (.v (.one (.ow (len' h) (sz + 1) 0 m false))) (h ++ [.own e C ys])
        | .v (.one (.ow b esz' 0 n lit)) => if decide (esz' = sz + 1) && decide (b ≠ b2) then (match get? h b with
          | some (.ownL T esz3 n3 cs) => if decide (n3 = 0) && decide (n = 0) && decide (esz3 = sz + 1) && decide (T = e) then (pr ∧ m * by_ ≤ 140737488355328 ∧ m ≤ 4611686018427387904) ∧ K (.v (.one (.ow (len' h) (sz + 1) 0 m false))) (set h b .gone ++ [.own e C ys]) else False
          | some (.own T C1 xs) => if decide (C1.esz = sz + 1) && decide (T = e) && !lit then (pr ∧ n = xs.length ∧ (xs.length + m) * by_ ≤ 140737488355328 ∧ xs.length + m ≤ 4611686018427387904) ∧ ∃ zs : List C1.τ, SameRows C1 zs C ys ∧ K (.v (.one (.ow (len' h) (sz + 1) 0 (xs.length + m) false))) (set h b .gone ++ [.own e C1 (xs ++ zs)]) else False
          | _ => False) else False
        | _ => False) else False
      | _, _, _ => False)
    | _ => False)
def numEq : List SV → List SV → Prop
  | [], [] => True
  | .sym k' n' :: l', .sym k n :: l => (if k' = k then n' = n else False) ∧ numEq l' l
  | .sym k' n' :: l', .con k n :: l => (if k' = k then n' = n else False) ∧ numEq l' l
  | _, _ => False
inductive SameNum (C : Codec) (ys : List C.τ) (m : Nat) (ms : List SV) : Prop
  | mk (hl : ys.length = m) (hf : numEq (flatC C ys) ms)
def appV (P : Program) (env : Env) (args : List Operand) (ts : List Nat) (h : Heap) (K : KV) : Prop :=
  match args, ts with
  | [s, x], [t, t'] => (match decide (t = t'), P.underlying t, ev env x with
    | true, some (.slice e), .v (.one (.ow b2 esz st m true)) => if decide (m = 0) then (match size? P e, ev env s with
      | some _, .v (.one .nils) => K (.v (.one .nils)) h
      | some _, .v (.one (.ow b esz' 0 n true)) => (match get? h b with
        | some (.ownL _ _ n3 _) => if decide (n3 = n) then K (.v (.one (.ow b esz' 0 n true))) h else False
        | _ => False)
      | _, _ => False) else (match size? P e, bytes? P e, zeroOf P e, get? h b2 with
      | some (sz + 1), some by_, some z, some (.ownL T2 esz2 _ ms0) => (match takeE (m * esz) (dropN (st * esz) ms0) with
        | some ms => if decide (sz + 1 = esz) && decide (esz2 = esz) && decide (T2 = e) && decide (len' z.cells = esz) && decide (0 < m) && knownAll ms then
          (match ev env s with
          | .v (.one .nils) => if decide (m * by_ ≤ 140737488355328) && decide (m ≤ 16777216) then K (.v (.one (.ow (len' h) esz 0 m true))) (h ++ [.ownL e esz m ms]) else False
          | .v (.one (.ow b esz' 0 n lit)) => if decide (esz' = esz) && decide (b ≠ b2) then (match get? h b with
            | some (.ownL T esz3 n3 cs) => if decide (esz3 = esz) && decide (n3 = n) && decide (T = e) && decide ((n + m) * by_ ≤ 140737488355328) && decide (n + m ≤ 16777216)
                then K (.v (.one (.ow (len' h) esz 0 (n + m) true))) (set h b .gone ++ [.ownL e esz (n + m) (app cs ms)]) else False
            | some (.own T C xs) => if decide (C.esz = esz) && decide (T = e) && !lit then (match decAll C m ms with
              | some ys => (n = xs.length ∧ (xs.length + m) * by_ ≤ 140737488355328 ∧ xs.length + m ≤ 4611686018427387904) ∧ K (.v (.one (.ow (len' h) esz 0 (xs.length + m) false))) (set h b .gone ++ [.own e C (xs ++ ys)])
              | none => ∃ ys : List C.τ, SameNum C ys m ms ∧ (n = xs.length ∧ (xs.length + m) * by_ ≤ 140737488355328 ∧ xs.length + m ≤ 4611686018427387904) ∧ K (.v (.one (.ow (len' h) esz 0 (xs.length + m) false))) (set h b .gone ++ [.own e C (xs ++ ys)])) else False
            | _ => False) else False
          | _ => False) else False
        | none => False)
      | _, _, _, _ => False)
    | _, _, _ => False)
  | _, _ => False
def byC : Codec where
  τ := UInt8
  esz := 1
  enc b := [.sym .u8 ((b.toNat : Nat) : Int)]
  dec l := match l with
    | [.con .u8 n] => if 0 ≤ n ∧ n < 256 then some (UInt8.ofNat n.toNat) else none
    | _ => none
  d := 0
  len_ok _ := rfl
  known_ok _ := rfl
  dec_ok l t pl vs h hr := by
    split at h
    · rename_i n
      split at h
      · rename_i hn
        cases h
        match vs, hr with
        | [v], hr =>
          refine ⟨?_, trivial⟩
          rcases hr.1 with h | h
          · cases h
          · simp only [SV.val, Option.some.injEq] at h
            subst h
            refine .inr ?_
            have : (((UInt8.ofNat n.toNat).toNat : Nat) : Int) = n := by
              simp only [UInt8.toNat_ofNat']
              omega
            simp only [SV.val, this]
        | [], hr => exact hr.elim
        | _ :: _ :: _, hr => exact hr.2.elim
      · cases h
    · cases h
  low_ok _ _ := rfl
  deq := inferInstanceAs (DecidableEq UInt8)
def biC : Codec where
  τ := Int
  esz := 1
  enc n := [.sym .u8 n]
  dec l := match l with
    | [.con .u8 n] => some n
    | [.sym .u8 n] => some n
    | _ => none
  d := 0
  len_ok _ := rfl
  known_ok _ := rfl
  dec_ok l t pl vs h hr := by
    split at h
    · cases h
      match vs, hr with
      | [v], hr => exact ⟨hr.1.imp (fun h => by cases h) id, trivial⟩
      | [], hr => exact hr.elim
      | _ :: _ :: _, hr => exact hr.2.elim
    · cases h; exact hr
    · cases h
  low_ok _ _ := rfl
  deq := inferInstanceAs (DecidableEq Int)
def byteI (n : Int) : UInt8 := UInt8.ofNat n.toNat
def bytesL : List UInt8 → List SV
  | [] => []
  | b :: l => .con .u8 ((b.toNat : Nat) : Int) :: bytesL l
def byteT (P : Program) (e : Nat) : Bool := match P.info? e with
  | some i => (match i.zero with
    | some (.int .u8 n) => decide (n = 0) && decide (i.size = 1) && decide (i.bytes = 1)
    | _ => false)
  | none => false
def litBytes : List SV → Option (List UInt8)
  | [] => some []
  | .con .u8 n :: l => (match litBytes l with | some r => some (byteI n :: r) | none => none)
  | _ :: _ => none
def numBytes : List SV → Option (List UInt8)
  | [] => some []
  | .con .u8 n :: l => (match numBytes l with | some r => some (byteI n :: r) | none => none)
  | .sym .u8 n :: l => (match numBytes l with | some r => some (byteI n :: r) | none => none)
  | _ :: _ => none
def litStr : AV → Option (Bool × List UInt8)
  | .v (.one (.cstr s)) => some (true, s)
  | .v (.one (.str s)) => some (false, s)
  | _ => none
def appS (P : Program) (t u : Nat) (s x : AV) (h : Heap) (K : KV) : Prop :=
  match P.underlying t, P.underlying u, litStr x with
  | some (.slice e), some .string, some (lit, ys) => if byteT P e then (match s with
    | .v (.one .nils) => if lit then (if decide (len' ys ≤ 65536) then K (.v (.one (.ow (len' h) 1 0 (len' ys) true))) (h ++ [.ownL e 1 (len' ys) (bytesL ys)]) else False)
      else (ys.length ≤ 140737488355328) ∧ K (.v (.one (.ow (len' h) 1 0 ys.length false))) (h ++ [.own e byC ys])
    | .v (.one (.ow b z 0 n _)) => if decide (z = 1) then (match get? h b with
      | some (.ownL T z3 n3 cs) => if decide (z3 = 1) && decide (n3 = n) && decide (T = e) then
          (if lit then (if decide (n + len' ys ≤ 65536) then K (.v (.one (.ow (len' h) 1 0 (n + len' ys) true))) (set h b .gone ++ [.ownL e 1 (n + len' ys) (app cs (bytesL ys))]) else False)
          else (match decAll byC n cs with
            | some xs => (n + ys.length ≤ 140737488355328) ∧ K (.v (.one (.ow (len' h) 1 0 (n + ys.length) false))) (set h b .gone ++ [.own e byC (@HAppend.hAppend (List byC.τ) (List byC.τ) (List byC.τ) _ xs ys)])
            | none => False)) else False
      | some (.own T C xs) => if decide (C.esz = 1) && decide (T = e) then (n = xs.length ∧ xs.length + ys.length ≤ 140737488355328) ∧ ∃ zs : List C.τ, SameRows C zs byC ys ∧ K (.v (.one (.ow (len' h) 1 0 (xs.length + ys.length) false))) (set h b .gone ++ [.own e C (xs ++ zs)]) else False
      | _ => False) else False
    | _ => False) else False
  | _, _, _ => False
def toStr (h : Heap) (x : AV) (K : AV → Prop) : Prop :=
  match x with
  | .v (.one .nils) => K (.v (.one (.cstr [])))
  | .v (.one (.ow b z st n _)) => if decide (z = 1) then (match get? h b with
    | some (.ownL _ z3 n3 cs) => if decide (z3 = 1) && decide (st + n ≤ n3) then (match takeE n (dropN st cs) with
      | some l => (match litBytes l with
        | some s => K (.v (.one (.cstr s)))
        | none => (match numBytes l with
          | some s => K (.v (.one (.str s)))
          | none => False))
      | none => False) else False
    | some (.own _ C xs) => if decide (C.esz = 1) then ∃ ns : List Int, SameRows biC ns C xs ∧ st + n ≤ xs.length ∧ K (.v (.one (.str (((ns.drop st).take n).map byteI)))) else False
    | _ => False) else False
  | .v (.one (.sl b off n _)) => (match get? h b with
    | some (.row _ cs) => (match takeE n (dropN off cs) with
      | some l => (match litBytes l with
        | some s => K (.v (.one (.cstr s)))
        | none => (match numBytes l with
          | some s => K (.v (.one (.str s)))
          | none => False))
      | none => False)
    | _ => False)
  | _ => False
def u8T (P : Program) (e : Nat) : Bool := match P.underlying e with
  | some (.int .u8) => true
  | _ => false
def memConv (P : Program) (s d : Nat) : Bool :=
  match P.underlying s, P.underlying d with
  | some (.slice _), some .string => true
  | some (.pointer _), some .unsafePointer => true
  | some .unsafePointer, some (.pointer _) => true
  | _, _ => false
def convX (P : Program) (s d : Nat) (x : AV) (h : Heap) (K : KV) : Prop :=
  match P.underlying s, P.underlying d with
  | some (.slice e), some .string => if byteT P e && u8T P e then toStr h x (fun v => K v h) else False
  | some (.pointer t), some .unsafePointer => (match x with
    | .v (.one (.ptr b off)) => (match get? h b, size? P t with
      | some (.row _ cs), some (_ + 1) => if decide (off < len' cs) then K x h else False
      | _, _ => False)
    | _ => False)
  | some .unsafePointer, some (.pointer u) => (match x with
    | .v (.one (.ptr b off)) => (match get? h b, size? P u with
      | some (.row T cs), some _ => if liesAt P P.depth T (len' cs / P.cellsOf T) off u 1 then K x h else False
      | _, _ => False)
    | _ => False)
  | _, _ => False
def sliceDataX (h : Heap) (x : AV) (K : KV) : Prop :=
  match x with
  | .v (.one .nils) => K (.v (.one .nilp)) h
  | .v (.one (.ow b z 0 n lit)) => if decide (z = 1) then (match get? h b with
    | some (.ownL _ _ n3 _) => if decide (0 < n) && decide (n ≤ n3) then K (.v (.one (.ptr b 0))) h else False
    | some (.own _ _ xs) => if lit then False else (0 < n ∧ n ≤ xs.length) ∧ K (.v (.one (.ptr b 0))) h
    | _ => False) else False
  | _ => False
def strDataX (P : Program) (ts : List Nat) (l : List AV) (h : Heap) (K : KV) : Prop :=
  match ts, l with
  | [_, _], [.v (.one .nilp), .v (.one (.con .i64 n))] => if decide (n = 0) then K (.v (.one (.cstr []))) h else False
  | [t, _], [.v (.one (.ptr b 0)), .v (.one y)] => (match P.underlying t, get? h b, i64? y with
    | some (.pointer e), some (.ownL T z n cs), some m => if decide (T = e) && decide (z = 1) && decide (P.cellsOf e = 1) && decide (0 < n) && decide (m = (n : Int)) && decide (n ≤ 65536) then (match decAll byC n cs with
      | some s => K (.v (.one (.cstr s))) (set h b .gone)
      | none => False) else False
    | some (.pointer e), some (.own T C xs), some m => if decide (T = e) && decide (C.esz = 1) && decide (P.cellsOf e = 1) then ∃ s : List UInt8, SameRows byC s C xs ∧ (m = (s.length : Int) ∧ 0 < s.length ∧ s.length ≤ 9223372036854775807) ∧ K (.v (.one (.str s))) (set h b .gone) else False
    | _, _, _ => False)
  | _, _ => False
def isY (P : Program) : Op → Bool
  | .convert s d _ => memConv P s d
  | .call { callee := .builtin .unsafeSliceData, .. } => true
  | .call { callee := .builtin .unsafeString, .. } => true
  | _ => false
def aop2 (P : Program) (h : Heap) (o : Op) (l : List AV) (K : KV) : Prop :=
  match o, l with
  | .convert s d _, [x] => convX P s d x h K
  | .call { callee := .builtin .unsafeSliceData, .. }, [x] => sliceDataX h x K
  | .call { callee := .builtin .unsafeString, argTypes, .. }, l => strDataX P argTypes.toList l h K
  | _, _ => False
def appW (P : Program) (env : Env) (args : List Operand) (ts : List Nat) (h : Heap) (K : KV) : Prop :=
  match args, ts with
  | [s, x], [t, t'] => (match srcV h (ev env x) with
    | some src => if decide (t = t') then appR P h t (ev env s) src K else False
    | none => (match litStr (ev env x) with
      | some _ => appS P t t' (ev env s) (ev env x) h K
      | none => appV P env args ts h K))
  | _, _ => appV P env args ts h K
def makeX (P : Program) (t : Nat) (l c : AV) (h : Heap) (K : KV) : Prop :=
  match P.underlying t, litB l, litB c with
  | some (.slice e), some n, some m => (match zeroOf P e, size? P e, bytes? P e with
    | some z, some (sz + 1), some by_ => if n ≤ m ∧ m ≤ 65536 ∧ m * (sz + 1) ≤ 65536 ∧ by_ ≤ 65536 ∧ len' z.cells = sz + 1 then K (.v (.one (.sl (len' h) 0 n m))) (h ++ [.row e (repC z.cells m)]) else False
    | _, _, _ => False)
  | _, _, _ => False
def cellsX (h : Heap) (x : AV) (n : Nat) : Option (List SV) :=
  match x with
  | .v (.one (.sl b off _ _)) => (match get? h b with
    | some (.row _ cs) => takeE n (dropN off cs)
    | _ => none)
  | .v (.one (.ow b _ 0 _ true)) => (match get? h b with
    | some (.ownL _ _ _ cs) => takeE n cs
    | _ => none)
  | .v (.one .nils) => if n = 0 then some [] else none
  | _ => none
def lenX (x : AV) : Option Nat :=
  match x with
  | .v (.one (.sl _ _ len _)) => some len
  | .v (.one (.ow _ _ 0 len true)) => some len
  | .v (.one .nils) => some 0
  | _ => none
def copyX (P : Program) (ts : List Nat) (l : List AV) (h : Heap) (K : KV) : Prop :=
  match ts, l with
  | [t, t'], [x, y] => (match P.underlying t, decide (t = t'), lenX x, lenX y with
    | some (.slice e), true, some n, some m => (match size? P e with
      | some (sz + 1) => (match cellsX h y (Nat.min m n * (sz + 1)) with
        | some cs => if knownAll cs then (match x with
          | .v (.one (.sl b off _ _)) => (match get? h b with
            | some (.row T ds) => (match over ds off cs with
              | some ds' => K (mkI true .i64 ((Nat.min m n : Nat) : Int)) (set h b (.row T ds'))
              | none => False)
            | _ => False)
          | .v (.one .nils) => K (mkI true .i64 0) h
          | _ => False) else False
        | none => False)
      | _ => False)
    | _, _, _, _ => False)
  | _, _ => False
def clearX (P : Program) (ts : List Nat) (l : List AV) (h : Heap) (K : KV) : Prop :=
  match ts, l with
  | [t], [.v (.one .nils)] => (match P.underlying t with
    | some (.slice _) => K AV.undef h
    | _ => False)
  | [t], [.v (.one (.ow b esz st len true))] => (match P.underlying t with
    | some (.slice e) => if decide (len = 0) then K AV.undef h else (match zeroOf P e, size? P e, get? h b with
      | some z, some (sz + 1), some (.ownL T z1 n cs) => if decide (esz = sz + 1) && decide (len' z.cells = sz + 1) && knownAll (repC z.cells len) then (match over cs (st * esz) (repC z.cells len) with
        | some cs' => K AV.undef (set h b (.ownL T z1 n cs'))
        | none => False) else False
      | _, _, _ => False)
    | _ => False)
  | _, _ => False
def isX : Op → Bool
  | .makeSlice _ _ _ => true
  | .call { callee := .builtin .copy, .. } => true
  | .call { callee := .builtin .clear, .. } => true
  | _ => false
def aop1 (P : Program) (h : Heap) (o : Op) (l : List AV) (K : KV) : Prop :=
  match o, l with
  | .makeSlice t _ _, [a, b] => makeX P t a b h K
  | .call { callee := .builtin .copy, argTypes, .. }, l => copyX P argTypes.toList l h K
  | .call { callee := .builtin .clear, argTypes, .. }, l => clearX P argTypes.toList l h K
  | _, _ => False
def runeL (s : List UInt8) (pos : Nat) : Nat × Nat := Utf8.decode ⟨s.toArray⟩ pos
def rangeX (P : Program) (t : Nat) (x : AV) (h : Heap) (K : KV) : Prop := match P.underlying t, x with
  | some .string, .v (.one (.cstr s)) => K (.v (.one (.ptr (len' h) 0))) (h ++ [.sit true s 0])
  | some .string, .v (.one (.str s)) => K (.v (.one (.ptr (len' h) 0))) (h ++ [.sit false s 0])
  | _, _ => False
def nextX (x : AV) (h : Heap) (K : KV) : Prop := match x with
  | .v (.one (.ptr b 0)) => (match get? h b with
    | some (.sit true s pos) => if pos < len' s then K (.tup [.one (.cb true), .one (.con .i64 (pos : Int)), .one (.con .i32 ((runeL s pos).1 : Int))]) (set h b (.sit true s (pos + (runeL s pos).2))) else K (.tup [.one (.cb false)]) h
    | some (.sit false s pos) => (pos < s.length → K (.tup [.one (.cb true), .one (.sym .i64 (pos : Int)), .one (.sym .i32 ((runeL s pos).1 : Int))]) (set h b (.sit false s (pos + (runeL s pos).2)))) ∧ (s.length ≤ pos → K (.tup [.one (.cb false)]) h)
    | _ => False)
  | _ => False
def aop (P : Program) (env : Env) (h : Heap) (o : Op) (K : KV) : Prop :=
  match o with
  | .alloc t => match zeroOf P t with
    | some z => K (.v (.one (.ptr (len' h) 0))) (h ++ [.row t z.cells])
    | none => False
  | .box t x => match ev env x with
    | .v p => if p.known then K (.v (.one (.ptr (len' h) 0))) (h ++ [.row t p.cells]) else False
    | _ => False
  | .store t a x => match ev env a, ev env x with
    | .v (.one (.ptr b off)), .v p => (match storeV P t h b off p with
      | some h' => K AV.undef h'
      | none => False)
    | .v (.one (.pe b esz idx sub)), .v p => storeE P t h b esz idx sub p (fun h' => K AV.undef h')
    | _, _ => False
  | .makeMap t r => mapV P t r h K
  | .range t x => rangeX P t (ev env x) h K
  | .next it true => nextX (ev env it) h K
  | .insert t m k v => putV P t (ev env m) (ev env k) (ev env v) h K
  | .mapUpdate t m k v => putV P t (ev env m) (ev env k) (ev env v) h K
  | .buildSlice t n parts => sliceV P t n (evParts env parts.toList) h K
  | .call { callee := .builtin .append, args, argTypes, .. } => appW P env args.toList argTypes.toList h K
  | .indexAddr t x i => match P.underlying t, ev env x, ev env i with
    | some (.array n e), .v (.one (.ptr b off)), .v (.one (.sym _ j)) => (match size? P e with
      | some z => (0 ≤ j ∧ j < (n : Int)) ∧ splitIx j (fun q => K (.v (.one (.ptr b (off + q * z)))) h) n
      | none => False)
    | some (.slice e), .v (.one (.ow b esz st len true)), .v (.one (.sym _ j)) => if size? P e = some esz then (0 ≤ j ∧ j < (len : Int)) ∧ splitIx j (fun q => K (.v (.one (.ptr b ((st + q) * esz)))) h) len else False
    | _, _, _ => kOR (qop P env h (.indexAddr t x i)) (fun v => K v h)
  | .index t x i => match P.underlying t, ev env x, ev env i with
    | some (.array n e), .v (.agg cs), .v (.one (.sym _ j)) => (match size? P e with
      | some z => (0 ≤ j ∧ j < (n : Int)) ∧ splitIx j (fun q => match partOf P e cs (q * z) with | some v => K (.v v) h | none => False) n
      | none => False)
    | _, _, _ => kOR (qop P env h (.index t x i)) (fun v => K v h)
  | .pick c a b => match ev env c with
    | .v (.one (.sb c')) => (c' = true → K (ev env a) h) ∧ (c' = false → K (ev env b) h)
    | _ => kOR (qop P env h (.pick c a b)) (fun v => K v h)
  | o => if isX o then aop1 P h o (evs env o.operands.toList) K else if isY P o then aop2 P h o (evs env o.operands.toList) K else kOR (qopE P env h o) (fun v => K v h)

def isB (P : Program) : Op → Bool
  | .convert s d _ => (match P.underlying s, P.underlying d with
    | some .string, some (.slice _) => true
    | some (.slice _), some (.slice e) => decide (s = d) && u8T P e
    | _, _ => false)
  | _ => false
def convB (P : Program) (s d : Nat) (x : AV) (h : Heap) (K : KV) : Prop :=
  match P.underlying s, P.underlying d with
  | some .string, some (.slice e) => if byteT P e && u8T P e then (match litStr x with
    | some (lit, ys) => if lit then (if decide (len' ys ≤ 65536) then K (.v (.one (.ow (len' h) 1 0 (len' ys) true))) (h ++ [.ownL e 1 (len' ys) (bytesL ys)]) else False)
      else (ys.length ≤ 140737488355328) ∧ K (.v (.one (.ow (len' h) 1 0 ys.length false))) (h ++ [.own e byC ys])
    | none => False) else False
  | some (.slice _), some (.slice e) => if decide (s = d) && u8T P e then (match x with
    | .v (.one (.ow b 1 0 n l)) => (match get? h b with
      | some (.ownL T 1 m cs) => if decide (0 < n) && decide (0 < m) then K (.v (.one (.ow b 1 0 n l))) (set h b (.ownL T 1 m cs)) else False
      | _ => False)
    | _ => False) else False
  | _, _ => False
inductive EX where
  | normal | exit (id : Nat) | ret

abbrev KE := EX → Env → Heap → Prop
abbrev ASpec := List AV → Heap → KV → Prop
abbrev PSpec := List AV → OR

structure Ann where
  X : Type
  inv : X → Env × Heap
  mu : X → Nat
structure Annos where
  q : Nat
  loop : Nat → Env → Heap → Option Ann
  cut : Nat → Env → Heap → List Ann
structure OnB where
  f : Bool → Prop → Prop → Prop
  h : ∀ b A B, f b A B ↔ (b = true → A) ∧ (b = false → B)
def stdOn : OnB := ⟨fun b A B => (b = true → A) ∧ (b = false → B), fun _ _ _ => Iff.rfl⟩
def onB (b : Bool) (A B : Prop) : Prop := match b with
  | true => A
  | false => B
theorem onB_iff (b : Bool) (A B : Prop) : onB b A B ↔ (b = true → A) ∧ (b = false → B) := by cases b <;> simp [onB]
def pruneOn : OnB := ⟨onB, onB_iff⟩
theorem OnB.mono (o : OnB) {b : Bool} {A B A' B' : Prop} (h : o.f b A B) (ha : A → A') (hb : B → B') : o.f b A' B' := (o.h b A' B').2 ⟨fun e => ha (((o.h b A B).1 h).1 e), fun e => hb (((o.h b A B).1 h).2 e)⟩
structure Sums where
  pure : Nat → Option PSpec
  spec : Nat → Option ASpec
  /-- functions without a body whose value the model itself gives -/
  ext : Nat → Option PSpec := fun _ => none
  /-- functions without a body in whose place the model enters another -/
  twin : Nat → Option Nat := fun _ => none
  /-- assertions at loops of functions that are entered -/
  ann : Nat → Option (Nat → Env → Heap → Option Ann) := fun _ => none
  on : OnB := stdOn

def noAnn : Annos := ⟨0, fun _ _ _ => none, fun _ _ _ => []⟩
def Sums.annOf (S : Sums) (f n : Nat) : Annos := match S.ann f with
  | some l => ⟨n, l, fun _ _ _ => []⟩
  | none => noAnn

def pairsC : List (Nat × Nat) → List (Nat × Nat) → List (Nat × Nat)
  | (b', _) :: l', (b, _) :: l => (b', b) :: pairsC l' l
  | _, _ => []
def SV.pairs : SV → SV → List (Nat × Nat)
  | .ptr b' _, .ptr b _ => [(b', b)]
  | .sl b' _ _ _, .sl b _ _ _ => [(b', b)]
  | .ow b' _ _ _ _, .ow b _ _ _ _ => [(b', b)]
  | .ow b' _ _ _ _, .nils => [(b', 1000000 + b')]
  | .pe b' _ _ _, .pe b _ _ _ => [(b', b)]
  | .rs b' _ _ _, .rs b _ _ _ => [(b', b)]
  | .rp b' _ _ _, .rp b _ _ _ => [(b', b)]
  | .mp b', .mp b => [(b', b)]
  | .yld b', .yld b => [(b', b)]
  | .fn _ c', .fn _ c => pairsC c' c
  | .ifp _ b' _, .ifp _ b _ => [(b', b)]
  | _, _ => []
def pairsL : List SV → List SV → List (Nat × Nat)
  | s' :: l', s :: l => app (s'.pairs s) (pairsL l' l)
  | _, _ => []
def PV.pairs : PV → PV → List (Nat × Nat)
  | .one s', .one s => s'.pairs s
  | .agg l', .agg l => pairsL l' l
  | _, _ => []
def pairsP : List PV → List PV → List (Nat × Nat)
  | s' :: l', s :: l => app (s'.pairs s) (pairsP l' l)
  | _, _ => []
def AV.pairs : AV → AV → List (Nat × Nat)
  | .v p', .v p => p'.pairs p
  | .tup l', .tup l => pairsP l' l
  | _, _ => []
def pairsE : Env → Env → List (Nat × Nat)
  | s' :: l', s :: l => app (s'.pairs s) (pairsE l' l)
  | _, _ => []
def pairsM : List (PV × PV) → List (PV × PV) → List (Nat × Nat)
  | (k', v') :: l', (k, v) :: l => app (k'.pairs k) (app (v'.pairs v) (pairsM l' l))
  | _, _ => []
def Blk.pairs : Blk → Blk → List (Nat × Nat)
  | .row _ c', .row _ c => pairsL c' c
  | .mp es', .mp es => pairsM es' es
  | .ownL _ _ _ c', .ownL _ _ _ c => pairsL c' c
  | _, _ => []
def pairsH : Heap → Heap → List (Nat × Nat)
  | s' :: l', s :: l => app (s'.pairs s) (pairsH l' l)
  | _, _ => []
def look : List (Nat × Nat) → Nat → Option Nat
  | [], _ => none
  | (x, y) :: l, b => if x = b then some y else look l b
def findR (h' h : Heap) : Nat → List (Nat × Nat) → List (Nat × Nat) → List (Nat × Nat)
  | 0, r, _ => r
  | _ + 1, r, [] => r
  | n + 1, r, (b', b) :: l => match look r b' with
    | some _ => findR h' h n r l
    | none => match get? h' b', get? h b with
      | some x', some x => findR h' h n ((b', b) :: r) (app (x'.pairs x) l)
      | some _, none => findR h' h n ((b', b) :: r) l
      | _, _ => findR h' h n r l
def ident : Nat → List (Nat × Nat)
  | 0 => []
  | n + 1 => (n, n) :: ident n

def eqC (r : List (Nat × Nat)) : List (Nat × Nat) → List (Nat × Nat) → Prop
  | [], [] => True
  | (b', o') :: l', (b, o) :: l => if look r b' = some b ∧ o' = o then eqC r l' l else False
  | _, _ => False
def SV.eqs (r : List (Nat × Nat)) : SV → SV → Prop
  | .any, _ => True
  | .con k' n', .con k n => if k' = k ∧ n' = n then True else False
  | .sym k' n', .con k n => if k' = k then n' = n else False
  | .con k' n', .sym k n => if k' = k then n' = n else False
  | .sym k' n', .sym k n => if k' = k then n' = n else False
  | .cb b', .cb b => if b' = b then True else False
  | .sb b', .cb b => b' = b
  | .cb b', .sb b => b' = b
  | .sb b', .sb b => b' = b
  | .cstr s', .cstr s => if s' = s then True else False
  | .str s', .cstr s => s' = s
  | .str s', .str s => s' = s
  | .ptr b' o', .ptr b o => if look r b' = some b ∧ o' = o then True else False
  | .nilp, .nilp => True
  | .sl b' o' n' c', .sl b o n c => if look r b' = some b ∧ o' = o ∧ n' = n ∧ c' = c then True else False
  | .nils, .nils => True
  | .ow b' z' s' n' _, .ow b z s n _ => if look r b' = some b ∧ z' = z then s' = s ∧ n' = n else False
  | .ow b' _ s' n' _, .nils => if look r b' = some (1000000 + b') then s' = 0 ∧ n' = 0 else False
  | .pe b' z' i' o', .pe b z i o => if look r b' = some b ∧ z' = z then i' = i ∧ o' = o else False
  | .rs b' z' n' c', .rs b z n c => if look r b' = some b ∧ z' = z then n' = n ∧ c' = c else False
  | .rp b' z' i' o', .rp b z i o => if look r b' = some b ∧ z' = z then i' = i ∧ o' = o else False
  | .fn f' c', .fn f c => if f' = f then eqC r c' c else False
  | .mp b', .mp b => if look r b' = some b then True else False
  | .yld b', .yld b => if look r b' = some b then True else False
  | .nilf, .nilf => True
  | .nili, .nili => True
  | .ifp t' b' o', .ifp t b o => if t' = t ∧ look r b' = some b ∧ o' = o then True else False
  | .ifi t' k' n', .ifi t k n => if t' = t ∧ k' = k then n' = n else False
  | _, _ => False
def SV.triv (r : List (Nat × Nat)) : SV → SV → Bool
  | .any, _ => true
  | .con k' n', .con k n => decide (k' = k ∧ n' = n)
  | .cb b', .cb b => b' == b
  | .ptr b' o', .ptr b o => decide (look r b' = some b ∧ o' = o)
  | .nilp, .nilp => true
  | .sl b' o' n' c', .sl b o n c => decide (look r b' = some b ∧ o' = o ∧ n' = n ∧ c' = c)
  | .nils, .nils => true
  | .mp b', .mp b => decide (look r b' = some b)
  | .yld b', .yld b => decide (look r b' = some b)
  | .nilf, .nilf => true
  | .nili, .nili => true
  | _, _ => false
def andT (b : Bool) (p q : Prop) : Prop := match b with
  | true => q
  | false => p ∧ q
theorem SV.triv_eqs {r : List (Nat × Nat)} {s' s : SV} (h : s'.triv r s = true) : s'.eqs r s := by
  unfold SV.triv at h
  split at h
  all_goals first | (cases h; done) | simp_all [SV.eqs]
theorem andT_and {b : Bool} {p q : Prop} (hb : b = true → p) (h : andT b p q) : p ∧ q := by
  cases b with
  | true => exact ⟨hb rfl, h⟩
  | false => exact h
def eqsL (r : List (Nat × Nat)) : List SV → List SV → Prop
  | [], [] => True
  | s' :: l', s :: l => andT (s'.triv r s) (s'.eqs r s) (eqsL r l' l)
  | _, _ => False
def PV.eqs (r : List (Nat × Nat)) : PV → PV → Prop
  | .one .any, _ => True
  | .one s', .one s => s'.eqs r s
  | .agg l', .agg l => eqsL r l' l
  | _, _ => False
def trivL (r : List (Nat × Nat)) : List SV → List SV → Bool
  | [], [] => true
  | s' :: l', s :: l => s'.triv r s && trivL r l' l
  | _, _ => false
theorem trivL_eqs {r : List (Nat × Nat)} : ∀ {l' l : List SV}, trivL r l' l = true → eqsL r l' l
  | [], [], _ => trivial
  | [], _ :: _, h => by simp [trivL] at h
  | _ :: _, [], h => by simp [trivL] at h
  | s' :: l', s :: l, h => by
    simp only [trivL, Bool.and_eq_true] at h
    simp only [eqsL, h.1, andT]
    exact trivL_eqs h.2
def PV.triv (r : List (Nat × Nat)) : PV → PV → Bool
  | .one s', .one s => s'.triv r s
  | .agg l', .agg l => trivL r l' l
  | _, _ => false
theorem PV.triv_eqs {r : List (Nat × Nat)} {p' p : PV} (h : p'.triv r p = true) : p'.eqs r p := by
  unfold PV.triv at h
  split at h
  · rename_i s' s
    cases s' <;> first | trivial | exact SV.triv_eqs h
  · exact trivL_eqs h
  · cases h
def eqsP (r : List (Nat × Nat)) : List PV → List PV → Prop
  | [], [] => True
  | s' :: l', s :: l => andT (s'.triv r s) (s'.eqs r s) (eqsP r l' l)
  | _, _ => False
def AV.eqs (r : List (Nat × Nat)) : AV → AV → Prop
  | .v (.one .any), _ => True
  | .v p', .v p => p'.eqs r p
  | .tup l', .tup l => eqsP r l' l
  | _, _ => False
def AV.triv (r : List (Nat × Nat)) : AV → AV → Bool
  | .v (.one .any), _ => true
  | .v p', .v p => p'.triv r p
  | .tup [], .tup [] => true
  | _, _ => false
theorem AV.triv_eqs {r : List (Nat × Nat)} {p' p : AV} (h : p'.triv r p = true) : p'.eqs r p := by
  unfold AV.triv at h
  split at h
  · simp [AV.eqs]
  · rename_i p' p _
    rcases p' with s' | c'
    · cases s' <;> first | trivial | exact PV.triv_eqs h
    · exact PV.triv_eqs h
  · trivial
  · cases h
def eqsE (r : List (Nat × Nat)) : Env → Env → Prop
  | [], [] => True
  | s' :: l', s :: l => andT (s'.triv r s) (s'.eqs r s) (eqsE r l' l)
  | _, _ => False
inductive SameLit (r : List (Nat × Nat)) (C' : Codec) (xs' : List C'.τ) (n : Nat) (c : List SV) : Prop
  | mk (hl : xs'.length = n) (hf : eqsL r (flatC C' xs') c)
def omE (C : Codec) : List (C.τ × Int) → List (PV × PV)
  | [] => []
  | (x, n) :: l => (.agg (C.enc x), .one (.sym .i64 n)) :: omE C l
inductive SameEnts (C' : Codec) (es' : List (C'.τ × Int)) (C : Codec) (es : List (C.τ × Int)) : Prop
  | mk (h : omE C' es' = omE C es)
def eqsM (r : List (Nat × Nat)) : List (PV × PV) → List (PV × PV) → Prop
  | [], [] => True
  | (k', v') :: l', (k, v) :: l => andT (k'.triv r k) (k'.eqs r k) (andT (v'.triv r v) (v'.eqs r v) (eqsM r l' l))
  | _, _ => False
inductive EntsM (C' : Codec) (es' : List (C'.τ × Int)) (es : List (PV × PV)) : Prop
  | mk (h : eqsM [] (omE C' es') es)
def Blk.eqs (r : List (Nat × Nat)) : Blk → Blk → Prop
  | .gone, _ => True
  | .row T' c', .row T c => if T' = T then eqsL r c' c else False
  | .ownL T' z' n' c', .ownL T z n c => if T' = T ∧ z' = z then n' = n ∧ eqsL r c' c else False
  | .own T' C' xs', .own T C xs => if T' = T ∧ C'.esz = C.esz then SameRows C' xs' C xs else False
  | .own T' C' xs', .ownL T z n c => if T' = T ∧ C'.esz = z then SameLit r C' xs' n c else False
  | .mp es', .mp es => eqsM r es' es
  | .omp C' es', .omp C es => SameEnts C' es' C es
  | .omp C' es', .mp es => EntsM C' es' es
  | .sit _ s' p', .sit _ s p => s' = s ∧ p' = p
  | .ro T' C' xs', .ro T C xs => if T' = T ∧ C'.esz = C.esz then SameRows C' xs' C xs else False
  | _, _ => False
def emptyB : Blk → Prop
  | .own _ _ xs => xs.length = 0
  | _ => False
def eqsAt (r : List (Nat × Nat)) (h : Heap) (n : Nat) (x' : Blk) : Prop :=
  match look r n with
  | some b => (match get? h b with | some x => x'.eqs r x | none => emptyB x')
  | none => emptyB x'
def eqsH (r : List (Nat × Nat)) (h : Heap) : Nat → Heap → Prop
  | _, [] => True
  | n, x' :: l => (match x' with
    | .gone => True
    | x' => eqsAt r h n x') ∧ eqsH r h (n + 1) l
def injR : List (Nat × Nat) → Bool
  | [] => true
  | (_, y) :: l => l.all (fun z => decide (z.2 ≠ y)) && injR l
def keepsR (r : List (Nat × Nat)) : Nat → Bool
  | 0 => true
  | n + 1 => decide (look r n = some n) && keepsR r n
def mkRen (q : Nat) (env : Env) (h : Heap) (env' : Env) (h' : Heap) : List (Nat × Nat) :=
  findR h' h 1000 (ident q) (app (pairsH (takeN q h') (takeN q h)) (pairsE env' env))
def SV.clash : SV → SV → Bool
  | .nilp, .ptr _ _ => true
  | .ptr _ _, .nilp => true
  | .nils, .ow .. => true
  | .con _ n', .con _ n => !decide (n' = n)
  | .cb b', .cb b => !(b' == b)
  | _, _ => false
def clashL : List SV → List SV → Bool
  | a :: l, b :: m => a.clash b || clashL l m
  | _, _ => false
def AV.clash : AV → AV → Bool
  | .v (.one a), .v (.one b) => a.clash b
  | _, _ => false
def clashE : Env → Env → Bool
  | a :: l, b :: m => a.clash b || clashE l m
  | _, _ => false
def Blk.clash : Blk → Blk → Bool
  | .row _ a, .row _ b => clashL a b
  | _, _ => false
def clashH (r : List (Nat × Nat)) (h : Heap) : Nat → Heap → Bool
  | _, [] => false
  | n, x' :: l => (match look r n with
    | some b => (match get? h b with
      | some x => x'.clash x
      | none => false)
    | none => false) || clashH r h (n + 1) l
def MatchBy (q : Nat) (r : List (Nat × Nat)) (env : Env) (h : Heap) (env' : Env) (h' : Heap) : Prop :=
  if injR r && keepsR r q && r.all (fun z => decide (z.1 < len' h')) && decide (len' h ≤ 1000000) && !(clashE env' env || clashH r h 0 h') then eqsE r env' env ∧ eqsH r h 0 h' else False
def forceR {β : Type _} : List (Nat × Nat) → (List (Nat × Nat) → β) → β
  | [], K => K []
  | (a, b) :: l, K => forceN a fun a => forceN b fun b => forceR l fun l => K ((a, b) :: l)
theorem forceR_eq {β : Type _} : ∀ (l : List (Nat × Nat)) (K : List (Nat × Nat) → β), forceR l K = K l
  | [], _ => rfl
  | (a, b) :: l, K => by simp only [forceR, forceN_eq]; rw [forceR_eq l]
def MatchTo (q : Nat) (env : Env) (h : Heap) (t : Env × Heap) : Prop := forceE env fun env => forceH h fun h => forceE t.1 fun env' => forceH t.2 fun h' => forceR (mkRen q env h env' h') fun r => MatchBy q r env h env' h'
theorem MatchTo_eq (q : Nat) (env : Env) (h : Heap) (t : Env × Heap) : MatchTo q env h t = MatchBy q (mkRen q env h t.1 t.2) env h t.1 t.2 := by simp only [MatchTo, forceE_eq, forceH_eq, forceR_eq]

def putD (env : Env) (d : Option Nat) (v : AV) : Env := match d with | some d => set env d v | none => env

def rep : Nat → Env
  | 0 => []
  | n + 1 => AV.undef :: rep n

def resOne (P : Program) (env : Env) (h : Heap) : ResultVar → Option PV
  | .tmp t => (match getD env t AV.any with | .v p => some p | _ => none)
  | .cell a t => (match getD env a AV.any with
    | .v (.one (.ptr b off)) => loadV P t h b off
    | _ => none)
def resAll (P : Program) (env : Env) (h : Heap) : List ResultVar → Option (List PV)
  | [] => some []
  | r :: l => match resOne P env h r, resAll P env h l with
    | some p, some ps => some (p :: ps)
    | _, _ => none
def resV (P : Program) (fn : Func) (env : Env) (h : Heap) : Option AV :=
  match resAll P env h fn.results.toList with
  | some [p] => some (.v p)
  | some ps => some (.tup ps)
  | none => none

def PV.below (n : Nat) : PV → Bool
  | .one s => s.below n
  | .agg l => belowAll n l
def belowPs (n : Nat) : List PV → Bool
  | [] => true
  | p :: l => p.below n && belowPs n l
def AV.below (n : Nat) : AV → Bool
  | .v p => p.below n
  | .tup l => belowPs n l
def belowEs (n : Nat) : List (PV × PV) → Bool
  | [] => true
  | (k, v) :: l => k.below n && v.below n && belowEs n l
def belowAs (n : Nat) : List AV → Bool
  | [] => true
  | a :: l => a.below n && belowAs n l
def Blk.below (n : Nat) : Blk → Bool
  | .gone => true
  | .row _ cs => belowAll n cs
  | .own _ _ _ => true
  | .ro _ _ _ => true
  | .omp _ _ => true
  | .sit _ _ _ => true
  | .lp e _ _ _ _ => belowAs n e
  | .ownL _ _ _ cs => belowAll n cs
  | .mp es => belowEs n es
def heapBelow (n : Nat) : Heap → Bool
  | [] => true
  | b :: l => b.below n && heapBelow n l

def trim (n : Nat) (v : AV) (h : Heap) : Heap :=
  if v.below n && heapBelow n (takeN n h) then takeN n h else h

def kRes (P : Program) (n : Nat) (fn : Func) (env : Env) (h : Heap) (K : KV) : Prop :=
  match resV P fn env h with
  | some v => K v (trim n v h)
  | none => False

def capArgs : List (Nat × Nat) → List AV
  | [] => []
  | (b, o) :: l => .v (.one (.ptr b o)) :: capArgs l
inductive GV where
  | yes | no | open_ (b : Bool) (d : Nat) | bad
def guardV (ops : List Oper) (env : Env) (o : Oper) : GV :=
  match o.guard with
  | none => .yes
  | some (j, want) => match get? ops j with
    | some oj => (match oj.dst with
      | some d => (match getD env d AV.any with
        | .v (.one (.cb b)) => if b = want then .yes else .no
        | .v (.one (.sb b)) => .open_ b d
        | .tup [] => .no
        | _ => .bad)
      | none => .bad)
    | none => .bad

def firstRegion : Code → Nat
  | .region id _ _ => id
  | .seq a _ => firstRegion a
  | .block _ b => firstRegion b
  | .loop b => firstRegion b
  | .scope b => firstRegion b
  | _ => 0

def effB : Op → Bool
  | .alloc _ => true
  | .box _ _ => true
  | .store _ _ _ => true
  | .buildSlice .. => true
  | .makeSlice .. => true
  | .makeMap .. => true
  | .mapUpdate .. => true
  | .insert .. => true
  | .range .. => true
  | .next .. => true
  | .call { callee := .builtin .append, .. } => true
  | .call { callee := .builtin .copy, .. } => true
  | _ => false
def effS (P : Program) (S : Sums) (o : Op) : Bool := effB o || isY P o || (match o with
  | .call { callee := .value (.func f), .. } => (match S.pure f with | some _ => false | none => true)
  | .call { callee := .value _, .. } => true
  | _ => false)
def headLen (P : Program) (S : Sums) : List Oper → Nat
  | [] => 0
  | o :: l => if effS P S o.op then 0 else headLen P S l + 1

def execQ (P : Program) (S : Sums) (ops : List Oper) : List Oper → Env → Heap → (Env → Prop) → Prop
  | [], env, _, K => K env
  | o :: l, env, h, K =>
    let go (env : Env) : Prop :=
      match o.op with
      | .call { callee := .value f, args, .. } => (match ev env f with
        | .v (.one (.fn f cap)) => (match S.pure f with
          | some p => kOR (p (app (evs env args.toList) (capArgs cap))) (fun v => execQ P S ops l (putD env o.dst v) h K)
          | none => False)
        | _ => False)
      | op => kOR (qopE P env h op) (fun v => execQ P S ops l (putD env o.dst v) h K)
    match guardV ops env o with
    | .yes => go env
    | .no => execQ P S ops l (putD env o.dst AV.undef) h K
    | .open_ b d => S.on.f b ((if (match o.guard with | some (_, w) => w | none => true) then go (set env d (mkB true true)) else execQ P S ops l (putD (set env d (mkB true true)) o.dst AV.undef) h K))
        ((if (match o.guard with | some (_, w) => w | none => true) then execQ P S ops l (putD (set env d (mkB true false)) o.dst AV.undef) h K else go (set env d (mkB true false))))
    | .bad => False

def insens : Op → Bool
  | .move _ => true
  | .assign _ => true
  | .binOp .. => true
  | .unOp .. => true
  | .indexAddr .. => true
  | .index .. => true
  | .fieldAddr .. => true
  | .field .. => true
  | .extract .. => true
  | .makeFunc .. => true
  | .build .. => true
  | .convert .. => true
  | .call { callee := .builtin .len, .. } => true
  | .call { callee := .builtin .cap, .. } => true
  | .call { callee := .builtin .min, .. } => true
  | .call { callee := .builtin .max, .. } => true
  | .nilCheck _ => true
  | .slice .. => true
  | _ => false
def isLoad : Op → Bool
  | .load .. => true
  | _ => false
def allocOf (P : Program) (ops : List Oper) (i : Nat) : Option (Nat × Nat × List SV) :=
  match get? ops i with
  | some o => (match o.op, o.dst, o.guard with
    | .alloc t, some d, none => (match zeroOf P t with | some z => some (d, t, z.cells) | none => none)
    | _, _, _ => none)
  | none => none
def isAlloc (P : Program) (ops : List Oper) (i : Nat) : Bool := match allocOf P ops i with | some _ => true | none => false
def depsOf (o : Oper) : List Nat := (o.after.toList.filter (Region.binds .any ·)).map (·.on)
def ancB (ops : List Oper) : Nat → Nat → Nat → Bool
  | 0, _, _ => false
  | n + 1, j, i => match get? ops j with
    | some o => (depsOf o).any (fun d => decide (d = i) || ancB ops n d i)
    | none => false
def tmpsOf (op : Op) : List Nat := op.operands.toList.filterMap (fun x => match x with | .tmp t => some t | _ => none)
def apartB (oi oj : Oper) : Bool :=
  (match oi.dst with | some d => !(tmpsOf oj.op).contains d && decide (oj.dst ≠ some d) | none => true) &&
  (match oj.dst with | some d => !(tmpsOf oi.op).contains d | none => true)
def pureCall (S : Sums) : Op → Bool
  | .call { callee := .value (.func f), .. } => (S.pure f).isSome
  | _ => false
def quietB (S : Sums) (op : Op) : Bool := insens op || isLoad op || pureCall S op
def slotOfAlloc (P : Program) (ops : List Oper) (a : Nat) (t : Nat) : Bool := match allocOf P ops a with | some (d, _, _) => decide (d = t) | none => false
def diffBlk (P : Program) (ops : List Oper) (L : Array Bool) (env : Env) : Op → Op → Bool
  | .load _ a, .store _ x _ => (match ev env a, ev env x with
    | .v (.one (.ptr b _)), .v (.one (.ptr b' _)) => decide (b ≠ b')
    | _, _ => false) && (match x with
    | .tmp t => (List.range (len' ops)).all fun k => !slotOfAlloc P ops k t && (L.getD k true || (match get? ops k with | some ok => decide (ok.dst ≠ some t) | none => true))
    | _ => true)
  | _, _ => false
def needs (P : Program) (ops : List Oper) (j : Nat) : List Nat :=
  match get? ops j with
  | some o => (List.range (len' ops)).filter fun a => (tmpsOf o.op).any fun t => slotOfAlloc P ops a t
  | none => []
def pendOf (P : Program) (ops : List Oper) (L : Array Bool) (a : Nat) : Bool :=
  isAlloc P ops a && L.getD a false && !((List.range (len' ops)).any fun j => L.getD j false && (needs P ops j).contains a)
def adoptL (P : Program) (ops : List Oper) (L : Array Bool) : List Nat → Env → Heap → Env × Heap
  | [], env, h => (env, h)
  | a :: l, env, h => if pendOf P ops L a then (match allocOf P ops a with
    | some (d, t, z) => adoptL P ops L l (set env d (.v (.one (.ptr (len' h) 0)))) (h ++ [.row t z])
    | none => adoptL P ops L l env h) else adoptL P ops L l env h
def takeA (P : Program) (ops : List Oper) (L : Array Bool) (i : Nat) (d : Nat) : Bool :=
  (List.range (len' ops)).all fun j => decide (j = i) || L.getD j true || ancB ops 4 j i ||
    (match get? ops j with | some oj => !(tmpsOf oj.op).contains d && decide (oj.dst ≠ some d) | none => true)
def takeQ (P : Program) (S : Sums) (ops : List Oper) (L : Array Bool) (env : Env) (i : Nat) (oi : Oper) : Bool :=
  oi.guard.isNone && quietB S oi.op && (needs P ops i).isEmpty &&
  ((List.range (len' ops)).all fun a => match oi.dst with | some d => !slotOfAlloc P ops a d | none => true) &&
  ((List.range (len' ops)).all fun j => decide (j = i) || L.getD j true || ancB ops 4 j i ||
    (match get? ops j with | some oj => apartB oi oj && (insens oi.op || pureCall S oi.op || quietB S oj.op || isAlloc P ops j || diffBlk P ops L env oi.op oj.op) | none => true))
def takeOk (P : Program) (S : Sums) (ops : List Oper) (L : Array Bool) (env : Env) (i : Nat) : Bool :=
  match allocOf P ops i with
  | some (d, _, _) => takeA P ops L i d
  | none => match get? ops i with
    | some oi => takeQ P S ops L env i oi
    | none => false
def qval (P : Program) (S : Sums) (env : Env) (h : Heap) : Op → OR
  | .call { callee := .value (.func f), args, .. } => (match S.pure f with
    | some p => p (app (evs env args.toList) [])
    | none => .fail)
  | op => qop P env h op
def allocsApart (P : Program) (ops : List Oper) : Bool :=
  (List.range (len' ops)).all fun i => match allocOf P ops i with
    | some (d, _, _) => (List.range (len' ops)).all fun j => decide (j = i) || (match get? ops j with | some oj => decide (oj.dst ≠ some d) | none => true)
    | none => true
def takeS (ops : List Oper) (env : Env) (i : Nat) : Bool :=
  match get? ops i with
  | some o => (match o.op with
    | .slice _ x _ _ _ => (match ev env x with
      | .v (.one (.ow ..)) => false
      | _ => true)
    | .convert _ _ x => (match ev env x with
      | .v (.one (.con ..)) => true
      | .v (.one (.sym ..)) => true
      | _ => false)
    | .indexAddr _ x j => (match ev env x, ev env j with
      | .v (.one (.ptr ..)), .v (.one (.sym ..)) => false
      | .v (.one (.ow _ _ _ _ true)), .v (.one (.sym ..)) => false
      | _, _ => true)
    | .index _ x j => (match ev env x, ev env j with
      | .v (.agg _), .v (.one (.sym ..)) => false
      | _, _ => true)
    | _ => true)
  | none => true
def findTake (P : Program) (S : Sums) (ops : List Oper) (L : Array Bool) (env : Env) : List Nat → Option Nat
  | [] => none
  | i :: l => if takeOk P S ops L env i && takeS ops env i then some i else findTake P S ops L env l

def openIx (env : Env) : Op → Bool
  | .indexAddr _ x j => (match ev env x, ev env j with
    | .v (.one (.ptr ..)), .v (.one (.sym ..)) => true
    | .v (.one (.ow _ _ _ _ true)), .v (.one (.sym ..)) => true
    | _, _ => false)
  | .index _ x j => (match ev env x, ev env j with
    | .v (.agg _), .v (.one (.sym ..)) => true
    | _, _ => false)
  | _ => false
def isIx : Op → Bool
  | .indexAddr .. => true
  | .index .. => true
  | _ => false
def dryQ (P : Program) (S : Sums) : List Oper → Env → Heap → Bool
  | [], _, _ => false
  | o :: l, env, h => match o.guard with
    | some _ => false
    | none => openIx env o.op || (match qval P S env h o.op with
      | .fail => false
      | .ok v => dryQ P S l (putD env o.dst v) h
      | .iff _ v => dryQ P S l (putD env o.dst v) h)
def dryX (P : Program) (S : Sums) (ops : List Oper) (env : Env) (h : Heap) : Bool := ops.any (fun o => isIx o.op) && dryQ P S ops env h
def allR : List Nat → (Nat → Prop) → Prop
  | [], _ => True
  | [j], f => f j
  | j :: k :: l, f => f j ∧ allR (k :: l) f
def anyM (q : Nat) (env : Env) (h : Heap) : List Ann → Prop
  | [] => False
  | [L] => ∃ x, MatchTo q env h (L.inv x)
  | L :: M :: Ls => (∃ x, MatchTo q env h (L.inv x)) ∨ anyM q env h (M :: Ls)
def allM : List Ann → (Env × Heap → Prop) → Prop
  | [], _ => True
  | [L], f => ∀ x, f (L.inv x)
  | L :: M :: Ls, f => (∀ x, f (L.inv x)) ∧ allM (M :: Ls) f
theorem anyM_get {q : Nat} {env : Env} {h : Heap} : ∀ {Ls : List Ann}, anyM q env h Ls → ∃ L, L ∈ Ls ∧ ∃ x, MatchTo q env h (L.inv x)
  | [], h => h.elim
  | [L], h => ⟨L, by simp, h⟩
  | L :: M :: Ls, h => by
    rcases h with h | h
    · exact ⟨L, by simp, h⟩
    · obtain ⟨N, h1, h2⟩ := anyM_get h
      exact ⟨N, List.mem_cons_of_mem _ h1, h2⟩
theorem allM_get {f : Env × Heap → Prop} : ∀ {Ls : List Ann}, allM Ls f → ∀ L, L ∈ Ls → ∀ x, f (L.inv x)
  | [], _, L, hL, _ => by simp at hL
  | [M], h, L, hL, x => by simp at hL; subst hL; exact h x
  | L :: M :: Ls, h, N, hN, x => by
    rcases List.mem_cons.1 hN with rfl | hN
    · exact h.1 x
    · exact allM_get h.2 N hN x
def EX.jmp : EX → Jmp
  | .normal => .none
  | .ret => .ret
  | .exit id => .exit id
def EX.goes : EX → Bool
  | .normal => true
  | _ => false
def Jmp.ex : Jmp → EX
  | .none => .normal
  | .ret => .ret
  | .exit id => .exit id
def putAll : Env → List Nat → List AV → Option Env
  | e, [], [] => some e
  | e, p :: ps, v :: vs => putAll (set e p v) ps vs
  | _, _, _ => none
def endLp (b : Nat) (e : List AV) (ps : Array Tmp) (asg body : Code) (K : KV) (ex : EX) (h : Heap) : Prop := match get? h b with
  | some .gone => K (.v (.one (.cb ex.goes))) (set h b (.lp e ps asg body ex.jmp))
  | _ => False
def outLp (b : Nat) (env : Env) (h : Heap) (K : KE) : Prop := match get? h b with
  | some (.lp _ _ _ _ j) => K j.ex env (set h b .gone)
  | _ => False
mutual
def exec (P : Program) (S : Sums) (A : Annos) : Nat → Code → Env → Heap → KE → Prop
  | 0, _, _, _, _ => False
  | n + 1, c, env, h, K => match c with
    | .skip => K .normal env h
    | .label _ => K .normal env h
    | .seq a b => (match A.cut (firstRegion b) env h with
      | [] => exec P S A n a env h (fun e env h => match e with | .normal => exec P S A n b env h K | e => K e env h)
      | L :: Ls => exec P S A n a env h (fun e env h => match e with | .normal => anyM A.q env h (L :: Ls) | e => K e env h) ∧ allM (L :: Ls) (fun t => exec P S A n b t.1 t.2 K))
    | .cond c t e => match ev env c with
      | .v (.one (.cb true)) => exec P S A n t env h K
      | .v (.one (.cb false)) => exec P S A n e env h K
      | .v (.one (.sb b)) => S.on.f b (exec P S A n t env h K) (exec P S A n e env h K)
      | _ => False
    | .block id body => exec P S A n body env h (fun e env h => match e with | .exit i => if i = id then K .normal env h else K (.exit i) env h | e => K e env h)
    | .loop body => forceE env fun env => forceH h fun h => (match A.loop (firstRegion body) env h with
      | none => exec P S A n body env h (fun e env h => match e with | .normal => exec P S A n (.loop body) env h K | e => K e env h)
      | some ⟨_, inv, mu⟩ => (∃ x, MatchTo A.q env h (inv x)) ∧ ∀ x, exec P S A n body (inv x).1 (inv x).2 (fun e env h => match e with | .normal => ∃ y, mu y < mu x ∧ MatchTo A.q env h (inv y) | e => K e env h))
    | .exit id => K (.exit id) env h
    | .ret => K .ret env h
    | .region _ ops draw => forceE env fun env => forceH h fun h =>
      if draw then
        (if Region.lexB .any ops && decide (headLen P S ops.toList = len' ops.toList) && !dryX P S ops.toList env h then execQ P S ops.toList ops.toList env h (fun env => K .normal env h)
         else if Region.lexTailB .any ops (headLen P S ops.toList) && !dryX P S ops.toList env h then
            execQ P S ops.toList (takeN (headLen P S ops.toList) ops.toList) env h (fun env => execOps P S A n ops.toList (dropN (headLen P S ops.toList) ops.toList) env h (K .normal))
         else if allocsApart P ops.toList then runPlan P S n ops (Array.replicate ops.size false) env h (K .normal)
         else False)
      else execOps P S A n ops.toList ops.toList env h (K .normal)
    | .rangeFunc g ps asg body => (match ev env g with
      | .v (.one (.fn f cap)) => (match P.funcs[f]? with
        | some fn => (match fn.body with
          | some c => forceE env fun env => exec P S (S.annOf f (len' h + 1)) n c (app (.v (.one (.yld (len' h))) :: capArgs cap) (rep (fn.ntmps - len' (AV.v (.one (.yld (len' h))) :: capArgs cap)))) (app h [.lp env ps asg body .none]) (fun ex env' h' => match ex with
            | .exit _ => False
            | _ => kRes P (len' h + 1) fn env' h' (fun _ h2 => outLp (len' h) env h2 K))
          | none => False)
        | none => False)
      | _ => False)
    | _ => False
def execOps (P : Program) (S : Sums) (A : Annos) : Nat → List Oper → List Oper → Env → Heap → (Env → Heap → Prop) → Prop
  | 0, _, _, _, _, _ => False
  | _ + 1, _, [], env, h, K => K env h
  | n + 1, ops, o :: l, env, h, K =>
    match guardV ops env o with
    | .yes => if isB P o.op then (match o.op with
        | .convert s d x => convB P s d (ev env x) h (fun v h => execOps P S A n ops l (putD env o.dst v) h K)
        | _ => False)
      else exec1 P S n o.op env h (fun v h => execOps P S A n ops l (putD env o.dst v) h K)
    | .no => execOps P S A n ops l (putD env o.dst AV.undef) h K
    | .open_ b d => S.on.f b (execOps P S A n ops (o :: l) (set env d (mkB true true)) h K) (execOps P S A n ops (o :: l) (set env d (mkB true false)) h K)
    | .bad => False
def runPlan (P : Program) (S : Sums) : Nat → Array Oper → Array Bool → Env → Heap → (Env → Heap → Prop) → Prop
  | 0, _, _, _, _, _ => False
  | n + 1, ops, L, env, h, K =>
    match Region.ready .any ops L with
    | [] => K env h
    | r :: R => match findTake P S ops.toList L env (r :: R) with
      | some i => (match allocOf P ops.toList i with
        | some (d, _, _) => if d < len' env then runPlan P S n ops (L.setIfInBounds i true) (set env d AV.any) h K else False
        | none => (match get? ops.toList i with
          | some o => kOR (qval P S env h o.op) (fun v => runPlan P S n ops (L.setIfInBounds i true) (putD env o.dst v) h K)
          | none => False))
      | none => allR (r :: R) (fun j => match allocOf P ops.toList j, get? ops.toList j with
        | none, some o => (match o.guard with
          | none => exec1 P S n o.op (adoptL P ops.toList L (needs P ops.toList j) env h).1 (adoptL P ops.toList L (needs P ops.toList j) env h).2
              (fun v h2 => runPlan P S n ops (L.setIfInBounds j true) (putD (adoptL P ops.toList L (needs P ops.toList j) env h).1 o.dst v) h2 K)
          | some _ => False)
        | _, _ => False)
def exec1 (P : Program) (S : Sums) : Nat → Op → Env → Heap → KV → Prop
  | 0, _, _, _, _ => False
  | n + 1, op, env, h, K =>
    match op with
    | .call { callee := .value f, args, .. } => (match ev env f with
      | .v (.one (.fn f cap)) => (match S.pure f with
        | some p => kOR (p (app (evs env args.toList) (capArgs cap))) (fun v => K v h)
        | none => match S.spec f with
          | some sp => sp (app (evs env args.toList) (capArgs cap)) h K
          | none => match S.ext f with
            | some p => kOR (p (app (evs env args.toList) (capArgs cap))) (fun v => K v h)
            | none => match P.funcs[(match S.twin f with | some g => g | none => f)]? with
            | some fn => (match fn.body with
              | some c => exec P S (S.annOf f (len' h)) n c (app (app (evs env args.toList) (capArgs cap)) (rep (fn.ntmps - len' (app (evs env args.toList) (capArgs cap))))) h (fun e env' h' => match e with
                  | .ret => kRes P (len' h) fn env' h' K
                  | .normal => kRes P (len' h) fn env' h' K
                  | _ => False)
              | none => False)
            | none => False)
      | .v (.one (.yld b)) => (match get? h b with
        | some (.lp e ps asg body .none) => (match putAll e ps.toList (evs env args.toList) with
          | some e1 => exec P S noAnn n asg e1 (set h b .gone) (fun ex e2 h2 => match ex with
            | .normal => exec P S noAnn n body e2 h2 (fun ex _ h3 => endLp b e ps asg body K ex h3)
            | _ => False)
          | none => False)
        | _ => False)
      | _ => False)
    | op => aop P env h op K
end

def call (P : Program) (S : Sums) (A : Annos) (n : Nat) (fn : Func) (args : List AV) (h : Heap) (K : KV) : Prop :=
  match fn.body with
  | some c => exec P S A n c (app args (rep (fn.ntmps - len' args))) h (fun e env' h' => match e with
      | .ret => kRes P (len' h) fn env' h' K
      | .normal => kRes P (len' h) fn env' h' K
      | _ => False)
  | none => False

end Go.AM

import Derived.Test.YthjbfklheepfpaaGreatDoorPT2
set_option linter.unusedVariables false
set_option linter.unusedSimpArgs false
set_option maxHeartbeats 4000000
open Go Go.AM Go.Proofs
namespace Go.AM
open Dist
set_option maxRecDepth 100000
structure Rd where
  a : Int
  b : Int
  c : Int
  d : Int
  e : Int
  f : Int
  g : Int
  h : Int
  i : Int
  x : Int
  y : Int
  z : Int
  at' : Int
  err : Int
def rdZ (p e : Int) : Rd := ⟨0, 0, 0, 0, 0, 0, 0, 0, 0, 0, 0, 0, p, e⟩
def rdV (r : Rd) : Value := .tuple #[.agg #[.int .i64 r.a, .int .i64 r.b, .int .i64 r.c, .int .i64 r.d, .int .i64 r.e, .int .i64 r.f, .int .i64 r.g, .int .i64 r.h, .int .i64 r.i, .int .i64 r.x, .int .i64 r.y, .int .i64 r.z], .int .i64 r.at', .int .i64 r.err]
def rdS (r : Rd) : AV := .tup [.agg [.sym .i64 r.a, .sym .i64 r.b, .sym .i64 r.c, .sym .i64 r.d, .sym .i64 r.e, .sym .i64 r.f, .sym .i64 r.g, .sym .i64 r.h, .sym .i64 r.i, .sym .i64 r.x, .sym .i64 r.y, .sym .i64 r.z], .one (.sym .i64 r.at'), .one (.sym .i64 r.err)]
def madeR (a b c d e f g h i x y z : Int) : Rd :=
  ⟨mkO (matE a b c d e f g h i) a, mkO (matE a b c d e f g h i) b, mkO (matE a b c d e f g h i) c, mkO (matE a b c d e f g h i) d, mkO (matE a b c d e f g h i) e, mkO (matE a b c d e f g h i) f, mkO (matE a b c d e f g h i) g, mkO (matE a b c d e f g h i) h, mkO (matE a b c d e f g h i) i, mkO (matE a b c d e f g h i) (md24 x), mkO (matE a b c d e f g h i) (md24 y), mkO (matE a b c d e f g h i) (md24 z), 0, matE a b c d e f g h i⟩
def rowT (ys : List Tok) (r : RR) (k : Int) (next : Rd) : Rd := if 0 ≤ r.fault then rdZ r.fault 12 else if ¬ (tk ys r.st).kind = k then rdZ (tk ys r.st).pos 12 else next
def row0 (ys : List Tok) : RR := rowF ys 0
def row1 (ys : List Tok) : RR := rowF ys (nx ys (row0 ys).st)
def row2 (ys : List Tok) : RR := rowF ys (nx ys (row1 ys).st)
def readT (ys : List Tok) : Rd := rowT ys (row0 ys) 44 (rowT ys (row1 ys) 44 (rowT ys (row2 ys) 46 (madeR (row0 ys).e0 (row0 ys).e1 (row0 ys).e2 (row1 ys).e0 (row1 ys).e1 (row1 ys).e2 (row2 ys).e0 (row2 ys).e1 (row2 ys).e2 (row0 ys).parts (row1 ys).parts (row2 ys).parts)))
def readF (s : List UInt8) : Rd := if 65536 < s.length then rdZ 0 2 else readT (toks s)
def mdR (x : Int) : Int := (IntKind.i64.wrap (x.tmod 24 + 24)).tmod 24
def qRead : PSpec
  | [.v (.one (.str s))] => .ok (rdS (readF s))
  | _ => .fail
theorem nfread (s : List UInt8) (K : KV) : call P (Y6 stdOn) noAnn 10000 Tryz.f15 [.v (.one (.str s))] [] K = ((decide ((65536:Int)<(↑s.length:Int))=true->K (.tup [.agg [.con .i64 (0:Int),.con .i64 (0:Int),.con .i64 (0:Int),.con .i64 (0:Int),.con .i64 (0:Int),.con .i64 (0:Int),.con .i64 (0:Int),.con .i64 (0:Int),.con .i64 (0:Int),.con .i64 (0:Int),.con .i64 (0:Int),.con .i64 0],.one (.con .i64 0),.one (.con .i64 2)]) [])/\(decide ((65536:Int)<(↑s.length:Int))=false->s.length.le 65536/\∃ (z:List tokC.τ),SameRows tokC z tokC (toks s)/\(((toks s).length=z.length-0/\(Nat.succ 0).le z.length)/\(∀ (i:Nat),(tk z i).kind=110->((tk z i).text=[]->False)/\∀ (b:UInt8),b ∈ (tk z i).text->Nat.le 48 b.toNat/\b.toNat.le 57)/\(∀ (i:Nat),(tk z i).kind=120->(tk z i).text=[(120:UInt8)]\/(tk z i).text=[(121:UInt8)]\/(tk z i).text=[(122:UInt8)])/\(tk z (z.length-1)).kind=46/\z.length.le 4611686018427387904)/\(decide ((0:Int)<=(rowF z 0).fault)=true->K (.tup [.agg [.con .i64 (0:Int),.con .i64 (0:Int),.con .i64 (0:Int),.con .i64 (0:Int),.con .i64 (0:Int),.con .i64 (0:Int),.con .i64 (0:Int),.con .i64 (0:Int),.con .i64 (0:Int),.con .i64 (0:Int),.con .i64 (0:Int),.con .i64 0],.one (.sym .i64 (rowF z 0).fault),.one (.con .i64 12)]) [])/\(decide ((0:Int)<=(rowF z 0).fault)=false->∃ (z_1:List tokC.τ),SameRows tokC z_1 tokC (toks s)/\(z.length-(rowF z 0).st=z_1.length-(rowF z 0).st/\(rowF z 0).st.succ.le z_1.length/\z_1.length.le 4611686018427387904)/\((!decide ((tk z_1 (rowF z 0).st).kind=44))=true->K (.tup [.agg [.con .i64 (0:Int),.con .i64 (0:Int),.con .i64 (0:Int),.con .i64 (0:Int),.con .i64 (0:Int),.con .i64 (0:Int),.con .i64 (0:Int),.con .i64 (0:Int),.con .i64 (0:Int),.con .i64 (0:Int),.con .i64 (0:Int),.con .i64 0],.one (.sym .i64 (tk z_1 (rowF z 0).st).pos),.one (.con .i64 12)]) [])/\((!decide ((tk z_1 (rowF z 0).st).kind=44))=false->∃ (z_2:List tokC.τ),SameRows tokC z_2 tokC (toks s)/\((z_1.length-nx z_1 (rowF z 0).st=z_2.length-nx z_1 (rowF z 0).st/\(nx z_1 (rowF z 0).st).succ.le z_2.length)/\(∀ (i:Nat),(tk z_2 i).kind=110->((tk z_2 i).text=[]->False)/\∀ (b:UInt8),b ∈ (tk z_2 i).text->Nat.le 48 b.toNat/\b.toNat.le 57)/\(∀ (i:Nat),(tk z_2 i).kind=120->(tk z_2 i).text=[(120:UInt8)]\/(tk z_2 i).text=[(121:UInt8)]\/(tk z_2 i).text=[(122:UInt8)])/\(tk z_2 (z_2.length-1)).kind=46/\z_2.length.le 4611686018427387904)/\(decide ((0:Int)<=(rowF z_2 (nx z_1 (rowF z 0).st)).fault)=true->K (.tup [.agg [.con .i64 (0:Int),.con .i64 (0:Int),.con .i64 (0:Int),.con .i64 (0:Int),.con .i64 (0:Int),.con .i64 (0:Int),.con .i64 (0:Int),.con .i64 (0:Int),.con .i64 (0:Int),.con .i64 (0:Int),.con .i64 (0:Int),.con .i64 0],.one (.sym .i64 (rowF z_2 (nx z_1 (rowF z 0).st)).fault),.one (.con .i64 12)]) [])/\(decide ((0:Int)<=(rowF z_2 (nx z_1 (rowF z 0).st)).fault)=false->∃ (z_3:List tokC.τ),SameRows tokC z_3 tokC (toks s)/\(z_2.length-(rowF z_2 (nx z_1 (rowF z 0).st)).st=z_3.length-(rowF z_2 (nx z_1 (rowF z 0).st)).st/\(rowF z_2 (nx z_1 (rowF z 0).st)).st.succ.le z_3.length/\z_3.length.le 4611686018427387904)/\((!decide ((tk z_3 (rowF z_2 (nx z_1 (rowF z 0).st)).st).kind=44))=true->K (.tup [.agg [.con .i64 (0:Int),.con .i64 (0:Int),.con .i64 (0:Int),.con .i64 (0:Int),.con .i64 (0:Int),.con .i64 (0:Int),.con .i64 (0:Int),.con .i64 (0:Int),.con .i64 (0:Int),.con .i64 (0:Int),.con .i64 (0:Int),.con .i64 0],.one (.sym .i64 (tk z_3 (rowF z_2 (nx z_1 (rowF z 0).st)).st).pos),.one (.con .i64 12)]) [])/\((!decide ((tk z_3 (rowF z_2 (nx z_1 (rowF z 0).st)).st).kind=44))=false->∃ (z_4:List tokC.τ),SameRows tokC z_4 tokC (toks s)/\((z_3.length-nx z_3 (rowF z_2 (nx z_1 (rowF z 0).st)).st=z_4.length-nx z_3 (rowF z_2 (nx z_1 (rowF z 0).st)).st/\(nx z_3 (rowF z_2 (nx z_1 (rowF z 0).st)).st).succ.le z_4.length)/\(∀ (i:Nat),(tk z_4 i).kind=110->((tk z_4 i).text=[]->False)/\∀ (b:UInt8),b ∈ (tk z_4 i).text->Nat.le 48 b.toNat/\b.toNat.le 57)/\(∀ (i:Nat),(tk z_4 i).kind=120->(tk z_4 i).text=[(120:UInt8)]\/(tk z_4 i).text=[(121:UInt8)]\/(tk z_4 i).text=[(122:UInt8)])/\(tk z_4 (z_4.length-1)).kind=46/\z_4.length.le 4611686018427387904)/\(decide ((0:Int)<=(rowF z_4 (nx z_3 (rowF z_2 (nx z_1 (rowF z 0).st)).st)).fault)=true->K (.tup [.agg [.con .i64 (0:Int),.con .i64 (0:Int),.con .i64 (0:Int),.con .i64 (0:Int),.con .i64 (0:Int),.con .i64 (0:Int),.con .i64 (0:Int),.con .i64 (0:Int),.con .i64 (0:Int),.con .i64 (0:Int),.con .i64 (0:Int),.con .i64 0],.one (.sym .i64 (rowF z_4 (nx z_3 (rowF z_2 (nx z_1 (rowF z 0).st)).st)).fault),.one (.con .i64 12)]) [])/\(decide ((0:Int)<=(rowF z_4 (nx z_3 (rowF z_2 (nx z_1 (rowF z 0).st)).st)).fault)=false->∃ (z_5:List tokC.τ),SameRows tokC z_5 tokC (toks s)/\(z_4.length-(rowF z_4 (nx z_3 (rowF z_2 (nx z_1 (rowF z 0).st)).st)).st=z_5.length-(rowF z_4 (nx z_3 (rowF z_2 (nx z_1 (rowF z 0).st)).st)).st/\(rowF z_4 (nx z_3 (rowF z_2 (nx z_1 (rowF z 0).st)).st)).st.succ.le z_5.length/\z_5.length.le 4611686018427387904)/\((!decide ((tk z_5 (rowF z_4 (nx z_3 (rowF z_2 (nx z_1 (rowF z 0).st)).st)).st).kind=46))=true->K (.tup [.agg [.con .i64 (0:Int),.con .i64 (0:Int),.con .i64 (0:Int),.con .i64 (0:Int),.con .i64 (0:Int),.con .i64 (0:Int),.con .i64 (0:Int),.con .i64 (0:Int),.con .i64 (0:Int),.con .i64 (0:Int),.con .i64 (0:Int),.con .i64 0],.one (.sym .i64 (tk z_5 (rowF z_4 (nx z_3 (rowF z_2 (nx z_1 (rowF z 0).st)).st)).st).pos),.one (.con .i64 12)]) [])/\((!decide ((tk z_5 (rowF z_4 (nx z_3 (rowF z_2 (nx z_1 (rowF z 0).st)).st)).st).kind=46))=false->K (.tup [.agg [.sym .i64 (mkO (matE (rowF z 0).e0 (rowF z 0).e1 (rowF z 0).e2 (rowF z_2 (nx z_1 (rowF z 0).st)).e0 (rowF z_2 (nx z_1 (rowF z 0).st)).e1 (rowF z_2 (nx z_1 (rowF z 0).st)).e2 (rowF z_4 (nx z_3 (rowF z_2 (nx z_1 (rowF z 0).st)).st)).e0 (rowF z_4 (nx z_3 (rowF z_2 (nx z_1 (rowF z 0).st)).st)).e1 (rowF z_4 (nx z_3 (rowF z_2 (nx z_1 (rowF z 0).st)).st)).e2) (rowF z 0).e0),.sym .i64 (mkO (matE (rowF z 0).e0 (rowF z 0).e1 (rowF z 0).e2 (rowF z_2 (nx z_1 (rowF z 0).st)).e0 (rowF z_2 (nx z_1 (rowF z 0).st)).e1 (rowF z_2 (nx z_1 (rowF z 0).st)).e2 (rowF z_4 (nx z_3 (rowF z_2 (nx z_1 (rowF z 0).st)).st)).e0 (rowF z_4 (nx z_3 (rowF z_2 (nx z_1 (rowF z 0).st)).st)).e1 (rowF z_4 (nx z_3 (rowF z_2 (nx z_1 (rowF z 0).st)).st)).e2) (rowF z 0).e1),.sym .i64 (mkO (matE (rowF z 0).e0 (rowF z 0).e1 (rowF z 0).e2 (rowF z_2 (nx z_1 (rowF z 0).st)).e0 (rowF z_2 (nx z_1 (rowF z 0).st)).e1 (rowF z_2 (nx z_1 (rowF z 0).st)).e2 (rowF z_4 (nx z_3 (rowF z_2 (nx z_1 (rowF z 0).st)).st)).e0 (rowF z_4 (nx z_3 (rowF z_2 (nx z_1 (rowF z 0).st)).st)).e1 (rowF z_4 (nx z_3 (rowF z_2 (nx z_1 (rowF z 0).st)).st)).e2) (rowF z 0).e2),.sym .i64 (mkO (matE (rowF z 0).e0 (rowF z 0).e1 (rowF z 0).e2 (rowF z_2 (nx z_1 (rowF z 0).st)).e0 (rowF z_2 (nx z_1 (rowF z 0).st)).e1 (rowF z_2 (nx z_1 (rowF z 0).st)).e2 (rowF z_4 (nx z_3 (rowF z_2 (nx z_1 (rowF z 0).st)).st)).e0 (rowF z_4 (nx z_3 (rowF z_2 (nx z_1 (rowF z 0).st)).st)).e1 (rowF z_4 (nx z_3 (rowF z_2 (nx z_1 (rowF z 0).st)).st)).e2) (rowF z_2 (nx z_1 (rowF z 0).st)).e0),.sym .i64 (mkO (matE (rowF z 0).e0 (rowF z 0).e1 (rowF z 0).e2 (rowF z_2 (nx z_1 (rowF z 0).st)).e0 (rowF z_2 (nx z_1 (rowF z 0).st)).e1 (rowF z_2 (nx z_1 (rowF z 0).st)).e2 (rowF z_4 (nx z_3 (rowF z_2 (nx z_1 (rowF z 0).st)).st)).e0 (rowF z_4 (nx z_3 (rowF z_2 (nx z_1 (rowF z 0).st)).st)).e1 (rowF z_4 (nx z_3 (rowF z_2 (nx z_1 (rowF z 0).st)).st)).e2) (rowF z_2 (nx z_1 (rowF z 0).st)).e1),.sym .i64 (mkO (matE (rowF z 0).e0 (rowF z 0).e1 (rowF z 0).e2 (rowF z_2 (nx z_1 (rowF z 0).st)).e0 (rowF z_2 (nx z_1 (rowF z 0).st)).e1 (rowF z_2 (nx z_1 (rowF z 0).st)).e2 (rowF z_4 (nx z_3 (rowF z_2 (nx z_1 (rowF z 0).st)).st)).e0 (rowF z_4 (nx z_3 (rowF z_2 (nx z_1 (rowF z 0).st)).st)).e1 (rowF z_4 (nx z_3 (rowF z_2 (nx z_1 (rowF z 0).st)).st)).e2) (rowF z_2 (nx z_1 (rowF z 0).st)).e2),.sym .i64 (mkO (matE (rowF z 0).e0 (rowF z 0).e1 (rowF z 0).e2 (rowF z_2 (nx z_1 (rowF z 0).st)).e0 (rowF z_2 (nx z_1 (rowF z 0).st)).e1 (rowF z_2 (nx z_1 (rowF z 0).st)).e2 (rowF z_4 (nx z_3 (rowF z_2 (nx z_1 (rowF z 0).st)).st)).e0 (rowF z_4 (nx z_3 (rowF z_2 (nx z_1 (rowF z 0).st)).st)).e1 (rowF z_4 (nx z_3 (rowF z_2 (nx z_1 (rowF z 0).st)).st)).e2) (rowF z_4 (nx z_3 (rowF z_2 (nx z_1 (rowF z 0).st)).st)).e0),.sym .i64 (mkO (matE (rowF z 0).e0 (rowF z 0).e1 (rowF z 0).e2 (rowF z_2 (nx z_1 (rowF z 0).st)).e0 (rowF z_2 (nx z_1 (rowF z 0).st)).e1 (rowF z_2 (nx z_1 (rowF z 0).st)).e2 (rowF z_4 (nx z_3 (rowF z_2 (nx z_1 (rowF z 0).st)).st)).e0 (rowF z_4 (nx z_3 (rowF z_2 (nx z_1 (rowF z 0).st)).st)).e1 (rowF z_4 (nx z_3 (rowF z_2 (nx z_1 (rowF z 0).st)).st)).e2) (rowF z_4 (nx z_3 (rowF z_2 (nx z_1 (rowF z 0).st)).st)).e1),.sym .i64 (mkO (matE (rowF z 0).e0 (rowF z 0).e1 (rowF z 0).e2 (rowF z_2 (nx z_1 (rowF z 0).st)).e0 (rowF z_2 (nx z_1 (rowF z 0).st)).e1 (rowF z_2 (nx z_1 (rowF z 0).st)).e2 (rowF z_4 (nx z_3 (rowF z_2 (nx z_1 (rowF z 0).st)).st)).e0 (rowF z_4 (nx z_3 (rowF z_2 (nx z_1 (rowF z 0).st)).st)).e1 (rowF z_4 (nx z_3 (rowF z_2 (nx z_1 (rowF z 0).st)).st)).e2) (rowF z_4 (nx z_3 (rowF z_2 (nx z_1 (rowF z 0).st)).st)).e2),.sym .i64 (mkO (matE (rowF z 0).e0 (rowF z 0).e1 (rowF z 0).e2 (rowF z_2 (nx z_1 (rowF z 0).st)).e0 (rowF z_2 (nx z_1 (rowF z 0).st)).e1 (rowF z_2 (nx z_1 (rowF z 0).st)).e2 (rowF z_4 (nx z_3 (rowF z_2 (nx z_1 (rowF z 0).st)).st)).e0 (rowF z_4 (nx z_3 (rowF z_2 (nx z_1 (rowF z 0).st)).st)).e1 (rowF z_4 (nx z_3 (rowF z_2 (nx z_1 (rowF z 0).st)).st)).e2) (md24 (rowF z 0).parts)),.sym .i64 (mkO (matE (rowF z 0).e0 (rowF z 0).e1 (rowF z 0).e2 (rowF z_2 (nx z_1 (rowF z 0).st)).e0 (rowF z_2 (nx z_1 (rowF z 0).st)).e1 (rowF z_2 (nx z_1 (rowF z 0).st)).e2 (rowF z_4 (nx z_3 (rowF z_2 (nx z_1 (rowF z 0).st)).st)).e0 (rowF z_4 (nx z_3 (rowF z_2 (nx z_1 (rowF z 0).st)).st)).e1 (rowF z_4 (nx z_3 (rowF z_2 (nx z_1 (rowF z 0).st)).st)).e2) (md24 (rowF z_2 (nx z_1 (rowF z 0).st)).parts)),.sym .i64 (mkO (matE (rowF z 0).e0 (rowF z 0).e1 (rowF z 0).e2 (rowF z_2 (nx z_1 (rowF z 0).st)).e0 (rowF z_2 (nx z_1 (rowF z 0).st)).e1 (rowF z_2 (nx z_1 (rowF z 0).st)).e2 (rowF z_4 (nx z_3 (rowF z_2 (nx z_1 (rowF z 0).st)).st)).e0 (rowF z_4 (nx z_3 (rowF z_2 (nx z_1 (rowF z 0).st)).st)).e1 (rowF z_4 (nx z_3 (rowF z_2 (nx z_1 (rowF z 0).st)).st)).e2) (md24 (rowF z_4 (nx z_3 (rowF z_2 (nx z_1 (rowF z 0).st)).st)).parts))],.one (.con .i64 0),.one (.sym .i64 (matE (rowF z 0).e0 (rowF z 0).e1 (rowF z 0).e2 (rowF z_2 (nx z_1 (rowF z 0).st)).e0 (rowF z_2 (nx z_1 (rowF z 0).st)).e1 (rowF z_2 (nx z_1 (rowF z 0).st)).e2 (rowF z_4 (nx z_3 (rowF z_2 (nx z_1 (rowF z 0).st)).st)).e0 (rowF z_4 (nx z_3 (rowF z_2 (nx z_1 (rowF z 0).st)).st)).e1 (rowF z_4 (nx z_3 (rowF z_2 (nx z_1 (rowF z 0).st)).st)).e2))]) [])))))))) := by kernel_rfl
theorem letP_lt {ys : List Tok} {x : RS} {sk : Int} {q : Nat} (hq : q < ys.length) : match letP ys x sk q with | .inl y => y.st < ys.length | .inr r => r.st < ys.length := by
  have h := nx_lt hq
  unfold letP
  by_cases c0 : (tk ys q).text = [120]
  · rw [if_pos c0]
    by_cases d : x.s0 = true
    · rw [if_pos d]; exact h
    · rw [if_neg d]; exact h
  · rw [if_neg c0]
    by_cases c1 : (tk ys q).text = [121]
    · rw [if_pos c1]
      by_cases d : x.s1 = true
      · rw [if_pos d]; exact h
      · rw [if_neg d]; exact h
    · rw [if_neg c1]
      by_cases d : x.s2 = true
      · rw [if_pos d]; exact h
      · rw [if_neg d]; exact h
theorem stepR_lt {ys : List Tok} {x : RS} (hs : x.st < ys.length) : match stepR ys x with | .inl y => y.st < ys.length | .inr r => r.st < ys.length := by
  have k0 := (sgN_lt hs).1
  have k1 := nx_lt k0
  have k2 := frS_lt k0 x.again
  by_cases c1 : x.first = false ∧ sgB ys x.st = false
  · rw [stepR, if_pos c1]; exact k0
  · rw [stepR, if_neg c1]
    by_cases c2 : (tk ys (sgN ys x.st)).kind = 110 ∧ (tk ys (nx ys (sgN ys x.st))).kind = 120
    · rw [if_pos c2]
      by_cases c3 : numV (tk ys (sgN ys x.st)).text 1000 < 1
      · rw [if_pos c3]; exact k1
      · rw [if_neg c3]; exact letP_lt k1
    · rw [if_neg c2]
      by_cases c4 : (tk ys (sgN ys x.st)).kind = 120
      · rw [if_pos c4]; exact letP_lt k0
      · rw [if_neg c4]
        by_cases c5 : (tk ys (sgN ys x.st)).kind = 110
        · rw [if_pos c5]
          by_cases c7 : 0 ≤ (frS ys (sgN ys x.st) x.again).2.1
          · rw [if_pos c7]; exact k2
          · rw [if_neg c7]; exact k2
        · rw [if_neg c5]; exact k0
theorem rowR_lt {ys : List Tok} : ∀ (n : Nat) (x : RS), x.st < ys.length → (rowR ys n x).st < ys.length
  | 0, x, h => h
  | n + 1, x, h => by
    have hs := stepR_lt h
    unfold rowR
    split
    · rename_i r he
      rw [he] at hs
      exact hs
    · rename_i y he
      rw [he] at hs
      exact rowR_lt n y hs
theorem rowF_lt {ys : List Tok} {st : Nat} (h : st < ys.length) : (rowF ys st).st < ys.length := rowR_lt _ _ h
theorem hRead : Holds P (Y6 stdOn) 15 qRead := by
  refine holdsA (fn := Tryz.f15) noAnn 10000 rfl (by kernel_rfl) (by kernel_rfl) fun args av hg => ?_
  unfold qRead at hg
  split at hg
  · rename_i s
    rw [gives_ok hg]
    refine ⟨rfl, rdV (readF s), rfl, ?_⟩
    rw [nfread]
    refine ⟨fun hl => ?_, fun hl => ?_⟩
    · rw [show readF s = rdZ 0 2 from if_pos (by have := of_decide_eq_true hl; omega)]
      exact ⟨rfl, rfl⟩
    · have hs : s.length ≤ 65536 := by have := of_decide_eq_false hl; omega
      have e : readF s = readT (toks s) := if_neg (by omega)
      rw [e]
      have hok := toks_ok hs
      have h0 := toks_len s
      generalize toks s = ys at *
      have k0 : (row0 ys).st < ys.length := rowF_lt h0
      have k1 := nx_lt k0
      have k2 : (row1 ys).st < ys.length := rowF_lt k1
      have k3 := nx_lt k2
      have k4 : (row2 ys).st < ys.length := rowF_lt k3
      have hb := hok.2.2.2
      refine ⟨hs, ys, sameT (C := tokC) ys, ⟨⟨rfl, h0⟩, hok⟩, fun f0 => ?_, fun f0 => ⟨ys, sameT (C := tokC) ys, ⟨rfl, k0, hb⟩, fun c0 => ?_, fun c0 => ⟨ys, sameT (C := tokC) ys, ⟨⟨rfl, k1⟩, hok⟩, fun f1 => ?_, fun f1 => ⟨ys, sameT (C := tokC) ys, ⟨rfl, k2, hb⟩, fun c1 => ?_, fun c1 => ⟨ys, sameT (C := tokC) ys, ⟨⟨rfl, k3⟩, hok⟩, fun f2 => ?_, fun f2 => ⟨ys, sameT (C := tokC) ys, ⟨rfl, k4, hb⟩, fun c2 => ?_, fun c2 => ?_⟩⟩⟩⟩⟩⟩
      · rw [show readT ys = rdZ (row0 ys).fault 12 from if_pos (of_decide_eq_true f0)]
        exact ⟨rfl, rfl⟩
      · rw [show readT ys = rdZ (tk ys (row0 ys).st).pos 12 from (if_neg (of_decide_eq_false f0)).trans (if_pos (by simpa [row0] using c0))]
        exact ⟨rfl, rfl⟩
      · rw [show readT ys = rdZ (row1 ys).fault 12 from (if_neg (of_decide_eq_false f0)).trans ((if_neg (by simpa [row0] using c0)).trans (if_pos (of_decide_eq_true f1)))]
        exact ⟨rfl, rfl⟩
      · rw [show readT ys = rdZ (tk ys (row1 ys).st).pos 12 from (if_neg (of_decide_eq_false f0)).trans ((if_neg (by simpa [row0] using c0)).trans ((if_neg (of_decide_eq_false f1)).trans (if_pos (by simpa [row1, row0] using c1))))]
        exact ⟨rfl, rfl⟩
      · rw [show readT ys = rdZ (row2 ys).fault 12 from (if_neg (of_decide_eq_false f0)).trans ((if_neg (by simpa [row0] using c0)).trans ((if_neg (of_decide_eq_false f1)).trans ((if_neg (by simpa [row1, row0] using c1)).trans (if_pos (of_decide_eq_true f2)))))]
        exact ⟨rfl, rfl⟩
      · rw [show readT ys = rdZ (tk ys (row2 ys).st).pos 12 from (if_neg (of_decide_eq_false f0)).trans ((if_neg (by simpa [row0] using c0)).trans ((if_neg (of_decide_eq_false f1)).trans ((if_neg (by simpa [row1, row0] using c1)).trans ((if_neg (of_decide_eq_false f2)).trans (if_pos (by simpa [row2, row1, row0] using c2))))))]
        exact ⟨rfl, rfl⟩
      · rw [show readT ys = madeR (row0 ys).e0 (row0 ys).e1 (row0 ys).e2 (row1 ys).e0 (row1 ys).e1 (row1 ys).e2 (row2 ys).e0 (row2 ys).e1 (row2 ys).e2 (row0 ys).parts (row1 ys).parts (row2 ys).parts from (if_neg (of_decide_eq_false f0)).trans ((if_neg (by simpa [row0] using c0)).trans ((if_neg (of_decide_eq_false f1)).trans ((if_neg (by simpa [row1, row0] using c1)).trans ((if_neg (of_decide_eq_false f2)).trans (if_neg (by simpa [row2, row1, row0] using c2))))))]
        exact ⟨rfl, rfl⟩
  · exact (gives_fail hg).elim
end Go.AM
open Go Go.AM Go.Proofs
namespace Go.AM
open Dist
def Y7 (o : OnB) : Sums := (Y6 o).add 15 qRead
theorem pY7 (o : OnB) : OkS P (Y7 o) := (pY6 o).add1 fine (pY6 stdOn) hRead
end Go.AM

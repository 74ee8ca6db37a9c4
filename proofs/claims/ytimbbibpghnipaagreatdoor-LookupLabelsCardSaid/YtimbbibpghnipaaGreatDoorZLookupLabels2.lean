/- Part 2 of the texts of this claim: what its theorem leans on. -/
import Derived.Test.YtimbbibpghnipaaGreatDoorZLookupLabels1
import Derived.Lib.AppendZerosOnto
import Derived.Laws.Runes
import Derived.ArgAppend
import Derived.Laws.IdiomStrings
import Derived.Laws.CopyRow
import Derived.RangeFuncRecord
import Derived.Laws.Strings2
set_option linter.all false
open Option renaming some→Ac,none→C7
open Bool renaming false→Aj,true→Bp
open Go renaming Value→BZ,Operand→DQ,TypeId→Gq,Program→GN,World→IU,execOp→Kt,Oper→K7,IntKind→Lo
open Decidable renaming decide→Dl
open List renaming length→FD,replicate→T8,take_of_length_le→w8,drop_drop→xe
open Nat renaming beq→Hh,eq_of_beq_eq_true→aU,blt→aX,ble→iT
open Go.Op renaming operands→af,equalIn→ns,equal→qn,bytesLess→rI,stringOp→wV,maxDepth→Alu
open Go.Call renaming operands→gv
open Go.Result renaming andThen_ok→iP,andThen→je
open Go.Sem renaming run_bind→mZ
open Go.Instr renaming fill→ny,sliceAt→rK
open Go.Builtin renaming zeroCells→oB,copy_→wo,firstCells→wI
open Go renaming sizeOf→q6
open Go.Addr renaming add_lit→rB,add→xt
namespace Go.GV
open Go Go.GK
section
variable {N : C9} {R : Type} {P : GN} {C : List (SV N.T)} {S : Nat -> SV N.T} {Rr : Nat -> Option (SR N.T)} {nk : Nat} {o : K7} {k : Bx N.T -> Nat -> Option R} {r : R}
def OH(k:Lo)(m n:Int):Int:=k.wrap ((BitVec.ofInt k.bits m&&&BitVec.ofInt k.bits n).toNat:Int)
def XI(k:Lo)(m n:Int):Int:=k.wrap ((BitVec.ofInt k.bits m|||BitVec.ofInt k.bits n).toNat:Int)
def T0(k:Lo)(m n:Int):Int:=m.fdiv (2^min n.toNat k.bits)
def NM(k:Lo)(m n:Int):Int:=m*2^min n.toNat k.bits
def qG(b:BinOp)(a:Lo)(m n:Int)(nk:Nat)(k:Bx N.T->Nat->Option R):Option R:=match b with
 | .add=>Aa a (m+n) (k ⟨.d (.int a) (m+n),[],[]⟩ nk)
 | .sub=>Aa a (m-n) (k ⟨.d (.int a) (m-n),[],[]⟩ nk)
 | .mul=>Aa a (m*n) (k ⟨.d (.int a) (m*n),[],[]⟩ nk)
 | .lss=>k ⟨.d .bool (Dl (m<n)),[],[]⟩ nk
 | .leq=>k ⟨.d .bool (Dl (m<=n)),[],[]⟩ nk
 | .gtr=>k ⟨.d .bool (Dl (n<m)),[],[]⟩ nk
 | .geq=>k ⟨.d .bool (Dl (n<=m)),[],[]⟩ nk
 | .eql=>k ⟨.d .bool (Dl (m=n)),[],[]⟩ nk
 | .neq=>k ⟨.d .bool (Dl (m≠n)),[],[]⟩ nk
 | .quo=>Ag (n≠0) (Aa a (m.tdiv n) (k ⟨.d (.int a) (m.tdiv n),[],[]⟩ nk))
 | .rem=>Ag (n≠0) (Aa a (m.tmod n) (k ⟨.d (.int a) (m.tmod n),[],[]⟩ nk))
 | .and=>Aa a (OH a m n) (k ⟨.d (.int a) (OH a m n),[],[]⟩ nk)
 | .or=>Aa a (XI a m n) (k ⟨.d (.int a) (XI a m n),[],[]⟩ nk)
 | .shr=>Ag (0<=n) (Aa a (T0 a m n) (k ⟨.d (.int a) (T0 a m n),[],[]⟩ nk))
 | .shl=>Ag (0<=n) (Aa a (NM a m n) (k ⟨.d (.int a) (NM a m n),[],[]⟩ nk))
 |_=>C7
section
variable {H : Hp} {O : List Aw} {E : DQ -> Option BZ} {T Tx Ty : Gq} {x y : DQ} {kk : Lo} {m n : Int}
section
variable{a b:Aq}
theorem Aig(e:E x=Ac (.int kk m))(f:E y=Ac (.int kk n))(h0:n≠0)(h:kk.min<=m.tdiv n/\m.tdiv n<=kk.max):Au P (.binOp .quo Tx x y Ty) T E H O (.int kk (m.tdiv n)):= .Ao λa w o d _ c _=>by simp_all[Kt,eqGuard,binOp,Op.intDiv,DX]
theorem Aif(e:E x=Ac (.int kk m))(f:E y=Ac (.int kk n))(h0:n≠0):Au P (.binOp .rem Tx x y Ty) T E H O (.int kk (m.tmod n)):= .Ao λa w o d _ c _=>by simp_all[Kt,eqGuard,binOp,Op.intDiv]
theorem Au.OH(e:E x=Ac (.int kk m))(f:E y=Ac (.int kk n)):Au P (.binOp .and Tx x y Ty) T E H O (.int kk (OH kk m n)):= .Ao λa w o d _ c _=>by simp_all[Kt,eqGuard,binOp,Op.intBits,GV.OH]
theorem Au.XI(e:E x=Ac (.int kk m))(f:E y=Ac (.int kk n)):Au P (.binOp .or Tx x y Ty) T E H O (.int kk (XI kk m n)):= .Ao λa w o d _ c _=>by simp_all[Kt,eqGuard,binOp,Op.intBits,GV.XI]
theorem Au.T0(e:E x=Ac (.int kk m))(f:E y=Ac (.int kk n))(h0:0<=n):Au P (.binOp .shr Tx x y Ty) T E H O (.int kk (T0 kk m n)):= .Ao λa w o d _ c _=>by simp[Kt,d,c x _ e,c y _ f,eqGuard,binOp,Op.shift,GV.T0,Agq.2 h0]
theorem Au.NM(e:E x=Ac (.int kk m))(f:E y=Ac (.int kk n))(h0:0<=n)(h:kk.min<=NM kk m n/\NM kk m n<=kk.max):Au P (.binOp .shl Tx x y Ty) T E H O (.int kk (NM kk m n)):= .Ao λa w o d _ c _=>by have:=DX h;unfold GV.NM at this;simp[Kt,d,c x _ e,c y _ f,eqGuard,binOp,Op.shift,GV.NM,Agq.2 h0,this]
theorem Akc(f:E x=Ac (sv a))(g:E y=Ac (sv b)):Au P (.binOp .leq Tx x y Ty) T E H O (.bool (rI a b||decide (a=b))):= .Ao λi w o e _ d _=>by
 have h:(a==b)=Dl (a=b):=by grind
 simp_all[sv,Kt,eqGuard,binOp,wV]
theorem Akg(f:E x=Ac (sv a))(g:E y=Ac (sv b)):Au P (.binOp .gtr Tx x y Ty) T E H O (.bool (!(rI a b||decide (a=b)))):= .Ao λi w o e _ d _=>by
 have h:(a==b)=Dl (a=b):=by grind
 simp_all[sv,Kt,eqGuard,binOp,wV]
theorem Akf(f:E x=Ac (sv a))(g:E y=Ac (sv b)):Au P (.binOp .geq Tx x y Ty) T E H O (.bool (!Op.bytesLess a b)):= .Ao λh w o e _ d _=>by simp_all[sv,Kt,eqGuard,binOp,wV]
theorem Au.neg(f:E x=Ac (.int kk n))(h:kk.min<=0-n/\0-n<=kk.max):Au P (.unOp .neg Tx x) T E H O (.int kk (0-n)):= .Ao λa w o e _ d _=>by simp_all[Kt,Op.unary,Op.intArith,DX]
end
end
section
variable{s:SV N.T}{η:Nat->BZ}{H:Hp}{v:BZ}{x:DQ}{t:Gq}
def vF(b:BinOp)(m n:Aq)(nk:Nat)(k:Bx N.T->Nat->Option R):Option R:=match b with
 | .eql=>k ⟨.d .bool (Dl (m=n)),[],[]⟩ nk
 | .neq=>k ⟨.d .bool (!decide (m=n)),[],[]⟩ nk
 | .lss=>k ⟨.d .bool (rI m n),[],[]⟩ nk
 | .leq=>k ⟨.d .bool (rI m n||decide (m=n)),[],[]⟩ nk
 | .gtr=>k ⟨.d .bool (!(rI m n||decide (m=n))),[],[]⟩ nk
 | .geq=>k ⟨.d .bool (!Op.bytesLess m n),[],[]⟩ nk
 | .add=>Ag (m.length+n.length<=Ah) (k ⟨.d .str (m++n),[],[]⟩ nk)
 |_=>C7
def jm(s:SV N.T):Option Bool:=eZ N .bool s
def Th(s:SV N.T):Option Aq:=eZ N .str s
theorem UQ{b:Bool}(h:jm s=Ac b)(a:s.is C η H v):v= .bool b:=QG (I4 (t:= .bool) h a)
theorem I3{b:Aq}(h:Th s=Ac b)(a:s.is C η H v):v=sv b:=k_ (I4 (t:= .str) h a)
def oa:SV N.T->Option Int
 | .d (.int .u8) x=>Ac x
 |_=>C7
theorem Zk{n:Int}(h:oa s=Ac n)(d:s.is C η H v):v= .int .u8 n/\0<=n/\n<=255:=by
 unfold oa at h;split at h;· cases h;obtain⟨e,b,a⟩:=d;obtain⟨rfl,c⟩:=D4.1 b;cases a;trivial
 grind
def aw:SV N.T->Option Nat
 | .na n| .ct _ n| .cb _ n=>Ac n
 |_=>C7
theorem gC{n:Nat}(h:aw s=Ac n)(a:s.is C η H v):v= .int .i64 n/\n<=Q_:=by
 unfold aw at h;split at h;· cases h;exact a
 ·cases h;exact a
 ·cases h;exact⟨a.1,Agm a.2⟩
 grind
def FJ(b:BinOp)(x y:SV N.T):Option (SV N.T):=match b,x,y with
 | .lss, .ct i n, .na m=>Ac (.lt i n m)
 | .add, .cb _ n, .raw (.int .i64 1)=>Ac (.na (n+1))
 |_,_,_=>C7
theorem iU{b:BinOp}{x y:SV N.T}(h:FJ b x y=Ac s):(∃i n m,b= .lss/\x= .ct i n/\y= .na m/\s= .lt i n m)\/(∃i n,b= .add/\x= .cb i n/\y= .raw (.int .i64 1)/\s= .na (n+1)):=by unfold FJ at h;grind
def rS(
     P:GN) (S:Nat->SV N.T) (nk:Nat) (b:BinOp) (t:Gq) (x y:DQ) (k:Bx N.T->Nat->Option R):Option R:=match FJ b (Ax S x) (Ax S y)with
 |some s=>k ⟨s,[],[]⟩ nk
 |none=>match intOf (Ax S x),intOf (Ax S y)with
  |some (c,m),Ac (a,n)=>match kb c a with
   |true=>qG b c m n nk k
   |false=>C7
  |_,_=>match P.underlying t with
   |some .string=>match Th (Ax S x),Th (Ax S y)with
    |some m,Ac n=>vF b m n nk k
    |_,_=>C7
   |some .bool=>match jm (Ax S x),jm (Ax S y)with
    |some m,Ac n=>match b with
     | .eql=>k ⟨.d .bool (m==n),[],[]⟩ nk
     | .neq=>k ⟨.d .bool (!(m==n)),[],[]⟩ nk
     |_=>C7
    |_,_=>C7
   |_=>C7
theorem ok_int{b:BinOp}{t u:Gq}{x y:DQ}{i:Lo}{m n:Int}(v:o.op= .binOp b t x y u)(s:intOf (Ax S x)=Ac (i,m))(F:intOf (Ax S y)=Ac (i,n))(h:qG b i m n nk k=Ac r):A1 P C S Rr nk o k r:=by
 have w:∀ {η:Nat->BZ} {H:Hp} {a:Act},(∀x∈o.op.operands,(Ax S x).is C η H (a.eval x))->EV a x=Ac (.int i m):=λg=>congrArg Ac (AV s (g x (by grind[af])));have A:∀ {η:Nat->BZ} {H:Hp} {a:Act},(∀x∈o.op.operands,(Ax S x).is C η H (a.eval x))->EV a y=Ac (.int i n):=λg=>congrArg Ac (AV F (g y (by grind[af])));have p:∀ {c:Bool},k ⟨.d .bool c,[],[]⟩ nk=Ac r->(∀(H:Hp) (O:List Aw) (a:Act),EV a x=Ac (.int i m)->EV a y=Ac (.int i n)->Au P o.op o.type (EV a) H O (.bool c))->A1 P C S Rr nk o k r:=λh g=>
  .y h (Abu λη H O a s _=>⟨_,g H O a (w s) (A s),CS⟩) λ_ _=>trivial;have l:∀ {z:Int},Aa i z (k ⟨.d (.int i) z,[],[]⟩ nk)=Ac r->(∀(H:Hp) (O:List Aw) (a:Act),EV a x=Ac (.int i m)->EV a y=Ac (.int i n)->i.min<=z/\z<=i.max->Au P o.op o.type (EV a) H O (.int i z))->A1 P C S Rr nk o k r:=λh g=>by
  obtain⟨B,D,E⟩:=BV h;exact .y E (Abu λη H O a s _=>⟨_,g H O a (w s) (A s) B,D6 D⟩) λ_ _=>trivial
 rw[v]at p l;unfold qG at h;split at h;· grind[Au.add]
 ·grind[Au.sub]
 ·grind[Au.mul]
 ·exact p h λH O a e f=>Au.lss e f
 ·exact p h λH O a e f=>Au.leq e f
 ·exact p h λH O a e f=>Au.gtr e f
 ·exact p h λH O a e f=>Au.geq e f
 ·exact p h λH O a e f=>Au.eql e f
 ·exact p h λH O a e f=>Au.neq e f
 ·obtain⟨q,h⟩:=AE h;exact l h λH O a e f j=>Aig e f q j
 ·obtain⟨q,h⟩:=AE h;exact l h λH O a e f j=>Aif e f q
 ·exact l h λH O a e f j=>Au.OH e f
 ·exact l h λH O a e f j=>Au.XI e f
 ·obtain⟨q,h⟩:=AE h;exact l h λH O a e f j=>Au.T0 e f q
 ·obtain⟨q,h⟩:=AE h;exact l h λH O a e f j=>Au.NM e f q j
 grind
theorem pD{b:BinOp}{t u:Gq}{x y:DQ}(l:o.op= .binOp b t x y u)(h:rS P S nk b t x y k=Ac r):A1 P C S Rr nk o k r:=by
 have p:∀ {η:Nat->BZ} {H:Hp} {a:Act},(∀x∈o.op.operands,(Ax S x).is C η H (a.eval x))->(Ax S x).is C η H (a.eval x):=λe=>e x (by grind[af]);have q:∀ {η:Nat->BZ} {H:Hp} {a:Act},(∀x∈o.op.operands,(Ax S x).is C η H (a.eval x))->(Ax S y).is C η H (a.eval y):=λe=>e y (by grind[af]);unfold rS at h;split at h
 ·rename_i s hc;rcases iU hc with⟨i,n,m,rfl,f,j,rfl⟩|⟨i,n,rfl,f,j,rfl⟩
  ·refine .y h (Abu λη H O a e _=>?_) λτ F=>?_;· have w:=p e;rw[f]at w;have z:=q e;rw[j]at z;refine⟨_,?_,rf,z.2⟩;rw[l];exact Au.lss (congrArg Ac w.1) (congrArg Ac z.1)
   ·have:=L5 (x:=x) F;rw[f]at this;trivial
  ·refine .y h (Abu λη H O a e _=>?_) λ_ _=>trivial;have w:=p e;rw[f]at w;have z:=q e;rw[j]at z;have G:=w.2;refine⟨.int .i64 ((n:Int)+1),?_,rf,G⟩;rw[l];exact Au.add (congrArg Ac w.1) (congrArg Ac z) (UD (by grind))
 ·split at h
  ·grind[OK,ok_int]
  ·split at h
   ·rename_i D;split at h
    ·rename_i m n e E;have A:∀ {η:Nat->BZ} {H:Hp} {a:Act},(∀x∈o.op.operands,(Ax S x).is C η H (a.eval x))->EV a x=Ac (sv m):=λg=>congrArg Ac (I3 e (p g));have B:∀ {η:Nat->BZ} {H:Hp} {a:Act},(∀x∈o.op.operands,(Ax S x).is C η H (a.eval x))->EV a y=Ac (sv n):=λg=>congrArg Ac (I3 E (q g));have v:∀ {c:Bool},k ⟨.d .bool c,[],[]⟩ nk=Ac r->(∀(H:Hp) (O:List Aw) (a:Act),EV a x=Ac (sv m)->EV a y=Ac (sv n)->Au P o.op o.type (EV a) H O (.bool c))->A1 P C S Rr nk o k r:=λh g=>
      .y h (Abu λη H O a e _=>⟨_,g H O a (A e) (B e),CS⟩) λ_ _=>trivial;rw[l]at v;unfold vF at h;split at h;· exact v h λH O a f j=>Ahr D f j
     ·exact v h λH O a f j=>Akd D f j
     ·exact v h λH O a f j=>Ahq f j
     ·exact v h λH O a f j=>Akc f j
     ·exact v h λH O a f j=>Akg f j
     ·exact v h λH O a f j=>Akf f j
     ·obtain⟨I,J⟩:=AE h;exact .y J (Abu λη H O a e _=>⟨sv (m++n),by rw[l];exact Akl (A e) (B e) I,[_],rfl,rfl⟩) λ_ _=>trivial
     trivial
    grind
   ·rename_i D;split at h
    ·rename_i m n e E;have A:∀ {η:Nat->BZ} {H:Hp} {a:Act},(∀x∈o.op.operands,(Ax S x).is C η H (a.eval x))->EV a x=Ac (.bool m):=λg=>congrArg Ac (UQ e (p g));have B:∀ {η:Nat->BZ} {H:Hp} {a:Act},(∀x∈o.op.operands,(Ax S x).is C η H (a.eval x))->EV a y=Ac (.bool n):=λg=>congrArg Ac (UQ E (q g));split at h;· exact .y h (Abu λη H O a e _=>⟨_,by rw[l];exact Ajk D (A e) (B e),CS⟩) λ_ _=>trivial
     ·exact .y h (Abu λη H O a e _=>⟨_,by rw[l];exact Aji D (A e) (B e),CS⟩) λ_ _=>trivial
     ·cases h
    ·cases h
   grind
def pL(S:Nat->SV N.T)(nk:Nat)(x:DQ)(k:Bx N.T->Nat->Option R):Option R:=match Ax S x with
 | .lb b=>k ⟨.lb (!b),[],[]⟩ nk
 |s=>match jm s with
  |some b=>k ⟨.d .bool (!b),[],[]⟩ nk
  |none=>C7
theorem oV(e:o.op= .unOp .not t x)(h:pL S nk x k=Ac r):A1 P C S Rr nk o k r:=by
 have c:∀ {η:Nat->BZ} {H:Hp} {a:Act},(∀x∈o.op.operands,(Ax S x).is C η H (a.eval x))->(Ax S x).is C η H (a.eval x):=λd=>d x (by grind[af]);unfold pL at h;split at h;· rename_i b g;refine .y h (Abu λη H O a d _=>⟨.bool (!b),?_,rfl⟩) λ_ _=>trivial;have:=c d;rw[g]at this;rw[e];exact Au.not (congrArg Ac this)
 ·split at h;· rename_i b f;exact .y h (Abu λη H O a d _=>⟨_,by rw[e];exact Au.not (congrArg Ac (UQ f (c d))),CS⟩) λ_ _=>trivial
  grind
def pS(S:Nat->SV N.T)(nk:Nat)(x:DQ)(k:Bx N.T->Nat->Option R):Option R:=match intOf (Ax S x)with
 |some (a,n)=>Aa a (0-n) (k ⟨.d (.int a) (0-n),[],[]⟩ nk)
 |none=>C7
theorem oZ{t:Gq}{x:DQ}(d:o.op= .unOp .neg t x)(h:pS S nk x k=Ac r):A1 P C S Rr nk o k r:=by
 have b:∀ {η:Nat->BZ} {H:Hp} {a:Act},(∀x∈o.op.operands,(Ax S x).is C η H (a.eval x))->(Ax S x).is C η H (a.eval x):=λc=>c x (by grind[af]);unfold pS at h;split at h;· rename_i j n i;obtain⟨e,f,g⟩:=BV h;exact .y g (Abu λη H O a c _=>⟨_,by rw[d];exact Au.neg (congrArg Ac (AV i (b c))) e,D6 f⟩) λ_ _=>trivial
 grind
def qg(P:GN)(S:Nat->SV N.T)(Rr:Nat->Option (SR N.T))(nk:Nat)(x:DQ)(t:Gq)(k:Bx N.T->Nat->Option R):Option R:=match P.underlying t with
 |some (.slice _)=>match Ax S x with
  | .d (.sl _) l=>k ⟨.na l.length,[],[]⟩ nk
  | .AH b=>match Rr b with
   |some (.row _ _ l)=>k ⟨.na l.length,[b],[]⟩ nk
   |_=>C7
  | .raw (.slice C7 0 0)=>k ⟨.na 0,[],[]⟩ nk
  |_=>C7
 |some .string=>match Th (Ax S x)with
  |some s=>k ⟨.d (.int .i64) ((s.length:Nat):Int),[],[]⟩ nk
  |none=>C7
 |_=>C7
theorem o_(q:o.op= .call {callee:= .builtin .len,args:= #[x],argTypes:= #[t]})(h:qg P S Rr nk x t k=Ac r):A1 P C S Rr nk o k r:=by
 have c:∀ {η:Nat->BZ} {H:Hp} {a:Act},(∀x∈o.op.operands,(Ax S x).is C η H (a.eval x))->(Ax S x).is C η H (a.eval x):=λf=>f x (by grind[af,gv]);unfold qg at h;split at h
 ·rename_i e z;split at h
  ·rename_i I l j;refine .y h (Abu λη H O a f _=>?_) λ_ _=>trivial;obtain⟨cs,⟨v,rfl,G⟩,A⟩:(SV.d (.sl I) l:SV N.T).is C η H (a.eval x):=by grind
   have A:[v]=[a.eval x]:=A;cases A;exact⟨_,by rw[q];exact Au.len z rfl G.sl,rfl,G.le⟩
  ·rename_i b j;split at h
   ·rename_i g I l U;refine .y h (λη H E a w Y p d hi f Z V K Q T=>?_) λ_ _=>trivial;rcases Z b (.inl (by simp)) _ U with e|⟨X,M,xs,L,hL⟩;· grind
    subst L;obtain⟨i,F,_⟩:=Jj E p M;have J:a.eval x=η b:=by
     have:(SV.AH b:SV N.T).is C η H (a.eval x):=by grind
     exact this.1
    have B:Au P o.op o.type (EV a) H (Y.map (·.2)++E) (.int .i64 l.length):=by rw[q];exact Au.len z (congrArg Ac J) (d.IL F).1
    refine Aez (B a w o rfl rfl (λx u e=>by simpa using e) d) d λw' D=>?_;exact T _ w' H η Y (Hp.le.refl H) (λ_ _=>rfl) (λ_ _=>rfl) (λk sr h=>by cases h) p (λk W=> .inl W) D ⟨rfl,d.Oj F⟩
   grind
  ·rename_i j;refine .y h (Abu λη H O a f _=>?_) λ_ _=>trivial;have:=c f;rw[j]at this;exact⟨_,by rw[q];exact Au.len (n:=0) z rfl (.inl ⟨this,rfl⟩),rfl,Abh _⟩
  grind
 ·rename_i z;split at h;· rename_i s j;exact .y h (Abu λη H O a f _=>⟨_,by rw[q];exact Ain z (congrArg Ac (I3 j (c f))),D6 trivial⟩) λ_ _=>trivial
  ·cases h
 grind
def z7(P:GN)(S:Nat->SV N.T)(nk:Nat)(s d:Gq)(x:DQ)(k:Bx N.T->Nat->Option R):Option R:=match P.underlying s,P.underlying d with
 |some (.int _),Ac (.int a)=>match oa (Ax S x),a with
  |some n, .i64=>k ⟨.d (.int .i64) n,[],[]⟩ nk
  |some n, .u8=>k ⟨.d (.int .u8) n,[],[]⟩ nk
  |_,_=>match aw (Ax S x),a with
   |some n, .i64=>k ⟨.na n,[],[]⟩ nk
   |_,_=>match intOf (Ax S x)with
    |some (_,n)=>Aa a n (k ⟨.d (.int a) n,[],[]⟩ nk)
    |none=>C7
 |_,_=>C7
theorem mV{s d:Gq}(i:o.op= .convert s d x)(h:z7 P S nk s d x k=Ac r):A1 P C S Rr nk o k r:=by
 have b:∀ {η:Nat->BZ} {H:Hp} {a:Act},(∀x∈o.op.operands,(Ax S x).is C η H (a.eval x))->(Ax S x).is C η H (a.eval x):=λt=>t x (by grind[af]);unfold z7 at h;split at h
 ·rename_i w v l j;split at h;· rename_i n c;refine .y h (Abu λη H O a g _=>?_) λ_ _=>trivial;obtain⟨f,e⟩:=Zk c (b g);exact⟨.int .i64 n,by rw[i];exact Au.conv l j (congrArg Ac f) (UD (by omega)),D6 trivial⟩
  ·rename_i n c;refine .y h (Abu λη H O a g _=>?_) λ_ _=>trivial;obtain⟨f,e⟩:=Zk c (b g);exact⟨.int .u8 n,by rw[i];exact Au.conv l j (congrArg Ac f) (qR e),D6 e⟩
  ·split at h;· rename_i n c _ _;refine .y h (Abu λη H O a g _=>?_) λ_ _=>trivial;obtain⟨f,e⟩:=gC c (b g);exact⟨.int .i64 n,by rw[i];exact Au.conv l j (congrArg Ac f) (UD (by grind)),rfl,e⟩
   ·split at h;· rename_i u n c;obtain⟨m,p,q⟩:=BV h;exact .y q (Abu λη H O a g _=>⟨_,by rw[i];exact Au.conv l j (congrArg Ac (AV c (b g))) m,D6 p⟩) λ_ _=>trivial
    grind
 grind
def qV(S:Nat->SV N.T)(nk:Nat)(x:DQ)(i:Nat)(k:Bx N.T->Nat->Option R):Option R:=match Ax S x,i with
 | .t2 a _,0=>k ⟨a,[],[]⟩ nk
 | .t2 _ b,1=>k ⟨b,[],[]⟩ nk
 | .t3 a _ _,0=>k ⟨a,[],[]⟩ nk
 | .t3 _ b _,1=>k ⟨b,[],[]⟩ nk
 | .t3 _ _ c,2=>k ⟨c,[],[]⟩ nk
 |_,_=>C7
def EW:SV N.T->Bool
 | .ct _ _| .cb _ _| .lt _ _ _| .Ec _ _ _ _ _=>Aj
 |_=>Bp
theorem DB{s:SV N.T}{τ:Nat->Nat}(h:EW s=Bp):D9 τ Rr s:=by cases s<;>first|trivial|cases h
theorem pn{i:Nat}(u:o.op= .extract x i)(h:qV S nk x i (λs n=>match EW s.sv with|true=>k s n|false=>C7)=Ac r):A1 P C S Rr nk o k r:=by
 have q:∀ {η:Nat->BZ} {H:Hp} {a:Act},(∀x∈o.op.operands,(Ax S x).is C η H (a.eval x))->(Ax S x).is C η H (a.eval x):=λd=>d x (by grind[af]);have f:∀ {s:SV N.T},(match EW s with|true=>k ⟨s,[],[]⟩ nk|false=>C7)=Ac r->(∀ {η:Nat->BZ} {H:Hp} {a:Act},(Ax S x).is C η H (a.eval x)->∃t v,a.eval x= .tuple t/\t[i]?=Ac v/\s.is C η H v)->A1 P C S Rr nk o k r:=λ{s} h g=>by
  split at h;· rename_i D;refine .y h (Abu λη H O a d _=>?_) λ_ _=>DB D;obtain⟨t,v,w,A,B⟩:=g (q d);exact⟨v,by rw[u];exact Au.extract (congrArg Ac w) A,B⟩
  grind
 unfold qV at h;split at h;· rename_i a b j;exact f h λd=>by rw[j]at d;obtain⟨x,y,e,l,m⟩:=d;exact⟨_,_,e,rfl,l⟩
 ·rename_i a b j;exact f h λd=>by rw[j]at d;obtain⟨x,y,e,l,m⟩:=d;exact⟨_,_,e,rfl,m⟩
 ·rename_i a b c j;exact f h λd=>by rw[j]at d;obtain⟨x,y,z,e,l,m,p⟩:=d;exact⟨_,_,e,rfl,l⟩
 ·rename_i a b c j;exact f h λd=>by rw[j]at d;obtain⟨x,y,z,e,l,m,p⟩:=d;exact⟨_,_,e,rfl,m⟩
 ·rename_i a b c j;exact f h λd=>by rw[j]at d;obtain⟨x,y,z,e,l,m,p⟩:=d;exact⟨_,_,e,rfl,p⟩
 grind
end
end
section
variable{off:Nat}
theorem W4(off:Nat)(l:List BZ):∀(k:Nat) (acc:Array BZ),(l.zipIdx k).foldl (λcs (p:BZ×Nat)=>cs.setIfInBounds (off+p.2) p.1) acc=(l.zipIdx (off+k)).foldl (λcs (p:BZ×Nat)=>cs.setIfInBounds p.2 p.1) acc:=by
 induction l with
 |nil=>simp
 |cons v l b=>
  grind[List.zipIdx_cons,Nat.add_assoc]
theorem fJ{cs:Array BZ}{v:Array BZ}(h:off+v.size<=cs.size):(v.zipIdx.foldl (λcs (x:BZ×Nat)=>match x with|(c,j)=>cs.setIfInBounds (off+j) c) cs)=(Ct cs.toList off v.toList).toArray:=by
 have g:(v.zipIdx.foldl (λcs (x:BZ×Nat)=>match x with|(c,j)=>cs.setIfInBounds (off+j) c) cs)=((v.toList.zipIdx 0).foldl (λcs (p:BZ×Nat)=>cs.setIfInBounds (off+p.2) p.1) cs):=by grind[Array.toList_zipIdx]
 rw[g,W4];apply Array.ext_getElem?;intro i;rw[XV];simp only[Ago,Ahh,List.getElem?_toArray];unfold Ct;have k:(cs.toList.take off).length=off:=by grind
 by_cases e:i<off;· grind
 ·by_cases f:i<off+v.size;· rw[if_pos ⟨by omega,f,by omega⟩,Aaj,Aab (by omega),k,Pe (by simp;omega)]
  ·rw[if_neg (by omega),Aab (by simp;omega),Afw];have:off+v.toList.length+(i-(cs.toList.take off++v.toList).length)=i:=by simp;omega
   rw[this];simp
theorem KC{place:Nat->Option (Nat×Nat)}{cells:Array BZ}{i size:Nat}{v:BZ}{a:List (Nat×BZ)}(d:place i=Ac (off,size))(e:v.cells.size=size)(c:off+v.cells.size<=cells.size):ny place cells ((i,v)::a)=ny place (Ct cells.toList off v.cells.toList).toArray a:=by
 have:(v.cells.size≠size||decide (off+v.cells.size>cells.size))=Aj:=by grind
 simp only[ny,d];rw[this];simp only[Adx,if_false];rw[fJ c]
theorem JN{a:Act} :∀ps:List (Nat×DQ),YZ (EV a) ps=Ac (ps.map λp=>(p.1,a.eval p.2))
 | []=>rfl
 |(i,x)::r=>by simp only[YZ,EV,JN r,Aas]
end
section
variable {N : C9} {R : Type} {P : GN} {C : List (SV N.T)} {S : Nat -> SV N.T} {Rr : Nat -> Option (SR N.T)} {nk : Nat} {o : K7} {k : Bx N.T -> Nat -> Option R} {r : R}
section
variable{η:Nat->BZ}{H:Hp}{t:Gq}
def SE(P:GN)(C:List (SV N.T))(S:Nat->SV N.T)(place:Nat->Option (Nat×Nat×Gq)):List (Nat×DQ)->SV N.T->Option (SV N.T)
 | [],l=>Ac l
 |(i,x)::b,l=>match place i with
  |some (off,size,t)=>match iT off (R4 l),fW C l off (wa P t (Ax S x))with
   |true,Ac (a,n)=>match Hh n size with
    |true=>SE P C S place b a
    |false=>C7
   |_,_=>C7
  |none=>C7
theorem M5{place:Nat->Option (Nat×Nat×Gq)}{η:Nat->BZ}{H:Hp}{a:Act} :∀ {ps:List (Nat×DQ)} {l d:SV N.T} {cs:List BZ},SE P C S place ps l=Ac d->l.is C η H (.agg cs.toArray)->(∀p∈ps,(Ax S p.2).is C η H (a.eval p.2))->
  ∃cs':List BZ,ny (λi=>(place i).map λq=>(q.1,q.2.1)) cs.toArray (ps.map λp=>(p.1,a.eval p.2))=Ac cs'.toArray/\d.is C η H (.agg cs'.toArray)
 | [],l,d,cs,h,c,_=>by cases h;exact⟨cs,rfl,c⟩
 |(i,x)::ps,l,d,cs,h,c,m=>by
  unfold SE at h;split at h
  ·rename_i off size t j;split at h
   ·rename_i A n f b;split at h;· rename_i v;have e:=AI v;subst e;obtain⟨w,y,z,B⟩:=VF b (Aao (Aax f) (R3 c)) (Ug (m (i,x) (by simp))) c;subst z;obtain⟨cs',s,u⟩:=M5 h w λp g=>m p (by simp[g]);refine⟨cs',?_,u⟩;rw[Aas,KC (off:=off) (size:=(a.eval x).cells.toList.length) (by simp[j]) (by simp) (by simpa using y)];omega
    grind
   grind
  grind
def wc:SV N.T->Bool
 | .lf _ a l=>match a with
  | .raw (.slice C7 0 0)=>Bp
  | .AH _=>Bp
  |_=>wc l
 |_=>Aj
def vb(P:GN)(C:List (SV N.T))(t:Gq)(l:SV N.T):SV N.T:=match L_ N P t with
 |some a=>match a.agg with
  |true=>match wc l,KP N C 64 a l with
   |false,Ac (x, .nl)=> .d a x
   |_,_=>l
  |false=>l
 |none=>l
theorem dw{l:SV N.T}{cs:List BZ}(h:l.is C η H (.agg cs.toArray)):(vb P C t l).is C η H (.agg cs.toArray):=by
 unfold vb;split
 ·split
  ·rename_i d;split
   ·rename_i x _ f;obtain⟨g,b,e,c,a⟩:=EK f h;have a:BZ.agg b.toArray= .agg #[]:=a;have a:b=[]:=by simpa using a
    subst a;rw[Adi]at e;subst e;refine⟨cs,c,?_⟩;unfold CL;rw[d]
   trivial
  omega
 omega
def u6(P:GN)(fs:List Field)(i:Nat):Option (Nat×Nat×Gq):=match fs[i]? with
 |some f=>match P.info? f.type with
  |some a=>Ac (f.offset,a.size,f.type)
  |none=>C7
 |none=>C7
def rR(
     P:GN) (C:List (SV N.T)) (S:Nat->SV N.T) (nk:Nat) (t:Gq) (ps:List (Nat×DQ)) (k:Bx N.T->Nat->Option R):Option R:=match P.info? t with
 |some c=>
       match c.zero with
  |some z=>match fg N P 64 [t] z.cells.toList with
   |some d=>match P.underlying t with
    |some (.struct f)=>match(placesOf P t).isSome,SE P C S (u6 P f.toList) ps d with
     |true,Ac l=>match EW (vb P C t l)with
      |true=>k ⟨vb P C t l,[],[]⟩ nk
      |false=>C7
     |_,_=>C7
    |some (.array _ e)=>match P.info? e with
     |some b=>match b.zero.isSome,SE P C S (λi=>Ac (i*b.size,b.size,e)) ps d with
      |true,Ac l=>match EW (vb P C t l)with
       |true=>k ⟨vb P C t l,[],[]⟩ nk
       |false=>C7
      |_,_=>C7
     |none=>C7
    |_=>C7
   |none=>C7
  |none=>C7
 |none=>C7
theorem MD:∀(l:List Field) (ps:List (Nat×Nat)),(l.mapM λf=>(P.info? f.type).map λi=>(f.offset,i.size))=Ac ps->∀i,ps[i]?=(u6 P l i).map λq=>(q.1,q.2.1)
 | [],ps,h,i=>by grind[u6]
 |f::l,ps,h,i=>by
  cases a:P.info? f.type with
  |none=>grind
  |some c=>
   cases b:(l.mapM λf=>(P.info? f.type).map λi=>(f.offset,i.size))with
   |none=>grind
   |some d=>
    simp[a,b]at h;subst h;cases i with
    |zero=>grind[u6]
    |succ i=>
     have:=MD l d b i;simpa [u6]using this
theorem pC{ps:List (Nat×DQ)}(D:o.op= .build t ps.toArray)(h:rR P C S nk t ps k=Ac r):A1 P C S Rr nk o k r:=by
 have m:∀ {η:Nat->BZ} {H:Hp} {a:Act},(∀x∈o.op.operands,(Ax S x).is C η H (a.eval x))->∀p∈ps,(Ax S p.2).is C η H (a.eval p.2):=λs p I=>s p.2 (by grind[af]);unfold rR at h;split at h
 ·rename_i g G;split at h
  ·rename_i z J;split at h
   ·rename_i Q j;have n:TI P t g.size g.bytes z:=⟨g,G,rfl,rfl,J⟩;split at h
    ·rename_i F E;split at h
     ·rename_i l b B;split at h;· rename_i d;refine .y h (Abu λη H O a s _=>?_) λ_ _=>DB d;have f:=J_ (C:=C) (η:=η) (H:=H) j;obtain⟨u,v,w⟩:=M5 (a:=a) B f (m s);obtain⟨L,b⟩:=Abk.1 b;refine⟨.agg u.toArray,?_,dw w⟩;rw[D];refine Akk (vcs:=_) (zs:=z.cells) b n rfl (JN ps) rfl ?_;rw[<-fill_eq];unfold placesOf at b;rw[E]at b;have e:(λi=>L[i]?)=λi=>(u6 P F.toList i).map λq=>(q.1,q.2.1):=funext λi=>MD _ _ b i;rw[e];simpa using v
      ·cases h
     ·cases h
    ·rename_i len e E;split at h
     ·rename_i K A;split at h
      ·rename_i l c B;split at h;· rename_i d;refine .y h (Abu λη H O a s _=>?_) λ_ _=>DB d;have f:=J_ (C:=C) (η:=η) (H:=H) j;obtain⟨u,v,w⟩:=M5 (a:=a) B f (m s);obtain⟨M,c⟩:=Abk.1 c;refine⟨.agg u.toArray,?_,dw w⟩;rw[D];refine Au.rL (zs:=z.cells) E n ⟨K,A,rfl,rfl,c⟩ rfl (JN ps) ?_;simpa using v
       ·cases h
      ·cases h
     ·cases h
    trivial
   grind
  grind
 grind
def fx(C:List (SV N.T)):Nat->SV N.T->Nat->Option (SV N.T)
 |0,_,_=>C7
 |b+1,l,n=>match Hh n 0 with
  |true=>Ac .nl
  |false=>match l with
   | .lf s a r=>match iT s n with
    |true=>(fx C b r (n-s)).map (.lf s (res C a))
    |false=>C7
   |_=>C7
theorem Vq{η:Nat->BZ}{H:Hp} :∀ {fu:Nat} {l r:SV N.T} {n:Nat} {cs:List BZ},fx C fu l n=Ac r->l.is C η H (.agg cs.toArray)->r.is C η H (.agg (cs.take n).toArray)/\n<=cs.length
 |0,_,_,_,_,h,_=>by cases h
 |fu+1,l,r,n,cs,h,m=>by
  unfold fx at h;split at h;· rename_i c;have:=AI c;cases h;simp_all[Aee,au,Abh]
  ·split at h
   ·split at h;· rename_i c;obtain⟨x,f,rfl⟩:=Pd.1 h;have c:=Aax c;obtain⟨t,v,u,rfl,e,g,d,i,j⟩:=FE m;obtain⟨p,w⟩:=Vq f j;grind[La,ET,List.take_append,w8]
    grind
   grind
def xp(P:GN)(t:Gq):Bool:=match P.underlying t with
 |some d=>DL d
 |none=>Aj
def qh(P:GN)(C:List (SV N.T))(nk:Nat)(b off:Nat)(l:SV N.T)(t:Gq)(k:Bx N.T->Nat->Option R):Option R:=match P.underlying t,P.info? t with
 |some d,Ac c=>match DL d&&c.zero.isSome,SK N 64 l off with
  |true,Ac e=>match fx C 64 e c.size with
   |some (.lf s a f)=>k ⟨.lf s a f,[b],[]⟩ nk
   |_=>C7
  |_,_=>C7
 |_,_=>C7
def gP(P:GN)(C:List (SV N.T))(S:Nat->SV N.T)(Rr:Nat->Option (SR N.T))(nk:Nat)(t:Gq)(x:DQ)(k:Bx N.T->Nat->Option R):Option R:=match Ax S x with
 | .loc b off=>match Rr b with
  |some (.Ai _ l)=>match xp P t with
   |false=>wu P C S Rr nk t x k
   |true=>match EY N C l off (L_ N P t)with
    |some (.d _ _)=>wu P C S Rr nk t x k
    |_=>qh P C nk b off l t k
  |_=>C7
 |_=>wu P C S Rr nk t x k
theorem Z8{x:DQ}(j:o.op= .load t x)(v:∃τ,Nv Rr S τ)(h:gP P C S Rr nk t x k=Ac r):A1 P C S Rr nk o k r:=by
 have D:∀ {η:Nat->BZ} {H:Hp} {a:Act},(∀x∈o.op.operands,(Ax S x).is C η H (a.eval x))->(Ax S x).is C η H (a.eval x):=λE=>E x (by grind[af]);unfold gP at h;split at h
 ·rename_i b off Z;split at h
  ·rename_i g l U;have u:qh P C nk b off l t k=Ac r->A1 P C S Rr nk o k r:=λh=>by
    unfold qh at h;split at h
    ·rename_i d c V W;split at h
     ·rename_i l1 F w;split at h
      ·rename_i s a l2 A;rw[AT]at F;obtain⟨z,G⟩:=Abk.1 F.2;refine .y h (Abu λη H O J E Y=>?_) λ_ _=>trivial;obtain⟨B,K,L⟩:(SV.loc b off:SV N.T).is C η H (J.eval x):=by rw[<-Z];exact D E
       rcases Y b (by simp) _ U with e|⟨X,i,Q,I,cs,p,M,T⟩;· cases e
       rw[K]at p;have p:B=I:=by simpa [ptr]using p
       subst p;subst M;obtain⟨k1,k2⟩:=M8 (cs:=cs.toList) w T;obtain⟨k3,k4⟩:=Vq A k1;have f:((cs.toList.drop off).take c.size).length=c.size:=by rw[Aba];exact Adh k4
       refine⟨.agg ((cs.toList.drop off).take c.size).toArray,?_,k3⟩;rw[j];exact Aje V F.1 (by rw[f];exact⟨c,W,rf,rf,G⟩) (congrArg Ac L) Q (by rw[f])
      trivial
     grind
    grind
   grind[mT]
  grind
 grind[mT]
end
end
section
variable{Y:List (Nat×Aw)}{k:Nat}{r:Aw}{b j a:Nat}
def Jt(Y:List (Nat×Aw))(k a:Nat)(r:Aw):List (Nat×Aw):=Y.map λp=>match Hh p.1 k with
 |true=>(a,r)
 |false=>p
theorem ax(Y:List (Nat×Aw))(k a:Nat)(r:Aw):(Jt Y k a r).map (·.2)=(Ij Y k r).map (·.2):=by grind[Jt,Ij,List.map_map,List.map_congr_left]
theorem Ot(h:j∈keys (Jt Y k b r)):j=b\/(j∈keys Y/\j≠k):=by
 unfold keys Jt at h;rw[Aam]at h;obtain⟨p,c,e⟩:=By.1 h;simp only[Function.comp]at e;cases a:Hh p.1 k with
 |true=>grind
 |false=>rw[a]at e;subst e;exact .inr ⟨By.2 ⟨p,c,rfl⟩,Abf a⟩
theorem gF(c:(keys Y).Nodup)(i:b∉keys Y):(keys (Jt Y k b r)).Nodup:=by
 induction Y with
 |nil=>exact c
 |cons p Y d=>
  obtain⟨q,y⟩:=p;simp only[keys,Aas,Aaz,Aav,not_or]at c i;have d:=d c.2 i.2;have tail:∀j,j∈keys (Jt Y k b r)->j=b->k∈keys Y:=λj g e=>by
   unfold keys Jt at g;rw[Aam]at g;obtain⟨p,l,m⟩:=By.1 g;cases f:Hh p.1 k with
   |true=>rw[<-AI f];exact By.2 ⟨p,l,rfl⟩
   |false=>grind
  show(keys ((match Hh q k with|true=>(b,r)|false=>(q,y))::Jt Y k b r)).Nodup;cases f:Hh q k with
  |true=>
   have:=AI f;subst this;exact Aaz.2 ⟨λh=>c.1 (tail _ h rfl),d⟩
  |false=>
   refine Aaz.2 ⟨λh=>?_,d⟩;rcases Ot h with e|⟨e,_⟩;· grind
   ·exact c.1 e
theorem ay{x:Aw}(h:Ay Y k=Ac x)(b:a∉keys Y):Ay (Jt Y k a r) a=Ac r:=by
 induction Y with
 |nil=>cases h
 |cons p Y d=>
  obtain⟨q,y⟩:=p;simp only[keys,Aas,Aav,not_or]at b;simp only[Ay]at h;show Ay ((match Hh q k with|true=>(a,r)|false=>(q,y))::Jt Y k a r) a=Ac r;cases c:Hh q k with
  |true=>grind[CF]
  |false=>
   rw[c]at h;rw[A3 (λe=>b.1 e.symm)];exact d h b.2
theorem gE(h1:j≠k)(h2:j≠a):Ay (Jt Y k a r) j=Ay Y j:=by
 induction Y with
 |nil=>rfl
 |cons p Y c=>
  obtain⟨q,y⟩:=p;show Ay ((match Hh q k with|true=>(a,r)|false=>(q,y))::Jt Y k a r) j=Ay ((q,y)::Y) j;cases b:Hh q k with
  |true=>
   have:=AI b;subst this;simp_all[A3,Ne.symm]
  |false=>
   grind[Ay,Jt,Hh]
end
section
variable {N : C9} {R : Type} {P : GN} {C : List (SV N.T)} {S : Nat -> SV N.T} {Rr : Nat -> Option (SR N.T)} {nk : Nat} {o : K7} {k : Bx N.T -> Nat -> Option R} {r : R}
section
variable{H:Hp}{t:Gq}{O:List Aw}{a:Act}{T:Gq}{x:DQ}{e:Gq}{E:DQ->Option BZ}{q:DQ}{n:Nat}{op:Op}{X:BZ->Hp->List Aw->Prop}{s:DQ}{η:Nat->BZ}{p:DQ}
theorem Ahw{sv:SV N.T}{E:List Nat}{k f:Nat}{q F:SR N.T}(X:Rr k=Ac q)(h0:q≠ .gone)(l:Rr f=C7)
  (h:∀(η:Nat->BZ) (H:Hp) (O:List Aw) (a:Act) (x:Aw) (i:Nat),(∀x∈o.op.operands,(Ax S x).is C η H (a.eval x))->O[i]?=Ac x->q.is C η H k x->(∀k∈E,∀g,Rr k=Ac g->g= .gone\/∃(x:Aw) (i:Nat),O[i]?=Ac x/\g.is C η H k x)->
   BM P o.op o.type (EV a) H O (λv s A=>s=H/\∃p b,A=O.set i p/\F.is C (Ez η f b) H f p/\sv.is C (Ez η f b) H v)):
  Ap P C S Rr o ⟨sv,E,[(f,F),(k, .gone)]⟩:=by
 intro η H t a w Y y hs hi hx D d K Q V;have m:=d f (by simp[keys]) l;rcases D k (.inr (by simp[keys])) q X with e|⟨x,B,M⟩;· grind
 obtain⟨i,T,U⟩:=Jj t y B;refine h η H (Y.map (·.2)++t) a x i hx T M (λj c g z=>(D j (.inl c) g z).imp id λ⟨x,q1,q2⟩=>by obtain⟨i,q3,_⟩:=Jj t y q1;grind) a w o K Q rfl rfl (λx u e=>by grind) hs λv w' s A Z ⟨G,p,b,I,J,L⟩ n=>?_;subst G;subst I;rw[U,<-ax Y k f]at n;refine V v w' s (Ez η f b) (Jt Y k f p) (Hp.le.refl _) (λj c=>EH λe=>?_) (λj c=>gE (λe=>c (by subst e;simp[keys])) (λe=>c (by subst e;simp[keys]))) (λj g c=>?_) (gF y m) (λj c=>?_) n L;· subst e;exact c l (by simp[keys])
 ·simp only[Ay]at c;split at c;· rename_i W;have:=AI W;subst this;cases c;exact .inr ⟨p,ay B m,J⟩
  ·split at c;· cases c;exact .inl rfl
   trivial
 ·rcases Ot c with e|⟨e,_⟩;· subst e;exact .inr (by simp[keys])
  ·exact .inl e
theorem A1.mov{sv:SV N.T}{a:List Nat}{b:Nat}{f c:SR N.T}(h:k ⟨sv,a,[(nk,c),(b, .gone)]⟩ (nk+1)=Ac r)(h0:Rr b=Ac f)(d:Ap P C S Rr o ⟨sv,a,[(nk,c),(b, .gone)]⟩)(e:∀τ Rr,D9 τ Rr sv):A1 P C S Rr nk o k r:=
 ⟨_,nk+1,h,d,Agx _,λj g i=>(by grind[keys]),λτ _=>e τ _⟩
def Ng(P:GN)(e:Gq):Nat:=match P.info? e with
 |some a=>match iT a.bytes 64 with
  |true=>Ah
  |false=>4294967296
 |none=>4294967296
def Db(P:GN)(e:Gq)(n:Nat):Bool:=match P.info? e with
 |some a=>match a.zero with
  |some z=>(Hh a.size n&&Hh z.cells.size n)&&(iT a.bytes 16384&&(aX 0 n&&iT n 16777216))
  |none=>Aj
 |none=>Aj
theorem Eb{e:Nat}(h:Db P e n=Bp):∃bytes z,TI P e n bytes z/\z.cells.size=n/\0<n/\(∀m,m<=Ng P e->m<=Ah/\m*bytes<=70368744177664)/\n<=16777216:=by
 unfold Db at h;split at h
 ·rename_i a d;split at h
  ·rename_i z j;simp only[AT]at h;obtain⟨⟨f,g⟩,c,l,p⟩:=h;refine⟨a.bytes,z,⟨a,d,AI f,rfl,j⟩,AI g,by simp_all,λm b=>?_,by simp_all⟩;unfold Ng at b;rw[d]at b;simp only at b;have c:a.bytes<=16384:=Aax c;split at b;· rename_i i;have:=Abv b (Aax i);grind
   ·have:=Abv b c;grind
  grind
 grind
theorem BM.IM{size:Nat}(h:BM P op T E H (.row (.slice C7 0 0) e size 0 []::O) X):BM P op T E H O X:=
 λa w o next Q d b c f k=>h a w o next Q d b c (f.IM e size) k
theorem BM.emp(h:BM P op T E H (.emp::O) X):BM P op T E H O X:=
 λa w o next Q f c e g k=>h a w o next Q f c e (g.push (IU.grownBy.refl w C7) trivial (λb d=>by cases d)) k
def Xj(S:Nat->SV N.T)(Rr:Nat->Option (SR N.T))(b:Ty)(x:DQ):Option (List (b.den N.T)×List Nat):=match Ax S x with
 | .AH j=>match Rr j with
  |some (.row _ t2 a)=>(Qp N.T (.sl t2) (.sl b)).map λf=>(f a,[j])
  |_=>C7
 | .d (.sl t2) a=>(Qp N.T (.sl t2) (.sl b)).map λf=>(f a,[])
 |_=>C7
theorem LG{d:Ty}{s:List (d.den N.T)}{y:List Nat}(h:Xj S Rr d x=Ac (s,y))(m:(Ax S x).is C η H (a.eval x))(G:∀k∈y,∀t,Rr k=Ac t->t= .gone\/∃(x:Aw) (i:Nat),O[i]?=Ac x/\t.is C η H k x):
  ∃ys,A2 (N.c d) H s ys/\∀w,SH w H O->GK.Src w (a.eval x) (d.sz N) s.length ys:=by
 unfold Xj at h;split at h
 ·rename_i j b;rw[b]at m;split at h
  ·rename_i g t2 l F;obtain⟨f,q,e⟩:=Pd.1 h;cases e;obtain⟨p,rfl⟩:=BB q;have A:=Adn p;have n:t2=d:=by grind
   subst n;rcases G j (by simp) _ F with e|⟨X,i,c,ys,z,E⟩;· grind
   subst z;rw[<-m.1]at c;exact⟨ys,E,λw b=>b.oy c⟩
  grind
 ·rename_i t2 l b;rw[b]at m;obtain⟨f,q,e⟩:=Pd.1 h;cases e;obtain⟨p,rfl⟩:=BB q;have A:=Adn p;have n:t2=d:=by grind
  subst n;obtain⟨J,c,D⟩:=m;subst D;obtain⟨v,I,c⟩:∃v,[a.eval x]=[v]/\G4 (N.c t2) H l v:=c;cases I;obtain⟨⟨ys,u,B⟩,_⟩:=c;rw[Bn]at u;exact⟨ys,B,λw b=>b.TW u⟩
 grind
def si(P:GN)(S:Nat->SV N.T)(Rr:Nat->Option (SR N.T))(nk:Nat)(s x:DQ)(t:Gq)(k:Bx N.T->Nat->Option R):Option R:=match P.underlying t with
 |some (.slice e)=>match Ax S s with
  | .AH b=>match Rr b with
   |some (.row g a l)=>match Hh g e&&Db P e (a.sz N),Xj S Rr a x with
    |true,Ac (c,f)=>Ag (l.length+c.length<=Ng P e) (k ⟨.AH nk,f,[(nk, .row g a (l++c)),(b, .gone)]⟩ (nk+1))
    |_,_=>C7
   |_=>C7
  | .raw (.slice C7 0 0)=>match L_ N P e with
   |some a=>match Db P e (a.sz N),Xj S Rr a x with
    |true,Ac (c,f)=>Ag (([]:List (a.den N.T)).length+c.length<=Ng P e) (k ⟨.AH nk,f,[(nk, .row e a ([]++c))]⟩ (nk+1))
    |_,_=>C7
   |none=>C7
  |_=>C7
 |_=>C7
theorem QL{b:Ty}{l f:List (b.den N.T)}{xs ys:List BZ}{i:Nat}{v:BZ}(ht:P.underlying t=Ac (.slice e))(p:Db P e (b.sz N)=Bp)(y:a.eval s=v)
  (hi:O[i]?=Ac (.row v e (b.sz N) l.length xs)) (D:A2 (N.c b) H l xs) (A:A2 (N.c b) H f ys) (d:∀w,SH w H O->GK.Src w (a.eval x) (b.sz N) f.length ys) (hc:l.length+f.length<=Ng P e):
  BM P (.call {callee:= .builtin .append,args:= #[s,x],argTypes:= #[t,t]}) T (EV a) H O (λv' j m=>(j=H/\m=O.set i (.row v' e (b.sz N) (l++f).length (xs++ys)))/\v'.oneCell'=Bp):=by
 obtain⟨bytes,z,B,h,n,q,_⟩:=Eb p;obtain⟨hc,u⟩:=q _ hc;refine Agd i ((BM.append ht B h n (congrArg Ac y) rfl hi d A.one (by omega) (by grind)).mono ?_) ?_;all_goals grind
theorem pI(I:o.op= .call {callee:= .builtin .append,args:= #[s,x],argTypes:= #[t,t]})(G:∀j,nk<=j->Rr j=C7)(h:si P S Rr nk s x t k=Ac r):A1 P C S Rr nk o k r:=by
 have q:∀ {η:Nat->BZ} {H:Hp} {a:Act},(∀x∈o.op.operands,(Ax S x).is C η H (a.eval x))->(Ax S s).is C η H (a.eval s):=λf=>f s (by grind[af,gv]);have u:∀ {η:Nat->BZ} {H:Hp} {a:Act},(∀x∈o.op.operands,(Ax S x).is C η H (a.eval x))->(Ax S x).is C η H (a.eval x):=λf=>f x (by simp_all[af,gv]);unfold si at h;split at h
 ·rename_i e J;split at h
  ·rename_i b v;split at h
   ·rename_i g K l F;split at h;· rename_i Z rd p d;replace h:=AE h;obtain⟨hc,h⟩:=h;rw[AT]at p;have T:=AI p.1;subst T;refine .mov h F (Ahw F (by simp) (G nk (Aae _)) λη H O a X i f V W B=>?_) λ_ _=>trivial;obtain⟨xs,U,E⟩:=W;subst U;have y:=q f;rw[v]at y;obtain⟨L,z,m⟩:=LG d (u f) B;rw[I];refine(QL J p.2 y.1 V E z m hc).mono ?_;rintro D M Q ⟨⟨rfl,rfl⟩,A⟩;exact⟨rfl,_,D,rfl,⟨_,by rw[AA],E.app z⟩,by rw[AA],A⟩
    grind
   grind
  ·rename_i v;split at h
   ·rename_i K Y;split at h
    ·rename_i Z rd p d;replace h:=AE h;obtain⟨hc,h⟩:=h;refine .new h (Afi (G nk (Aae _)) λη H O a f B=>?_) λ_ _=>trivial;have y:=q f;rw[v]at y;obtain⟨L,z,m⟩:=LG d (u f) B;rw[I];refine BM.IM ((QL (i:=0) (l:=[]) (xs:=[]) J p y rfl rfl z (λw v=>m w ?_) hc).mono ?_);· have:=v.nt 1;simpa using this
     ·rintro D M Q ⟨⟨rfl,rfl⟩,A⟩;exact⟨rfl,_,D,rfl,⟨[]++L,by rw[AA],A2.app (c:=N.c K) (l:=[]) (xs:=[]) rfl z⟩,by rw[AA],A⟩
    ·cases h
   trivial
  grind
 grind
theorem az{c:Ty}{x:c.den N.T}{kl n:Lo}{m bytes:Nat}{z:BZ}(ht:P.underlying t=Ac (.slice e))(I:TI P e (c.sz N) bytes z)(h:∀m,m<=Ng P e->m<=Ah/\m*bytes<=70368744177664)(h0:0<c.sz N)(V:a.eval p= .int kl (m:Int))(hc:a.eval q= .int n (m:Int))
  (l:m<=Ng P e) (j:(N.c c).BP H x z.cells.toList):
  BM P (.makeSlice t p q) T (EV a) H O (λv s y=>(s=H/\∃xs,y= .row v e (c.sz N) (T8 m x).length xs::O/\A2 (N.c c) H (T8 m x) xs)/\v.oneCell'=Bp):=by
 refine Agd 0 (.Ao λM w o W _ U G=>?_) ?_
 ·obtain⟨i,F,A,Q,B⟩:=I.ex;obtain⟨l,E⟩:=h _ l;obtain⟨L,X,J,K⟩:=run_make_full (P:=P) (w:=w) 0 t e i z (c.sz N) ht F B A kl n m (by grind) (by simp only[maxLen,Ah]at*;omega) (Abh _);have D:A2 (N.c c) H (T8 m x) (madeCells z.cells (m*c.sz N)).toList:=by
   grind[Ahx,Bn]
  refine⟨_,L,H,_,?_,Hp.le.refl H,⟨rf,_,by rw[Afj],D⟩,G.push (r:= .row (.slice (Ac ⟨w.heap.size,0,C7⟩) m m) e (c.sz N) m (madeCells z.cells (m*c.sz N)).toList) K J (λb h=>by grind[Aw.has,BZ.ownBlock])⟩;simp_all[Kt]
 grind
def natI(y:Int)(k:Nat->Option R):Option R:=Ag (0<=y) (k y.toNat)
def gD(s:SV N.T)(k:Nat->Option R):Option R:=match s with
 | .na n| .ct _ n| .cb _ n=>k n
 | .raw (.int _ (.ofNat n))=>k n
 | .d (.int _) y=>natI y k
 |_=>C7
theorem Oq{s:SV N.T}{c:Nat->Option R}(h:gD s c=Ac r):∃n,c n=Ac r/\∀ {η:Nat->BZ} {H:Hp} {v:BZ},s.is C η H v->∃b,v= .int b (n:Int):=by
 unfold gD at h;split at h;· exact⟨_,h,λa=>⟨_,a.1⟩⟩
 ·exact⟨_,h,λa=>⟨_,a.1⟩⟩
 ·exact⟨_,h,λa=>⟨_,a.1⟩⟩
 ·exact⟨_,h,λa=>⟨_,a⟩⟩
 ·rename_i b y;obtain⟨g,f⟩:=AE (p:=(0:Int)<=(show Int from y)) h;refine⟨_,f,λa=>⟨b,?_⟩⟩;have e:=AV (C:=C) (s:= .d (.int b) y) rfl a;grind
 grind
def zL(P:GN)(S:Nat->SV N.T)(nk:Nat)(t:Gq)(p q:DQ)(k:Bx N.T->Nat->Option R):Option R:=match P.underlying t with
 |some (.slice e)=>match L_ N P e,P.info? e with
  |some b,Ac a=>match a.zero with
   |some z=>match parse N 16 b z.cells.toList,Db P e (b.sz N),sameO p q with
    |some (x,[]),Bp,Bp=>gD (Ax S p) λm=>Ag (m<=Ng P e) (k ⟨.AH nk,[],[(nk, .row e b (T8 m x))]⟩ (nk+1))
    |_,_,_=>C7
   |none=>C7
  |_,_=>C7
 |_=>C7
 where
 sameO:DQ->DQ->Bool
  | .tmp i, .tmp j=>Hh i j
  | .const (.int _ i), .const (.int _ j)=>match i,j with
   | .ofNat i, .ofNat j=>Hh i j
   |_,_=>Aj
  |_,_=>Aj
theorem vW(T:o.op= .makeSlice t p q)(L:∀j,nk<=j->Rr j=C7)(h:zL P S nk t p q k=Ac r):A1 P C S Rr nk o k r:=by
 have i:∀ {η:Nat->BZ} {H:Hp} {a:Act},(∀x∈o.op.operands,(Ax S x).is C η H (a.eval x))->(Ax S p).is C η H (a.eval p):=λs=>s p (by grind[af]);unfold zL at h;split at h
 ·rename_i e U;split at h
  ·rename_i te u V M;split at h
   ·rename_i z W;split at h
    ·rename_i x l I b;obtain⟨m,h,Q⟩:=Oq (C:=C) h;replace h:=AE h;obtain⟨hc,h⟩:=h;obtain⟨bytes,z',f,_,E,K,_⟩:=Eb I;refine .new h (Afi (L nk (Aae _)) λη H O a s hr=>?_) λ_ _=>trivial;obtain⟨Y,n⟩:=Q (i s);have c:∃g,a.eval q= .int g (m:Int):=by
      unfold zL.sameO at b;split at b;· have:=AI b;subst this;exact⟨Y,n⟩
      ·split at b;· have:=AI b;subst this;injection n with h1 F;exact⟨_,by show BZ.int _ _=_;rw[F]⟩
       ·cases b
      grind
     obtain⟨g,c⟩:=c;obtain⟨X,y,g1,g2,A⟩:=f.ex;have B:X=u:=by rw[M]at y;exact(Abp y).symm
     subst B;have D:z'=z:=by rw[W]at A;exact(Abp A).symm
     subst D;obtain⟨pre,w,d⟩:=CE (H:=H) l;rw[Adi]at w;rw[T];refine(az U f K E n c hc (by rw[w];exact d)).mono ?_;rintro v H' O' ⟨⟨rfl,Z,rfl,J⟩,G⟩;exact⟨rfl,_,v,rfl,⟨Z,by rw[AA],J⟩,by rw[AA],G⟩
    grind
   grind
  grind
 grind
def iJ(C:List (SV N.T))(S:Nat->SV N.T)(a:Ty):Nat->List (Nat×DQ)->Option (List (a.den N.T))
 |_,[]=>Ac []
 |i,(j,x)::ps=>match Hh i j,TK C a (Ax S x),iJ C S a (i+1) ps with
  |true,Ac y,Ac l=>Ac (y::l)
  |_,_,_=>C7
theorem Wm{f:Ty}{n:Nat}(g:f.sz N=n){η:Nat->BZ}{H:Hp}{a:Act} :∀ {ps:List (Nat×DQ)} {i:Nat} {l:List (f.den N.T)} {cs:List BZ},iJ C S f i ps=Ac l->(∀p∈ps,(Ax S p.2).is C η H (a.eval p.2))->cs.length=(i+ps.length)*n->
  ∃xs,ny (λi=>Ac (i*n,n)) cs.toArray (ps.map λp=>(p.1,a.eval p.2))=Ac (cs.take (i*n)++xs).toArray/\A2 (N.c f) H l xs/\l.length=ps.length
 | [],i,l,cs,h,_,hc=>by cases h;refine⟨[],?_,rfl,rfl⟩;grind[ny]
 |(j,x)::ps,i,l,cs,h,m,hc=>by
  unfold iJ at h;split at h
  ·rename_i y F v D w;cases h;have e:=AI v;subst e;obtain⟨q,E⟩:=CP (DK D (m (i,x) (by simp)));have b:=Bg q;rw[g]at b;simp only[Abn]at hc;have z:i*n+n<=cs.length:=by grind
   have B:(Ct cs (i*n) (a.eval x).cells.toList).length=(i+1+ps.length)*n:=by grind[Ct]
   obtain⟨xs,s,t,u⟩:=Wm g w (λp A=>m p (by grind)) B;refine⟨(a.eval x).cells.toList++xs,?_,⟨_,xs,rfl,q,t⟩,by simp[u]⟩;rw[Aas,KC (off:=i*n) (size:=n) rfl (by simpa using b) (by simp at b⊢;omega)];rw[s];rw[<-Aaj];unfold Ct;rw[Ach (by simp[b,Aea];omega),Abm (by simp[b,Aea];omega)]
  grind
def bsK(P:GN)(C:List (SV N.T))(S:Nat->SV N.T)(nk:Nat)(t:Gq)(len:Nat)(ps:List (Nat×DQ))(k:Bx N.T->Nat->Option R):Option R:=match P.underlying t with
 |some (.slice e)=>match L_ N P e with
  |some a=>match Db P e (a.sz N),Hh ps.length len&&(aX 0 len&&iT (len*a.sz N) 16777216),iJ C S a 0 ps with
   |true,Bp,Ac l=>k ⟨.AH nk,[],[(nk, .row e a l)]⟩ (nk+1)
   |_,_,_=>C7
  |none=>C7
 |_=>C7
theorem vZ{len:Nat}{ps:List (Nat×DQ)}(U:o.op= .buildSlice t len ps.toArray)(Q:∀j,nk<=j->Rr j=C7)(h:bsK P C S nk t len ps k=Ac r):A1 P C S Rr nk o k r:=by
 have n:∀ {η:Nat->BZ} {H:Hp} {a:Act},(∀x∈o.op.operands,(Ax S x).is C η H (a.eval x))->∀p∈ps,(Ax S p.2).is C η H (a.eval p.2):=λs p Y=>s p.2 (by grind[af]);unfold bsK at h;split at h
 ·rename_i e V;split at h
  ·rename_i w W;split at h
   ·rename_i l L f T;simp only[AT]at f;obtain⟨g,m,M⟩:=f;have I:=AI g;subst I;obtain⟨bytes,z,q,X,J,f,_⟩:=Eb L;refine .new h (Afi (Q nk (Aae _)) λη H O a s Z=>?_) λ_ _=>trivial;have b:(((Array.range (ps.length*w.sz N)).map (z.cells[· %z.cells.size]!)).toList:List BZ).length=(0+ps.length)*w.sz N:=by simp
    obtain⟨E,y,A,B⟩:=Wm (C:=C) (η:=η) (H:=H) (a:=a) rfl T (n s) b;rw[Aeh,Aee,Acd,Array.toArray_toList]at y;have u:=A.len;rw[Bn,B]at u;rw[U];refine BM.emp ((Agd 0 (Ajv (ρ:=λ_=>undef) (i:=0) 0 V q rfl (by omega) (by simpa using Nat.mul_pos (by simpa using m) J) (JN ps) y (by omega) rfl) ?_).mono ?_);· rintro v F G ⟨rfl,rfl,D⟩;refine⟨e,w.sz N,ps.length,E,?_⟩;rfl
    ·rintro v F G ⟨⟨rfl,rfl,D⟩,K⟩;rw[D];exact⟨rfl,_,v,rfl,⟨E,by rw[AA,B],A⟩,by rw[AA],K⟩
   grind
  grind
 grind
def rn(P:GN)(S:Nat->SV N.T)(Rr:Nat->Option (SR N.T))(nk:Nat)(t:Gq)(x y:DQ)(k:Bx N.T->Nat->Option R):Option R:=match P.underlying t,Ax S x with
 |some (.slice e), .AH b=>match Rr b,intOf (Ax S y)with
  |some (.row g a l),Ac (_,h)=>match Hh g e&&Db P e (a.sz N)with
   |true=>Ag (0<=h/\h<=((l.length:Nat):Int)) (k ⟨.AH nk,[],[(nk, .row g a (l.take h.toNat)),(b, .gone)]⟩ (nk+1))
   |false=>C7
  |_,_=>C7
 |_,_=>C7
theorem pq{y:DQ}(Q:o.op= .slice t x C7 (Ac y) C7)(K:∀j,nk<=j->Rr j=C7)(h:rn P S Rr nk t x y k=Ac r):A1 P C S Rr nk o k r:=by
 have p:∀ {η:Nat->BZ} {H:Hp} {a:Act},(∀x∈o.op.operands,(Ax S x).is C η H (a.eval x))->(Ax S x).is C η H (a.eval x):=λd=>d x (by grind[af]);have q:∀ {η:Nat->BZ} {H:Hp} {a:Act},(∀x∈o.op.operands,(Ax S x).is C η H (a.eval x))->(Ax S y).is C η H (a.eval y):=λd=>d y (by grind[af]);unfold rn at h;split at h
 ·rename_i e b U T;split at h
  ·rename_i g te l ik L u M;split at h
   ·rename_i m;replace h:=AE h;obtain⟨hc,h⟩:=h;rw[AT]at m;have D:=AI m.1;subst D;obtain⟨bytes,z,V,Y,h0,J,_⟩:=Eb m.2;refine .mov h u (Ahw u (by simp) (K nk (Aae _)) λη H O a X i d f F hr=>?_) λ_ _=>trivial;obtain⟨xs,E,I⟩:=F;subst E;have v:=p d;rw[T]at v;have W:=AV (C:=C) M (q d);rw[<-v.1,<-Bn]at f;have n:i<O.length:=(IT.1 f).1;rw[Q];refine(Agd i (Ajw (c:=N.c te) (l:=l) U (by rw[Bn];omega) rfl (congrArg Ac W) f hc) ?_).mono ?_;· rintro w A B ⟨rfl,rfl⟩;exact⟨_,_,_,_,by rw[List.getElem?_set_self n]⟩
    ·rintro w A B ⟨⟨rfl,rfl⟩,G⟩;have s:=I.take L.toNat;refine⟨rfl,_,w,rfl,⟨_,by rw[AA,Bn,Aba,Adh (by omega)],?_⟩,by rw[AA],G⟩;rw[Bn]at s;exact s
   grind
  grind
 grind
end
end
section
variable {N : C9} {R : Type} {P : GN} {C : List (SV N.T)} {S : Nat -> SV N.T} {Rr : Nat -> Option (SR N.T)} {nk : Nat} {o : K7} {k : Bx N.T -> Nat -> Option R} {r : R}
section
variable{t tn:Gq}{x p q:DQ}
theorem dq{e:Gq}{T:Gq}{a:Act}{d:Ty}{x:d.den N.T}{kn A:Lo}{m bytes:Nat}{z:BZ}{H:Hp}{O:List Aw}(ht:P.underlying t=Ac (.slice e))(y:P.underlying tn=Ac (.int kn))(hz:TI P e (d.sz N) bytes z)(j:z.cells.size=d.sz N)(Z:m+1<=Ah)(G:(m+1)*bytes<=140737488355328)
  (h0:0<d.sz N) (hp:a.eval p= .slice C7 0 0) (hq:a.eval q= .int A ((m+1:Nat):Int)) (h:(N.c d).BP H x z.cells.toList):
  BM P (.call {callee:= .builtin .append,args:= #[p,q],argTypes:= #[t,tn]}) T (EV a) H O (λv B D=>(B=H/\∃xs,D= .row v e (d.sz N) (T8 (m+1) x).length xs::O/\A2 (N.c d) H (T8 (m+1) x) xs)/\v.oneCell'=Bp):=by
 refine Agd 0 (.Ao λE w o ho W I hs=>?_) ?_
 ·obtain⟨i,Y,g1,F,M⟩:=hz.ex;have J:=Go.Lib.run_append_grow_zeros (P:=P) w t tn T e i z A kn ht y Y M C7 0 0 [] (by rfl) (m+1) (by omega) (by omega) (by omega) (by grind) (by grind) (by grind[Builtin.nextslicecap]);have V:A2 (N.c d) H (T8 (m+1) x) (madeCells z.cells ((m+1)*d.sz N)).toList:=by
   grind[Ahx,Bn]
  have L:oB z.cells (m+1)=madeCells z.cells ((m+1)*d.sz N):=by simp_all[oB,madeCells]
  have s:=grownCap_ge w (0+(m+1)) 0 e;have u:=grownCap_le_maxLen w (0+(m+1)) 0 e (by simp only[maxLen,Ah]at*;omega);have X:w.grownBy (w.drew.alloc (.cells (([]:List BZ).toArray++oB z.cells (m+1)++oB z.cells (grownCap w (0+(m+1)) 0 e-(0+(m+1)))) e)) C7:=by have:=IU.grownBy_alloc w.drew (.cells (([]:List BZ).toArray++oB z.cells (m+1)++oB z.cells (grownCap w (0+(m+1)) 0 e-(0+(m+1)))) e) C7;exact⟨this.os,this.tape,this.output,this.size,this.block⟩
  refine⟨.slice (Ac ⟨w.heap.size,0,C7⟩) (0+(m+1)) (grownCap w (0+(m+1)) 0 e),_,H,_,?_,Hp.le.refl H,⟨rf,_,by rw[Afj],V⟩,hs.push (r:= .row (.slice (Ac ⟨w.heap.size,0,C7⟩) (0+(m+1)) (grownCap w (0+(m+1)) 0 e)) e (d.sz N) (m+1) (madeCells z.cells ((m+1)*d.sz N)).toList) X ?_ (λb G=>by simp[Aw.has,BZ.ownBlock]at G;omega)⟩;· have Q:E.eval p= .slice C7 0 0:=I p _ (congrArg Ac hp);have U:E.eval q= .int A ((m+1:Nat):Int):=I q _ (congrArg Ac hq);simp only[Kt,ho,resolve,invoke,builtin];simp[Q,U,resolve,invoke,builtin,W]at J⊢;rw[J];rfl
  ·refine⟨by simp[size_madeCells], .inr ⟨w.heap.size,grownCap w (0+(m+1)) 0 e,([]:List BZ).toArray++oB z.cells (m+1)++oB z.cells (grownCap w (0+(m+1)) 0 e-(0+(m+1))),by rw[Abl],Abh _,(by show(w.heap.push _)[w.heap.size]?=_;simp),by omega,u,?_,?_⟩⟩;· simp[size_zeroCells,j];rw[<-Adp];congr 1;rw[Abl]at s;omega
   ·rw[L];simp[Adw,size_madeCells]
 grind
def r_(
     P:GN) (S:Nat->SV N.T) (nk:Nat) (p q:DQ) (t tn:Gq) (k:Bx N.T->Nat->Option R):Option R:=match P.underlying t,P.underlying tn,Ax S p with
 |some (
     .slice e),Ac (.int _), .raw (.slice C7 0 0)=>match L_ N P e,P.info? e with
  |some b,Ac a=>match a.zero with
   |some z=>match parse N 16 b z.cells.toList,Db P e (b.sz N)with
    |some (x,[]),Bp=>gD (Ax S q) λm=>match m with
     |0=>C7
     |m+1=>Ag (m+1<=Ng P e) (k ⟨.AH nk,[],[(nk, .row e b (T8 (m+1) x))]⟩ (nk+1))
    |_,_=>C7
   |none=>C7
  |_,_=>C7
 |_,_,_=>C7
theorem pF(l:o.op= .call {callee:= .builtin .append,args:= #[p,q],argTypes:= #[t,tn]})(T:∀j,nk<=j->Rr j=C7)(h:r_ P S nk p q t tn k=Ac r):A1 P C S Rr nk o k r:=by
 have n:∀ {η:Nat->BZ} {H:Hp} {a:Act},(∀x∈o.op.operands,(Ax S x).is C η H (a.eval x))->(Ax S p).is C η H (a.eval p):=λd=>d p (by grind[af,gv]);have s:∀ {η:Nat->BZ} {H:Hp} {a:Act},(∀x∈o.op.operands,(Ax S x).is C η H (a.eval x))->(Ax S q).is C η H (a.eval q):=λd=>d q (by simp_all[af,gv]);unfold r_ at h;split at h
 ·rename_i e kn X w W;split at h
  ·rename_i te A Y U;split at h
   ·rename_i z hz;split at h
    ·rename_i x u K;obtain⟨m,h,V⟩:=Oq (C:=C) h;split at h;· cases h
     ·replace h:=AE h;obtain⟨hc,h⟩:=h;obtain⟨bytes,z',g,y,I,M,_⟩:=Eb K;obtain⟨i,Q⟩:=M _ hc;refine .new h (Afi (T nk (Aae _)) λη H O a d hr=>?_) λ_ _=>trivial;obtain⟨ik,Z⟩:=V (s d);have b:=n d;rw[W]at b;obtain⟨i',D,g1,g2,E⟩:=g.ex;have F:i'=A:=by rw[U]at D;exact(Abp D).symm
      subst F;have G:z'=z:=by rw[hz]at E;exact(Abp E).symm
      subst G;obtain⟨pre,B,f⟩:=CE (H:=H) u;rw[Adi]at B;rw[l];refine(dq X w g y i (by omega) I b Z (by rw[B];exact f)).mono ?_;rintro v H' O' ⟨⟨rfl,xs,rfl,L⟩,J⟩;exact⟨rfl,_,v,rfl,⟨xs,by rw[AA],L⟩,by rw[AA],J⟩
    trivial
   grind
  grind
 grind
def rp(P:GN)(S:Nat->SV N.T)(nk:Nat)(x:DQ)(t:Gq)(k:Bx N.T->Nat->Option R):Option R:=match P.underlying t,Ax S x with
 |some (.slice _), .raw (.slice C7 0 0)=>k ⟨.na 0,[],[]⟩ nk
 |_,_=>C7
theorem pv(f:o.op= .call {callee:= .builtin .cap,args:= #[x],argTypes:= #[t]})(h:rp P S nk x t k=Ac r):A1 P C S Rr nk o k r:=by
 unfold rp at h;split at h;· rename_i e j i;refine .y h (Abu λη H O a l _=>?_) λ_ _=>trivial;have c:=l x (by grind[af,gv]);rw[i]at c;refine⟨.int .i64 ((0:Nat):Int),?_,rfl,Abh _⟩;rw[f];refine Au.Ao λm w n d _ g _=>?_;have:=g x _ (congrArg Ac c);simp[Kt,d,this,resolve,invoke,builtin,Builtin.cap_,AX j,goInt]
 grind
def rm(P:GN)(S:Nat->SV N.T)(nk:Nat)(t:Gq)(x y:DQ)(k:Bx N.T->Nat->Option R):Option R:=match P.underlying t,Ax S x,Ax S y with
 |some (.slice e), .raw (.slice C7 0 0), .na 0=>match(P.info? e).isSome with
  |true=>k ⟨.raw (.slice C7 0 0),[],[]⟩ nk
  |false=>C7
 |_,_,_=>C7
theorem gn{y:DQ}(f:o.op= .slice t x C7 (Ac y) C7)(h:rm P S nk t x y k=Ac r):A1 P C S Rr nk o k r:=by
 unfold rm at h;split at h
 ·rename_i e p n q;split at h;· rename_i d;obtain⟨s,d⟩:=Abk.1 d;refine .y h (Abu λη H O a j _=>?_) λ_ _=>trivial;have b:=j x (by grind[af]);have c:=j y (by rw[f];simp[af]);rw[n]at b;rw[q]at c;have c:a.eval y= .int .i64 ((0:Nat):Int):=c.1;refine⟨.slice C7 0 0,?_,rfl⟩;rw[f];refine Au.Ao λu w v g _ i _=>?_;have l:=i x _ (congrArg Ac b);have m:=i y _ (congrArg Ac c);simp[Kt,g,l,m,rK,Instr.slice,Instr.sliceBounds,Instr.sliceBound,AX p,sizeOf,typeInfo,d,asIntOf,asInt]
  grind
 grind
end
end
section
variable {N : C9} {R : Type} {P : GN} {C : List (SV N.T)} {S : Nat -> SV N.T} {Rr : Nat -> Option (SR N.T)} {nk : Nat} {o : K7} {k : Bx N.T -> Nat -> Option R} {r : R}
section
variable{t:Gq}{x:DQ}{e:Gq}{H:Hp}{a:Option Addr}{n:Nat}{T:Gq}{O:List Aw}{size bytes:Nat}{z:BZ}{cap:Nat}{kh km:Lo}{h m:Int}{s:DQ}{d:Gq}{E:DQ->Option BZ}
theorem fL{kl:Lo}{l:Int}(ht:P.underlying t=Ac (.slice e))(d:TI P e size bytes z)(h0:0<=l)(h1:l<=h)(h2:h<=m)(h3:m<=(cap:Nat))(w:IU):
  (rK t (.slice a n cap) (Ac (.int kl l)) (Ac (.int kh h)) (Ac (.int km m))).run P w= .ok (sliced a l.toNat h.toNat m.toNat size) w:=by
 have b:=Qq ht;have c:(q6 (P.elem t)).run P w= .ok size w:=by rw[Qr ht];exact d.sizeOf
 grind[je,run_sliceAt_slice,run_slice_lhm]
theorem fM(ht:P.underlying t=Ac (.slice e))(d:TI P e size bytes z)(h0:0<=h)(h2:h<=m)(h3:m<=(cap:Nat))(w:IU):
  (rK t (.slice a n cap) C7 (Ac (.int kh h)) (Ac (.int km m))).run P w= .ok (sliced a 0 h.toNat m.toNat size) w:=by
 have b:=Qq ht;have c:(q6 (P.elem t)).run P w= .ok size w:=by rw[Qr ht];exact d.sizeOf
 grind[je,run_sliceAt_slice,run_slice_hm]
def cr(P:GN)(S:Nat->SV N.T)(Rr:Nat->Option (SR N.T))(nk:Nat)(t:Gq)(x:DQ)(lo:Option DQ)(hi f:DQ)(k:Bx N.T->Nat->Option R):Option R:=match P.underlying t,intOf (Ax S hi),intOf (Ax S f)with
 |some (.slice e),Ac (_,h),Ac (_,m)=>match lo,Ax S x with
  |some lo, .AH b=>match Rr b,intOf (Ax S lo)with
   |some (.row g c l),Ac (_,a)=>match Hh g e&&Db P e (c.sz N)with
    |true=>Ag ((0<=a/\a<h)/\(h=m/\m<=((l.length:Nat):Int))) (k ⟨.px [b] (.sub a.toNat (h-a).toNat c),[b],[]⟩ nk)
    |false=>C7
   |_,_=>C7
  |none, .d (.sl c) l=>match Db P e (c.sz N)with
   |true=>Ag (h=((FD (show List (c.den N.T)from l):Nat):Int)/\m=h) (k ⟨.px [] (.dx c l),[],[]⟩ nk)
   |false=>C7
  |_,_=>C7
 |_,_,_=>C7
theorem gp{lo:Option DQ}{hi V:DQ}(ho:o.op= .slice t x lo (Ac hi) (Ac V))(h:cr P S Rr nk t x lo hi V k=Ac r):A1 P C S Rr nk o k r:=by
 have f:∀ {η:Nat->BZ} {H:Hp} {a:Act} {y:DQ},y=x\/y=hi\/y=V\/Ac y=lo->(∀x∈o.op.operands,(Ax S x).is C η H (a.eval x))->(Ax S y).is C η H (a.eval y):=λ{η H a y} Z s=>s y (by
  rw[ho];cases lo with
  |none=>rcases Z with rfl|rfl|rfl|Z<;>first|(cases Z)|simp[af]
  |some z=>rcases Z with rfl|rfl|rfl|Z<;>first|grind[af]|simp[af]);unfold cr at h;split at h;case h_2=>grind
 rename_i e kh q km mm ht hhi hmx;split at h
 ·rename_i lo b hs;split at h
  ·rename_i g J l ka A hb hlo;split at h
   ·rename_i hI;obtain⟨⟨⟨W,c2⟩,c3,c4⟩,h⟩:=AE h;rw[AT]at hI;obtain⟨bytes,z,U,hzs,M,hbb,_⟩:=Eb hI.2;refine .y h (λη H Of a w Y hn' T hinv s G hfr K Q hK=>?_) λτ _=>trivial;rcases G b (.inl (by simp)) _ hb with e|⟨X,h1,xs,e3,hL⟩;· grind
    subst e3;obtain⟨i,h2,_⟩:=Jj Of hn' h1;have e1:a.eval x=η b:=by
     have:(SV.AH b:SV N.T).is C η H (a.eval x):=by grind
     exact this.1
    have L:=AV hhi (f (.inr (.inl rfl)) s);have e3:=AV hmx (f (.inr (.inr (.inl rfl))) s);have e4:=AV hlo (f (.inr (.inr (.inr rfl))) s);obtain⟨d,c,e5,hle⟩:∃d c,η b= .slice (Ac d) l.length c/\l.length<=c:=by
     rcases(T.IL h2).1 with⟨_,M⟩|⟨d,c,e,hc⟩;· omega
     grind
    have hop:Au P o.op o.type (EV a) H (Y.map (·.2)++Of) (.slice (Ac (d.add (A.toNat*J.sz N))) (q-A).toNat (q-A).toNat):= .Ao λE w o B _ F _=>by
     have G:=fL (a:=Ac d) (n:=l.length) (cap:=c) (kl:=ka) (kh:=kh) (km:=km) ht U W (by omega:A<=q) (by omega:q<=mm) (by omega) w;have hsl:sliced (Ac d) A.toNat q.toNat mm.toNat (J.sz N)= .slice (Ac (d.add (A.toNat*J.sz N))) (q-A).toNat (q-A).toNat:=by unfold sliced;rw[if_neg (by omega)];simp only[Adg,BZ.slice.injEq,true_and];omega
     rw[hsl]at G;have I:E.eval x= .slice (Ac d) l.length c:=F x _ (congrArg Ac (e1.trans e5));have q2:E.eval hi= .int kh q:=F hi _ (congrArg Ac L);have q3:E.eval V= .int km mm:=F V _ (congrArg Ac e3);have q4:E.eval lo= .int ka A:=F lo _ (congrArg Ac e4);rw[ho]at B;simp[Kt,B,I,q2,q3,q4,G]
    refine Aez (hop a w o rfl rfl (λx u e=>by simpa using e) T) T λw' hw'=>?_;refine hK _ w' H η Y (Hp.le.refl H) (λ_ _=>rfl) (λ_ _=>rfl) (λk sr h=>by cases h) hn' (λk hk=> .inl hk) hw' ⟨d,l.length,c,?_,by omega,rfl⟩;grind
   grind
  grind
 ·rename_i J l hs;split at h
  ·rename_i hI;obtain⟨⟨W,c2⟩,h⟩:=AE h;obtain⟨bytes,z,U,hzs,M,hbb,_⟩:=Eb hI;refine .y h (Abu λη H O a s _=>?_) λ_ _=>trivial;obtain⟨cs,⟨v,rfl,hv⟩,L⟩:(SV.d (.sl J) l:SV N.T).is C η H (a.eval x):=by rw[<-hs];exact f (.inl rfl) s
   have L:[v]=[a.eval x]:=L;cases L;have L:=AV hhi (f (.inr (.inl rfl)) s);have e3:=AV hmx (f (.inr (.inr (.inl rfl))) s);obtain⟨d,c,e5,hle⟩:∃d c,a.eval x= .slice d l.length c/\l.length<=c:=by
    rcases hv.sl with⟨e,M⟩|⟨d,c,e,hc⟩;· exact⟨C7,0,by rw[e,M],by omega⟩
    ·exact⟨Ac d,c,e,hc⟩
   obtain⟨p,hv',e6⟩:∃p,G4 (N.c J) H l (.slice p l.length l.length)/\sliced d 0 l.length l.length (J.sz N)= .slice p l.length l.length:=by
    obtain⟨⟨xs,I,q2⟩,q3⟩:=hv;rw[e5]at I;refine⟨d,⟨⟨xs,⟨I.len,?_,?_⟩,q2⟩,q3⟩,?_⟩
    ·rcases I.sl with⟨e,M⟩|⟨a',c',e,hc⟩;· left;injection e with e _ _;exact⟨by rw[e,M],M⟩
     ·right;injection e with e _ e';exact⟨a',l.length,by rw[e],Aae _⟩
    ·intro j u hj;have:=I.cells j u hj;cases d<;>exact this
    ·unfold sliced;cases d with
     |none=>simp
     |some d=>
      simp only[Adg,Aeh,Nat.sub_zero];have:d.add 0=d:=IC d;rw[this];simp
   refine⟨.slice p l.length l.length,?_,⟨p,rf⟩,[_],⟨_,rf,hv'⟩,rf⟩;rw[ho];refine .Ao λE w o B _ F _=>?_;have G:=fM (a:=d) (n:=l.length) (cap:=c) (kh:=kh) (km:=km) (h:=q) (m:=mm) ht U (by omega) (by omega) (by rw[c2,W];exact_mod_cast hle) w;rw[c2,W]at G;rw[show((l.length:Nat):Int).toNat=l.length from rfl,e6]at G;have I:E.eval x= .slice d l.length c:=F x _ (congrArg Ac e5);have q2:E.eval hi= .int kh q:=F hi _ (congrArg Ac L);have q3:E.eval V= .int km mm:=F V _ (congrArg Ac e3);rw[W]at q2;rw[c2,W]at q3;simp[Kt,B,I,q2,q3,G]
  ·cases h
 grind
def qC(P:GN)(S:Nat->SV N.T)(Rr:Nat->Option (SR N.T))(nk:Nat)(t:Gq)(x y:DQ)(k:Bx N.T->Nat->Option R):Option R:=match P.underlying t,intOf (Ax S y),Ax S x with
 |some (.slice e),Ac (_,j), .px [b] (.sub i m c)=>match Rr b with
  |some (.row _ a l)=>match Pw P e (c.sz N)&&c.JO a with
   |true=>Ag (0<=j/\j<(m:Int)) (Ab (idx l ((i:Int)+j)) λz=>k ⟨.Ec b ((i:Int)+j) 0 a z,[b],[]⟩ nk)
   |false=>C7
  |_=>C7
 |_,_,_=>C7
theorem pe{y:DQ}(u:o.op= .indexAddr t x y)(h:qC P S Rr nk t x y k=Ac r):A1 P C S Rr nk o k r:=by
 have v:∀ {η:Nat->BZ} {H:Hp} {a:Act},(∀x∈o.op.operands,(Ax S x).is C η H (a.eval x))->(Ax S x).is C η H (a.eval x):=λd=>d x (by grind[af]);have w:∀ {η:Nat->BZ} {H:Hp} {a:Act},(∀x∈o.op.operands,(Ax S x).is C η H (a.eval x))->(Ax S y).is C η H (a.eval y):=λd=>d y (by grind[af]);unfold qC at h;split at h;case h_2=>grind
 rename_i e X j b i m B Q L M;split at h;case h_2=>grind
 rename_i g U l K;split at h;case h_2=>grind
 rename_i s;rw[AT]at s;have I:=Adn s.2;subst I;obtain⟨bytes,zv,A⟩:=Dq s.1;obtain⟨⟨F,G⟩,h⟩:=AE h;obtain⟨z,T,h⟩:=Bi h;refine .y h (Abu λη H O a d _=>?_) λτ _ W Z Y p=>?_
 ·obtain⟨D,n,c,q,V,E⟩:(SV.px [b] (.sub i m B):SV N.T).is C η H (a.eval x):=by rw[<-M];exact v d
  have q:η b= .slice (Ac D) n c:=by simpa using q
  have J:=AV L (w d);refine⟨AL (a.eval x) (j.toNat*B.sz N),?_,?_,D,n,c,q⟩;· rw[u];exact Agi Q A rfl (.inr ⟨_,_,E,Aae _⟩) (congrArg Ac J) ⟨F,G⟩
  ·rw[E,q];simp only[AL,BZ.pointer.injEq,Adz,Ago];rw[C8,<-Adp];congr 2;omega
 ·rw[K]at p;cases p;exact⟨Ty.SG B,by rw[T];rfl⟩
theorem jo{a:Act}{f:Ty}{l d:List (f.den N.T)}{ys:List BZ}{u:Option Addr}(ht:P.underlying t=Ac (.slice e))(hI:Db P e (f.sz N)=Bp)(A:a.eval s= .slice u l.length l.length)(hv:G4 (N.c f) H l (.slice u l.length l.length))
  (W:A2 (N.c f) H d ys) (n:∀w,SH w H O->GK.Src w (a.eval x) (f.sz N) d.length ys) (hc:l.length+d.length<=Ng P e) (h2:d≠ []):
  BM P (.call {callee:= .builtin .append,args:= #[s,x],argTypes:= #[t,t]}) T (EV a) H O (λv' D E=>(D=H/\∃xs,E= .row v' e (f.sz N) (l++d).length xs::O/\A2 (N.c f) H (l++d) xs)/\v'.oneCell'=Bp):=by
 obtain⟨bytes,z,hz,X,G,J,_⟩:=Eb hI;obtain⟨xs,q,V⟩:=hv.ex;rw[Bn]at q;cases u with
 |none=>
  have hl:l=[]:=by rcases q.sl with⟨_,G⟩|⟨F,c',e,hc⟩;all_goals grind
  subst hl;refine BM.IM ((QL (i:=0) (l:=[]) (xs:=[]) ht hI A rfl rfl W (λw A=>n w ?_) hc).mono ?_);· have:=A.nt 1;grind
  grind
 |some u=>
  obtain⟨hc,hbm⟩:=J _ hc;refine Agd 0 (.Ao λF w o ho hT he U=>?_) ?_
  ·obtain⟨ii,K,g1,g2,g3⟩:=hz.ex;obtain⟨y,Q⟩:=n w U;have hpos:0<d.length:=by grind
   rcases Q with⟨_,h0'⟩|⟨Z,cx,I,j⟩;· omega
   obtain⟨L,M⟩:=U.TW q;rcases M with⟨e,_⟩|⟨ad',c',e,p⟩;· grind
   injection e with e _ _;injection e with e;subst e;obtain⟨v',w',hr,Y,k2⟩:=run_append_arg_grows (P:=P) w t o.type e ii z (f.sz N) bytes ht K g3 g1 g2 X G u l.length l.length xs L p Z d.length cx ys y j (by omega) (by simp only[maxLen,Ah]at*;omega) (by omega);refine⟨v',w',H,_,?_,Hp.le.refl H,⟨rfl,xs++ys,rfl,V.app W⟩,U.push (r:= .row v' e (f.sz N) (l++d).length (xs++ys)) k2 ?_ (λb J=>?_)⟩;· have q1:F.eval s= .slice (Ac u) l.length l.length:=he s _ (congrArg Ac A);have q2:F.eval x= .slice (Ac Z) d.length cx:=he x _ (congrArg Ac I);simp[Kt,ho,resolve,invoke,builtin,q1,q2,hr,je]
   ·rw[Aac];exact⟨Y.1,Y.2.imp id λ⟨g,cap,cur,e,_,h⟩=>⟨g,cap,cur,e,Abh _,h⟩⟩
   ·exact(IU.ownsRow.lt Y b J).1
  grind
def se(P:GN)(S:Nat->SV N.T)(Rr:Nat->Option (SR N.T))(nk:Nat)(s x:DQ)(t:Gq)(k:Bx N.T->Nat->Option R):Option R:=match P.underlying t,Ax S s with
 |some (.slice e), .px _ (.dx b l)=>match Db P e (b.sz N),Xj S Rr b x with
  |true,Ac (a,c)=>Ag (l.length+a.length<=Ng P e/\0<a.length) (k ⟨.AH nk,c,[(nk, .row e b (l++a))]⟩ (nk+1))
  |_,_=>C7
 |_,_=>C7
theorem pG(i:o.op= .call {callee:= .builtin .append,args:= #[s,x],argTypes:= #[t,t]})(B:∀j,nk<=j->Rr j=C7)(h:se P S Rr nk s x t k=Ac r):A1 P C S Rr nk o k r:=by
 have m:∀ {η:Nat->BZ} {H:Hp} {a:Act},(∀x∈o.op.operands,(Ax S x).is C η H (a.eval x))->(Ax S s).is C η H (a.eval s):=λc=>c s (by grind[af,gv]);have n:∀ {η:Nat->BZ} {H:Hp} {a:Act},(∀x∈o.op.operands,(Ax S x).is C η H (a.eval x))->(Ax S x).is C η H (a.eval x):=λc=>c x (by simp_all[af,gv]);unfold se at h;split at h;case h_2=>grind
 rename_i e I J l F E;split at h;case h_2=>grind
 rename_i V W z d;obtain⟨⟨hc,u⟩,h⟩:=AE h;refine .new h (Afi (B nk (Aae _)) λη H O a c D=>?_) λ_ _=>trivial;obtain⟨⟨T,q⟩,U,⟨v,rfl,w⟩,f⟩:(SV.px I (.dx J l):SV N.T).is C η H (a.eval s):=by rw[<-E];exact m c
 have f:[v]=[a.eval s]:=f;cases f;obtain⟨X,G,p⟩:=LG d (n c) D;rw[i];rw[q]at w;refine(jo F z q w G p hc (λe=>by rw[e]at u;simp at u)).mono ?_;rintro K M Q ⟨⟨rfl,L,rfl,A⟩,y⟩;exact⟨rfl,_,K,rfl,⟨L,by rw[AA],A⟩,by rw[AA],y⟩
def pP(P:GN)(S:Nat->SV N.T)(nk:Nat)(t:Gq)(x:DQ)(k:Bx N.T->Nat->Option R):Option R:=match P.underlying t,Ax S x with
 |some (.slice _), .d (.sl a) l=>match(show List (a.den N.T)from l)with
  | []=>k ⟨.px [] .ub,[],[]⟩ nk
  |_::_=>k ⟨.lb Aj,[],[]⟩ nk
 |_,_=>C7
theorem VQ{b:BinOp}(j:b= .eql){Ty:Gq}{c:Nat}(ht:P.underlying t=Ac (.slice e))(m:E x=Ac (.slice a n c)):Au P (.binOp b t x (.const (.slice C7 0 0)) Ty) T E H O (.bool a.isNone):= .Ao λg w o l _ i p=>by
 have h:(binOp .eql t (.slice a n c) (.slice C7 0 0)).run P w= .ok (.bool a.isNone) w:=by
  have h:∀d:Nat,(ns (d+1) t (.slice a n c) (.slice C7 0 0)).run P w= .ok a.isNone w:=λd=>by cases a<;>simp[ns,AX ht]
  simp_all[binOp,pure,bool,qn,Alu]
 have hc:g.eval (.const (.slice C7 0 0))= .slice C7 0 0:=rfl;simp_all[Kt,eqGuard]
theorem oW{Ty:Gq}(m:o.op= .binOp .eql t x (.const (.slice C7 0 0)) Ty)(h:pP P S nk t x k=Ac r):A1 P C S Rr nk o k r:=by
 have p:∀ {η:Nat->BZ} {H:Hp} {a:Act},(∀x∈o.op.operands,(Ax S x).is C η H (a.eval x))->(Ax S x).is C η H (a.eval x):=λd=>d x (by grind[af]);unfold pP at h;split at h;case h_2=>grind
 rename_i e q l u B;have key:∀ {η:Nat->BZ} {H:Hp} {a:Act},(∀x∈o.op.operands,(Ax S x).is C η H (a.eval x))->∃b n c,a.eval x= .slice b n c/\(b=C7->n=0)/\n=(show List (q.den N.T)from l).length:=λ{η H a} d=>by
  obtain⟨F,⟨v,rfl,D⟩,f⟩:(SV.d (.sl q) l:SV N.T).is C η H (a.eval x):=by grind
  have f:[v]=[a.eval x]:=f;rcases D.sl with⟨e,w⟩|⟨b,c,e,_⟩;all_goals grind
 split at h;· refine .y h (Abu λη H O a d _=>?_) λ_ _=>trivial;obtain⟨b,n,c,i,_,_⟩:=key d;exact⟨_,by rw[m];exact VQ rfl u (congrArg Ac i),_,rfl⟩
 ·refine .y h (Abu λη H O a d _=>?_) λ_ _=>trivial;obtain⟨b,n,c,i,f,s⟩:=key d;refine⟨_,by rw[m];exact VQ rfl u (congrArg Ac i),?_⟩;cases b with
  |some b=>rfl
  |none=>
   grind
def Ym:List Int->Aq:=λl=>l.map λn=>UInt8.ofNat n.toNat
theorem aZ{H:Hp} :∀ {l:List Int} {xs:List BZ},A2 (N.c (.int .u8)) H l xs->xs=(Ym l).map λb=>BZ.int .u8 (b.toNat:Int)
 | [],_,h=>h
 |n::l,_,⟨g,xs,e,a,f⟩=>by
  obtain⟨a,c⟩:=D4.1 a;have c:0<=n/\n<=255:=c;subst e;subst a;have d:((UInt8.ofNat n.toNat).toNat:Int)=n:=by grind[UInt8.toNat_ofNat']
  rw[aZ f];show [BZ.int .u8 n]++_=BZ.int .u8 ((UInt8.ofNat n.toNat).toNat:Int)::_;rw[d];rfl
def rM(P:GN)(S:Nat->SV N.T)(nk:Nat)(s d:Gq)(x:DQ)(k:Bx N.T->Nat->Option R):Option R:=match P.underlying s,P.underlying d,Ax S x with
 |some (.slice e),Ac .string, .d (.sl (.int .u8)) l=>match P.underlying e with
  |some (.int .u8)=>k ⟨.d .str (Ym l),[],[]⟩ nk
  |_=>C7
 |some (.slice e),Ac .string, .raw (.slice C7 0 0)=>match P.underlying e with
  |some (.int .u8)=>k ⟨.d .str [],[],[]⟩ nk
  |_=>C7
 |some (.int _),Ac .string,s=>match intOf s with
  |some (_,n)=>Ag (0<=n/\n<128) (k ⟨.d .str [UInt8.ofNat n.toNat],[],[]⟩ nk)
  |none=>C7
 |_,_,_=>C7
theorem X7{n:Int}(h0:0<=n)(h1:n<128):Utf8.encode n=⟨⟨[UInt8.ofNat n.toNat]⟩⟩:=by grind[Utf8.valid,validRune,Utf8.encode]
theorem WL{s:Gq}{l:List Int}{v:BZ}(u:P.underlying s=Ac (.slice e))(n:P.underlying d=Ac .string)(p:P.underlying e=Ac (.int .u8))(y:E x=Ac v)(G:G4 (N.c (.int .u8)) H l v):Au P (.convert s d x) T E H O (sv (Ym l)):= .Ao λJ w o t _ m I=>by
 obtain⟨K,B,g⟩:=G.ex;have i:=aZ g;obtain⟨q,hc⟩:=I.TW B;rcases hc with⟨rfl,A⟩|⟨z,c,rfl,a⟩
 ·have F:l=[]:=OF.1 A;subst F;have:=run_convert_bytes_string (P:=P) w s d e C7 0 0 u p n;have g:(Conv.bytesToString (.slice C7 0 0)).run P w= .ok (.string ByteArray.empty) w:=by rfl
  rw[g]at this;simp[Kt,t,m x _ y,this];rfl
 ·have h:(Ym l).length=l.length:=by simp[Ym]
  have:=run_convert_bytes_back (P:=P) w s d e z c (Ym l) u p n (λj D=>a j _ (by grind));rw[h]at this;simp only[Kt,t,m x _ y];simp;erw [this];rfl
theorem pz{s:Gq}(g:o.op= .convert s d x)(h:rM P S nk s d x k=Ac r):A1 P C S Rr nk o k r:=by
 have b:∀ {η:Nat->BZ} {H:Hp} {a:Act},(∀x∈o.op.operands,(Ax S x).is C η H (a.eval x))->(Ax S x).is C η H (a.eval x):=λc=>c x (by grind[af]);unfold rM at h;split at h
 ·rename_i e l j i f;split at h
  ·rename_i u;refine .y h (Abu λη H O a c _=>?_) λ_ _=>trivial;obtain⟨E,⟨v,rfl,m⟩,t⟩:(SV.d (.sl (.int .u8)) l:SV N.T).is C η H (a.eval x):=by grind
   have t:[v]=[a.eval x]:=t;cases t;exact⟨_,by rw[g];exact WL j i u rfl m,[_],rfl,rfl⟩
  grind
 ·rename_i e j i f;split at h
  ·rename_i u;refine .y h (Abu λη H O a c _=>?_) λ_ _=>trivial;have m:a.eval x= .slice C7 0 0:=by
    have:(SV.raw (.slice C7 0 0):SV N.T).is C η H (a.eval x):=by grind
    trivial
   exact⟨_,by rw[g];exact WL (N:=N) (l:=[]) j i u (congrArg Ac m) G4.nil,[_],rf,rf⟩
  grind
 ·rename_i q j i;split at h;· rename_i B n A;obtain⟨hc,h⟩:=AE h;refine .y h (Abu λη H O a c _=>?_) λ_ _=>trivial;have m:=AV A (b c);refine⟨sv [UInt8.ofNat n.toNat],?_,[_],rfl,rfl⟩;rw[g];refine .Ao λD w o g _ z F=>?_;have:=run_convert_int_string (P:=P) w s d B n (by rw[j];rfl) i;rw[X7 hc.1 hc.2]at this;simp[Kt,g,z x _ (congrArg Ac m),this];rfl
  trivial
 grind
end
end
section
variable {P : GN} {T : Gq} {E : DQ -> Option BZ} {H : Hp} {O : List Aw}
theorem Ajx{s x:DQ}{t u e:Gq}{v:BZ}{i m:Nat}{str:Aq}{xs:List BZ}(ht:P.underlying t=Ac (.slice e))(y:P.underlying u=Ac .string)(Z:TI P e 1 1 (.int .u8 0))(Y:E s=Ac v)(L:E x=Ac (sv str))
  (hi:O[i]?=Ac (.row v e 1 m xs)) (hb:m+str.length<=Ah):
  BM P (.call {callee:= .builtin .append,args:= #[s,x],argTypes:= #[t,u]}) T E H O (λv' N R=>N=H/\R=O.set i (.row v' e 1 (m+str.length) (xs++Lib.byteCells str))):=by
 intro a w o next Q X hT J K k;have c:=K.ok i _ hi;obtain⟨ii,j,q,A,B⟩:=Z.ex;have d:(ByteArray.mk (Array.mk str)).size=str.length:=rfl;have F:Lib.strCells (ByteArray.mk (Array.mk str))=Lib.byteCells str:=rfl;obtain⟨v',w',r,M,k2,k3⟩:=Lib.run_append_own_string (P:=P) w 0 t u o.type e ii ht y j B q A v m xs c ⟨⟨str⟩⟩ (by simp only[maxLen,Ah]at*;omega) (by grind) (Abh _);unfold K7.wp;simp only[sv]at L;simp[Kt,X,resolve,invoke,builtin,J s _ Y,J x _ L,r,je];refine k v' w' H _ (Hp.le.refl H) ⟨rfl,rfl⟩ (K.set hi k2 M (λb h=>?_));rcases c.2 with⟨rfl,D⟩|⟨g,cap,cur,rfl,_,V,W,U,C,G⟩;· right;subst D;have I:xs=[]:=Abd (by rw[c.1,Aeh]);obtain⟨v2,w2,f,q1,_,_⟩:=Lib.run_append_own_string (P:=P) w w.heap.size t u o.type e ii ht y j B q A (.slice C7 0 0) 0 [] (IU.ownsRow_nil w _ e _) ⟨⟨str⟩⟩ (by simp only[maxLen,Ah]at*;omega) (by grind) (Aae _);rw[r]at f;injection f with p z;subst p;exact(IU.ownsRow.lt q1 b h).1
 ·by_cases l:m+str.length<=cap;· left;have f:=Lib.run_append_room_string (P:=P) w t u o.type e ii ht y j q g m cap cur V ⟨⟨str⟩⟩ l (by omega);rw[r]at f;injection f with p z;rw[p]at h;exact h
  ·have f:=Lib.run_append_grow_string (P:=P) w t u o.type e ii (.int .u8 0) ht y j B ⟨g,0,C7⟩ m cap xs (by rw[c.1,q]) (c.cells (g:=g) rfl) ⟨⟨str⟩⟩ (by omega) (by simp only[Ah]at*;omega) (by rw[A,d];exact growslice_fits (by omega) (by simp only[Ah]at*;omega));grind[Aw.has,BZ.ownBlock]
end
section
variable {N : C9} {R : Type} {P : GN} {C : List (SV N.T)} {S : Nat -> SV N.T} {Rr : Nat -> Option (SR N.T)} {nk : Nat} {o : K7} {k : Bx N.T -> Nat -> Option R} {r : R}
section
variable{t:Gq}{x:DQ}{H:Hp}{e:Gq}
def c9:Aq->List Int:=λl=>l.map λb=>(b.toNat:Int)
theorem VZ{H:Hp} :∀l:Aq,A2 (N.c (.int .u8)) H (c9 l) (Lib.byteCells l)
 | []=>rfl
 |b::l=>⟨[.int .u8 (b.toNat:Int)],Lib.byteCells l,rfl,D4.2 ⟨rfl,by have:=b.toNat_lt;show(0:Int)<=b.toNat/\(b.toNat:Int)<=255;omega⟩,VZ l⟩
def u8I(P:GN)(e:Gq):Bool:=match P.info? e with
 |some a=>Hh a.size 1&&(Hh a.bytes 1&&match a.zero with
  |some (.int .u8 0)=>Bp
  |_=>Aj)
 |none=>Aj
theorem ob(h:u8I P e=Bp):TI P e 1 1 (.int .u8 0):=by
 unfold u8I at h;split at h
 ·rename_i a f;simp only[AT]at h;obtain⟨c,d,b⟩:=h;split at b;· rename_i g;exact⟨a,f,AI c,AI d,g⟩
  grind
 grind
def sg(P:GN)(S:Nat->SV N.T)(Rr:Nat->Option (SR N.T))(nk:Nat)(s x:DQ)(t u:Gq)(k:Bx N.T->Nat->Option R):Option R:=match P.underlying t,P.underlying u,Ax S s,Th (Ax S x)with
 |some (.slice e),Ac .string, .AH b,Ac str=>match Rr b with
  |some (.row g (.int .u8) l)=>match Hh g e&&u8I P e with
   |true=>Ag (FD (show List Int from l)+str.length<=Ah) (k ⟨.AH nk,[],[(nk, .row g (.int .u8) (show List Int from(show List Int from l)++c9 str)),(b, .gone)]⟩ (nk+1))
   |false=>C7
  |_=>C7
 |_,_,_,_=>C7
theorem pH{s:DQ}{u:Gq}(w:o.op= .call {callee:= .builtin .append,args:= #[s,x],argTypes:= #[t,u]})(Q:∀j,nk<=j->Rr j=C7)(h:sg P S Rr nk s x t u k=Ac r):A1 P C S Rr nk o k r:=by
 have y:∀ {η:Nat->BZ} {H:Hp} {a:Act},(∀x∈o.op.operands,(Ax S x).is C η H (a.eval x))->(Ax S s).is C η H (a.eval s):=λd=>d s (by grind[af,gv]);have z:∀ {η:Nat->BZ} {H:Hp} {a:Act},(∀x∈o.op.operands,(Ax S x).is C η H (a.eval x))->(Ax S x).is C η H (a.eval x):=λd=>d x (by simp_all[af,gv]);unfold sg at h;split at h;case h_2=>grind
 rename_i e b str U V T n;split at h;case h_2=>cases h
 rename_i g l A;split at h;case h_2=>cases h
 rename_i q;rw[AT]at q;have F:=AI q.1;subst F;obtain⟨hc,h⟩:=AE h;change List Int at l;refine .mov h A (Ahw A (by simp) (Q nk (Aae _)) λη H O a X i d f K Z=>?_) λ_ _=>trivial;obtain⟨Y,G,M⟩:=K;subst G;have B:=y d;rw[T]at B;have I:a.eval x=sv str:=I3 n (z d);rw[<-B.1]at f;have v:i<O.length:=(IT.1 f).1;rw[w];refine(Agd i (Ajx U V (ob q.2) rfl (congrArg Ac I) f hc) ?_).mono ?_;· rintro p D E ⟨rfl,rfl⟩;exact⟨_,_,_,_,by rw[List.getElem?_set_self v]⟩
 ·rintro p D E ⟨⟨rfl,rfl⟩,L⟩;refine⟨rfl,_,p,rfl,⟨_,?_,M.app (VZ str)⟩,by rw[AA],L⟩;rw[AA];have J:FD (l++c9 str)=l.length+str.length:=by simp[c9]
  show Aw.row p g 1 (l.length+str.length) _=Aw.row p g 1 (FD (l++c9 str)) _;rw[J]
def rN(P:GN)(nk:Nat)(t:Gq)(k:Bx N.T->Nat->Option R):Option R:=match P.underlying t with
 |some (.slice e)=>match L_ N P e with
  |some a=>match Db P e (a.sz N)with
   |true=>k ⟨.AH nk,[],[(nk, .row e a [])]⟩ (nk+1)
   |false=>C7
  |none=>C7
 |_=>C7
theorem jh{size bytes:Nat}{z:BZ}{T:Gq}{E:DQ->Option BZ}{O:List Aw}(ht:P.underlying t=Ac (.slice e))(l:TI P e size bytes z):
  BM P (.buildSlice t 0 #[]) T E H O (λv d f=>d=H/\v.oneCell'=Bp/\f= .row v e size 0 []::O):= .Ao λa w o i _ m j=>by
 refine⟨.slice (Ac ⟨w.heap.size,0,C7⟩) 0 0,w.alloc (.cells #[] e),H,_,?_,Hp.le.refl H,⟨rf,rf,rf⟩,j.push (IU.grownBy_alloc w _ C7) ?_ (λb h=>by grind[Aw.has,BZ.ownBlock])⟩;· simp[Kt,i,Instr.buildSlice,AX ht,l.sizeOf,ny,newRow];grind
 ·exact⟨by simp, .inr ⟨w.heap.size,0, #[],rf,Abh _,heap_alloc_new w _,Aae _,Abh _,by simp,by simp⟩⟩
theorem pA(i:o.op= .buildSlice t 0 #[])(g:∀j,nk<=j->Rr j=C7)(h:rN P nk t k=Ac r):A1 P C S Rr nk o k r:=by
 unfold rN at h;split at h;case h_2=>grind
 rename_i e l;split at h;case h_2=>grind
 rename_i u m;split at h;case h_2=>grind
 rename_i f;obtain⟨bytes,z,c,_⟩:=Eb f;refine .new h (Afi (g nk (Aae _)) λη H O a s q=>?_) λ_ _=>trivial;rw[i];refine(jh l c).mono ?_;rintro v n p ⟨rfl,d,rfl⟩;exact⟨rfl,_,v,rfl,⟨[],by grind[AA],rfl⟩,by rw[AA],d⟩
def n_(P:GN)(S:Nat->SV N.T)(Rr:Nat->Option (SR N.T))(nk:Nat)(x:DQ)(T:Gq)(k:Bx N.T->Nat->Option R):Option R:=match Ax S x,P.underlying T with
 | .AH b,Ac (.pointer _)=>match Rr b with
  |some (.row _ (.int .u8) l)=>k ⟨.px [b] (.sd (FD (show List Int from l))),[b],[]⟩ nk
  |_=>C7
 |_,_=>C7
theorem oR(A:o.op= .call {callee:= .builtin .unsafeSliceData,args:= #[x],argTypes:= #[t]})(h:n_ P S Rr nk x o.type k=Ac r):A1 P C S Rr nk o k r:=by
 have E:∀ {η:Nat->BZ} {H:Hp} {a:Act},(∀x∈o.op.operands,(Ax S x).is C η H (a.eval x))->(Ax S x).is C η H (a.eval x):=λI=>I x (by grind[af,gv]);unfold n_ at h;split at h;case h_2=>grind
 rename_i b J hs W;split at h;case h_2=>grind
 rename_i g l Z;refine .y h (λη H L a w Y q d M I hr hfr K Q V=>?_) λτ _=>trivial;rcases hr b (.inl (by simp)) _ Z with e|⟨X,T,xs,O,hL⟩;· grind
 subst O;obtain⟨i,U,_⟩:=Jj L q T;have m:a.eval x=η b:=by
  have:(SV.AH b:SV N.T).is C η H (a.eval x):=by grind
  exact this.1
 have c:=d.ok i _ U;have f:∀v B,SH B H (Y.map (·.2)++L)->(∃p,v= .pointer p)->(0<l.length->v=AL (η b) 0)->(Kt a.eval o).run P w= .ok (.value v) B->o.wp P a w K Q:=λv B G q1 q2 s=>by unfold K7.wp;rw[s];exact V v B H η Y (Hp.le.refl H) (λ_ _=>rfl) (λ_ _=>rfl) (λk sr h=>by cases h) q (λk hk=> .inl hk) G ⟨q1,λh=>⟨η b,rfl,q2 h⟩⟩
 rcases c.2 with⟨u,h0⟩|⟨z,cap,cur,u,_,hg,hnc,hcm,hcs,F⟩;· refine f (.pointer C7) w d ⟨C7,rfl⟩ (λh=>by omega) ?_;have h:=Lib.run_unsafeSliceData_nil (P:=P) w #[t] o.type 0 0;rw[u]at m;simp[Kt,A,resolve,invoke,builtin,m,h]
 ·by_cases n:cap=0
  ·subst n;refine f (.pointer (Ac ⟨w.heap.size,0,C7⟩)) (w.alloc (.view ⟨z,0,C7⟩ J)) ?_ ⟨_,rfl⟩ (λh=>by omega) ?_;· have:=(d.alloc (.view ⟨z,0,C7⟩ J)).drop 0;simpa using this
   ·have h:=Lib.run_unsafeSliceData_zero (P:=P) w #[t] o.type J W ⟨z,0,C7⟩ l.length (sh:=(g,cur.size)) (by simp[IU.shape?,hg]);rw[u]at m;simp[Kt,A,resolve,invoke,builtin,m,h]
  ·refine f (AL (η b) 0) w d ⟨_,by rw[u];rfl⟩ (λ_=>rfl) ?_;have h:=Lib.run_unsafeSliceData_row (P:=P) w #[t] o.type ⟨z,0,C7⟩ l.length cap n;rw[u]at m⊢;simp[Kt,A,resolve,invoke,builtin,m,h,AL,xt]
def n9(P:GN)(S:Nat->SV N.T)(Rr:Nat->Option (SR N.T))(nk:Nat)(x y:DQ)(pt:Gq)(k:Bx N.T->Nat->Option R):Option R:=match Ax S x,intOf (Ax S y),P.underlying pt with
 | .px [b] (.sd m),Ac (.i64,n),Ac (.pointer e)=>match Rr b,Hh (P.cellsOf e) 1 with
  |some (.row g (.int .u8) l),Bp=>match Hh g e with
   |true=>Ag (n=((FD (show List Int from l):Nat):Int)/\m=FD (show List Int from l)) (k ⟨.d .str (Ym l),[],[(b, .gone)]⟩ nk)
   |false=>C7
  |_,_=>C7
 |_,_,_=>C7
theorem oQ{y:DQ}{pt it:Gq}(U:o.op= .call {callee:= .builtin .unsafeString,args:= #[x,y],argTypes:= #[pt,it]})(h:n9 P S Rr nk x y pt k=Ac r):A1 P C S Rr nk o k r:=by
 have hox:∀ {η:Nat->BZ} {H:Hp} {a:Act},(∀x∈o.op.operands,(Ax S x).is C η H (a.eval x))->(Ax S x).is C η H (a.eval x):=λD=>D x (by grind[af,gv]);have hoy:∀ {η:Nat->BZ} {H:Hp} {a:Act},(∀x∈o.op.operands,(Ax S x).is C η H (a.eval x))->(Ax S y).is C η H (a.eval y):=λD=>D y (by simp_all[af,gv]);unfold n9 at h;split at h;case h_2=>grind
 rename_i b m n e hs hn hpt;split at h;case h_2=>grind
 rename_i g l O hce;split at h;case h_2=>grind
 rename_i hge;have:=AI hge;subst this;change List Int at l;obtain⟨⟨V,W⟩,h⟩:=AE h;have t:(Ym l).length=l.length:=by simp[Ym]
 refine⟨_,nk,h,λη H L a w Y I A hinv D hr hfr K Q hK=>?_,Aae _,λj d f=>?_,λτ _=>trivial⟩
 ·rcases hr b (.inr (by simp[keys])) _ O with e|⟨X,h1,xs,e3,hL⟩;· grind
  subst e3;obtain⟨i,M,h3⟩:=Jj L I h1;obtain⟨⟨p,hp⟩,hsd⟩:(SV.px [b] (.sd m):SV N.T).is C η H (a.eval x):=by rw[<-hs];exact hox D
  have ey:=AV hn (hoy D);rw[V,<-t]at ey;have F:∀s,SH s H ((Ij Y b .emp).map (·.2)++L)->K (a.put o.dst (sv (Ym l))) s:=λs c=>
   hK _ s H η (Ij Y b .emp) (Hp.le.refl H) (λ_ _=>rfl) (λj d=>Pq λe=>d (by subst e;simp[keys])) (λj sr d=>by
    simp only[Ay]at d;split at d;· cases d;exact .inl rfl
    ·cases d) (by rw[EL];exact I) (λj d=> .inl (by rw[EL]at d;exact d)) c ⟨[_],rfl,rfl⟩;by_cases h0:l=[]
  ·subst h0;have z:Au P o.op o.type (EV a) H (Y.map (·.2)++L) (sv (Ym [])):=by
    rw[U];exact Akz (congrArg Ac hp) (congrArg Ac ey)
   refine Aez (z a w o rfl rfl (λx u e=>by simpa using e) A) A λs c=>F s ?_;rw[<-h3];exact c.set M ⟨rfl,rfl,rfl,Aae _,λ_ _ _=>rfl⟩ trivial (λb O=>by cases O)
  ·have J:0<m:=by rw[W];exact Aed.2 h0
   obtain⟨u,Z,e6⟩:=hsd J;have Z:u=η b:=by simpa using Z.symm
   subst Z;have hLB:A2 cBy H (Ym l) xs:=V0.2 (aZ hL);have M:(Y.map (·.2)++L)[i]?=Ac (.row (η b) g 1 (Ym l).length xs):=by rw[t];exact M
   have z:=BM.unsafeString (P:=P) (T:=o.type) (E:=EV a) (x:=x) (y:=y) (pt:=pt) (it:=it) (e:=g) hpt (AI hce) (congrArg Ac e6) (congrArg Ac ey) M hLB (λe=>h0 (by have:=congrArg FD e;rw[t]at this;exact OF.1 this));refine z a w o K Q U rfl (λx u e=>by simpa using e) A λv s H' O' hle ⟨e7,e8,e9⟩ c=>?_;subst e7;subst e8;subst e9;rw[h3]at c;exact F s c
 grind[keys]
end
end
section
variable {P : GN} {H : Hp} {O : List Aw} {E : DQ -> Option BZ} {T : Gq} {x y : DQ} {kk : Lo} {m n : Int} {tys : Array Gq}
theorem Au.max2(f:E x=Ac (.int kk m))(g:E y=Ac (.int kk n)):Au P (.call {callee:= .builtin .max,args:= #[x,y],argTypes:=tys}) T E H O (.int kk (if n>m then n else m)):= .Ao λa w o e _ d _=>by simp[Kt,e,d x _ f,d y _ g,resolve,invoke,builtin,Builtin.max_,Builtin.max2]
theorem Au.min2(f:E x=Ac (.int kk m))(g:E y=Ac (.int kk n)):Au P (.call {callee:= .builtin .min,args:= #[x,y],argTypes:=tys}) T E H O (.int kk (if n<m then n else m)):= .Ao λa w o e _ d _=>by simp[Kt,e,d x _ f,d y _ g,resolve,invoke,builtin,Builtin.min_,Builtin.min2]
theorem Ajz{t e:Gq}{size:Nat}{ii:TypeInfo}{v z:BZ}{i m f:Nat}{xs d:List BZ}(ht:P.underlying t=Ac (.slice e))(B:P.info? e=Ac ii)(Y:ii.size=size)(C:tys[0]?=Ac t)(hx:E x=Ac v)(hy:E y=Ac z)
  (hi:O[i]?=Ac (.row v e size m xs)) (q:∀w,SH w H O->GK.Src w z size f d) (h1:∀u∈d,u.oneCell'=Bp):
  BM P (.call {callee:= .builtin .copy,args:= #[x,y],argTypes:=tys}) T E H O (λv' H' O'=>H'=H/\O'=O.set i (.row v e size m (d.take (min f m*size)++xs.drop (min f m*size)))/\v'= .int .i64 (min f m:Nat)):=by
 intro a w o next Q ho hT he N k;have r:=N.ok i _ hi;obtain⟨J,q⟩:=q w N;have Z:=r.1;have sx:=he x _ hx;have sy:=he y _ hy;have s:min f m=0->(wo tys o.type #[v,z]).run P w= .ok (goInt 0) w->o.wp P a w next Q:=λh0 X=>by
  unfold K7.wp;simp[Kt,ho,resolve,invoke,builtin,sx,sy,X,je];refine k _ w H _ (Hp.le.refl H) ⟨rfl,rfl,?_⟩ ?_;· rw[h0];rfl
  ·rw[h0];simp_all[Aeh,Aee,Aff,Acd,Rq]
 rcases r.2 with⟨rfl,rfl⟩|⟨g,cap,cur,rfl,U,hg,W,G,S,D⟩
 ·refine s (by simp) ?_;rcases q with⟨rfl,rfl⟩|⟨L,c,rfl,p⟩;· simp[wo,C,run_underlying ht,Builtin.lenOf,wI,sizeOf,typeInfo,B]
  ·have:=run_loadCells_list (P:=P) w L [] (λj v h=>by grind);simp at this;simp[wo,C,run_underlying ht,Builtin.lenOf,wI,sizeOf,typeInfo,B,this]
 ·rcases q with⟨rfl,rfl⟩|⟨L,c,rfl,p⟩;· refine s (by simp) ?_;simp[wo,C,run_underlying ht,Builtin.lenOf,wI,sizeOf,typeInfo,B,storeCells]
  ·have hle:min f m*size<=d.length:=by rw[J];exact Abi _ (Nat.min_le_left _ _)
   have l:(d.take (min f m*size)).length=min f m*size:=by rw[Aba];omega
   have hl:=run_loadCells_list (P:=P) w L (d.take (min f m*size)) (λj u M=>p j u (by
    rw[Aex]at M;split at M;· exact M
    ·cases M));rw[l]at hl;have I:min f m*size<=cur.size:=by rw[S];exact Abi _ (by omega)
   have K:=run_storeCells_at P g 0 e (d.take (min f m*size)) 0 cur w hg (by simpa [l]using I) (λu hu=>h1 u (Acl hu));simp only[Abl,Aee,Acd,l]at K;have X:(wo tys o.type #[.slice (Ac ⟨g,0,C7⟩) m cap, .slice (Ac L) f c]).run P w= .ok (goInt (Nat.min f m:Nat)) (w.setRow g (d.take (min f m*size)++cur.toList.drop (min f m*size)).toArray):=by simp[wo,C,run_underlying ht,Builtin.lenOf,wI,sizeOf,typeInfo,B,Y,hl,K]
   unfold K7.wp;simp[Kt,ho,resolve,invoke,builtin,sx,sy,X,je];refine k _ _ H _ (Hp.le.refl H) ⟨rfl,rfl,by simp[goInt,Nat.min_def]⟩ (N.set hi (E2 w g _) ?_ (λb hb=> .inl hb));refine⟨?_, .inr ⟨g,cap,(d.take (min f m*size)++cur.toList.drop (min f m*size)).toArray,rfl,U,setRow_heap w g cur _ e _ hg,W,G,?_,?_⟩⟩;· rw[Aac,l,Ajn,Z];have:min f m*size<=m*size:=Abi _ (Nat.min_le_right _ _);omega
   ·simp[l];omega
   ·have V:min f m*size<=m*size:=Abi _ (Nat.min_le_right _ _);simp only[Adw,l];rw[Abm (by rw[l];exact V),<-D,Ahb]
end
section
variable {N : C9} {R : Type} {P : GN} {C : List (SV N.T)} {S : Nat -> SV N.T} {Rr : Nat -> Option (SR N.T)} {nk : Nat} {o : K7} {k : Bx N.T -> Nat -> Option R} {r : R}
section
variable{x y:DQ}{tys:Array Gq}{α:Type}{t:Gq}
def p_(S:Nat->SV N.T)(nk:Nat)(x y:DQ)(k:Bx N.T->Nat->Option R):Option R:=match intOf (Ax S x),intOf (Ax S y)with
 |some (a,m),Ac (b,n)=>match kb a b with
  |true=>Aa a (if n>m then n else m) (k ⟨.d (.int a) (if n>m then n else m),[],[]⟩ nk)
  |false=>C7
 |_,_=>C7
def pZ(S:Nat->SV N.T)(nk:Nat)(x y:DQ)(k:Bx N.T->Nat->Option R):Option R:=match intOf (Ax S x),intOf (Ax S y)with
 |some (a,m),Ac (b,n)=>match kb a b with
  |true=>Aa a (if n<m then n else m) (k ⟨.d (.int a) (if n<m then n else m),[],[]⟩ nk)
  |false=>C7
 |_,_=>C7
theorem o6(c:o.op= .call {callee:= .builtin .max,args:= #[x,y],argTypes:=tys})(h:p_ S nk x y k=Ac r):A1 P C S Rr nk o k r:=by
 unfold p_ at h;split at h
 ·rename_i q m p n j l;split at h;· rename_i i;have e:=OK i;subst e;obtain⟨_,d,f⟩:=BV h;refine .y f (Abu λη H O a g _=>⟨_,?_,D6 d⟩) λ_ _=>trivial;rw[c];exact Au.max2 (congrArg Ac (AV j (g x (by simp_all[af,gv])))) (congrArg Ac (AV l (g y (by rw[c];simp[af,gv]))))
  grind
 grind
theorem o5(c:o.op= .call {callee:= .builtin .min,args:= #[x,y],argTypes:=tys})(h:pZ S nk x y k=Ac r):A1 P C S Rr nk o k r:=by
 unfold pZ at h;split at h
 ·rename_i q m p n j l;split at h;· rename_i i;have e:=OK i;subst e;obtain⟨_,d,f⟩:=BV h;refine .y f (Abu λη H O a g _=>⟨_,?_,D6 d⟩) λ_ _=>trivial;rw[c];exact Au.min2 (congrArg Ac (AV j (g x (by simp_all[af,gv])))) (congrArg Ac (AV l (g y (by rw[c];simp[af,gv]))))
  grind
 grind
def iO{α:Type}(l a:List α):List α:=a.take (min a.length l.length)++l.drop (min a.length l.length)
theorem cy(l b:List α):(iO l b).length=l.length:=by grind[iO]
theorem OD{α:Type}{c:Cd α}{H:Hp} :∀ {l:List α} {xs:List BZ} (m:Nat),A2 c H l xs->A2 c H (l.drop m) (xs.drop (m*c.sz))
 |l,xs,0,h=>by grind
 | [],xs,m+1,h=>by grind[A2]
 |a::l,_,m+1,⟨b,d,e,g,i⟩=>by
  have:=OD m i;have e:(b++d).drop ((m+1)*c.sz)=d.drop (m*c.sz):=by
   have j:=c.len g;have f:(m+1)*c.sz=b.length+m*c.sz:=by grind
   grind[xe,List.drop_left]
  grind
def cz(P:GN)(S:Nat->SV N.T)(Rr:Nat->Option (SR N.T))(nk:Nat)(x y:DQ)(t:Gq)(k:Bx N.T->Nat->Option R):Option R:=match P.underlying t,Ax S x with
 |some (.slice e), .AH b=>match Rr b with
  |some (.row g c l)=>match Hh g e&&Db P e (c.sz N),Xj S Rr c y with
   |true,Ac (a,d)=>Ag (min a.length l.length<=Ah) (k ⟨.na (min a.length l.length),d,[(b, .row g c (iO l a))]⟩ nk)
   |_,_=>C7
  |_=>C7
 |_,_=>C7
theorem gq{t2:Gq}(q:o.op= .call {callee:= .builtin .copy,args:= #[x,y],argTypes:= #[t,t2]})(h:cz P S Rr nk x y t k=Ac r):A1 P C S Rr nk o k r:=by
 unfold cz at h;split at h
 ·rename_i e b U T;split at h
  ·rename_i g f l A;split at h
   ·rename_i c rd n m;obtain⟨hc,h⟩:=AE h;refine .set h A (Afy A (by simp) λη H O a X i D w L Q=>?_) λ_ _=>trivial;rw[AT]at n;have I:=AI n.1;subst I;obtain⟨F,J,M⟩:=L;subst J;have B:(SV.AH b:SV N.T).is C η H (a.eval x):=by rw[<-T];exact D x (by rw[q];simp[af,gv])
    obtain⟨G,E,s⟩:=LG m (D y (by rw[q];simp[af,gv])) Q;obtain⟨bytes,z,V,W,_,_,_⟩:=Eb n.2;obtain⟨ii,p,K,_,_⟩:=V.ex;have j:A2 (N.c f) H (iO l c) (G.take (min c.length l.length*f.sz N)++F.drop (min c.length l.length*f.sz N)):=by have u:=A2.take (min c.length l.length) E;have v:=OD (min c.length l.length) M;rw[Bn]at u v;exact u.app v
    refine⟨.row (η b) g (f.sz N) l.length (G.take (min c.length l.length*f.sz N)++F.drop (min c.length l.length*f.sz N)),⟨_,by rw[cy],j⟩,?_⟩;rw[q];rw[<-B.1]at w;refine(Ajz (tys:= #[t,t2]) U p K rfl rfl rfl w s E.one).mono ?_;rintro v' Y Z ⟨rfl,rfl,rfl⟩;refine⟨rfl,by rw[B.1],rfl,?_⟩;grind
   grind
  grind
 grind
theorem Zl{b:Ty}(a:b.agg=Aj):b.sz N=1:=by unfold Ty.agg at a;grind[Ty.sz]
def fdK(P:GN)(S:Nat->SV N.T)(nk:Nat)(t:Gq)(x:DQ)(i:Nat)(k:Bx N.T->Nat->Option R):Option R:=match iw P t i with
 |some (off,c,m+1)=>match L_ N P c,Ax S x with
  |some b, .d a y=>match a.agg,Fg N 16 a y off b with
   |true,Ac z=>k ⟨.d b z,[],[]⟩ nk
   |_,_=>C7
  |_,_=>C7
 |_=>C7
theorem vX{i:Nat}(A:o.op= .field t x i)(h:fdK P S nk t x i k=Ac r):A1 P C S Rr nk o k r:=by
 unfold fdK at h;split at h
 ·rename_i off ft m U;obtain⟨Z,f,F,G,I,J,_⟩:=(jC.of U).ex;split at h
  ·rename_i E L y B V;split at h
   ·rename_i z s n;refine .y h (Abu λη H O a W _=>?_) λ_ _=>trivial;obtain⟨c,Q,e⟩:(SV.d L y:SV N.T).is C η H (a.eval x):=by grind[af]
    have e:(match L.agg with|true=>a.eval x= .agg c.toArray|false=>c=[a.eval x]):=e;rw[s]at e;obtain⟨d,K,j,bytes,zz,D⟩:=Ke B;obtain⟨q,v⟩:=C5 n Q;cases b:E.agg with
    |true=>
     refine⟨.agg (c.toArray.extract off (off+E.sz N)),?_,(c.drop off).take (E.sz N),q,?_⟩;· rw[A];refine Au.Ao λM w X g _ u _=>?_;have:=u x _ rf;simp[Kt,g,this,e,Instr.field,AX F,G,asAgg,part,J,I,Cg K,j,b,D.sizeOf]
     ·unfold CL;rw[b];simp only[BZ.agg.injEq];simp[List.extract_eq_take_drop]
    |false=>
     have T:=Zl (N:=N) b;rw[T]at q v;have l:off<c.length:=by omega
     have hc:(c.drop off).take 1=[c[off]]:=by rw[Aaq l];rfl
     rw[hc]at q;refine⟨c[off],?_,[c[off]],q,?_⟩;· rw[A];refine Au.Ao λM w X g _ u _=>?_;have:=u x _ rfl;simp[Kt,g,this,e,Instr.field,AX F,G,asAgg,part,J,I,Cg K,j,b,l]
     ·unfold CL;rw[b]
   grind
  grind
 grind
end
end
section
variable {N : C9} {R : Type} {P : GN} {C : List (SV N.T)} {S : Nat -> SV N.T} {Rr : Nat -> Option (SR N.T)} {nk : Nat} {o : K7} {k : Bx N.T -> Nat -> Option R} {r : R}
section
variable{H:Hp}{u t:Gq}{x y:DQ}
def Lc:Ty->Option (List Lo)
 | .int k=>Ac [k]
 | .st t=>Lc t
 | .pr a b=>match Lc a,Lc b with
  |some x,Ac y=>Ac (x++y)
  |_,_=>C7
 |_=>C7
def DD:(t:Ty)->t.den N.T->List Int
 | .int _,x=>[x]
 | .st t,x=>DD t x
 | .pr a b,x=>DD a x.1++DD b x.2
 |_,_=>[]
theorem CG:∀ {t:Ty} {x:t.den N.T} {d:List Lo},Lc t=Ac d->(DD t x).length=d.length
 | .int _,_,_,h=>by cases h;rfl
 | .st t,x,_,h=>CG (t:=t) h
 | .pr a b,x,d,h=>by
  unfold Lc at h;split at h;· rename_i p q e f;cases h;show(DD a x.1++DD b x.2).length=_;rw[Aac,Aac,CG e,CG f]
  grind
theorem Y_:∀ {b:List Lo} {xs:List Int} {a:List Lo} {ys:List Int},xs.length=b.length->CT (b++a) (xs++ys)=CT b xs++CT a ys
 | [],[],_,_,_=>rfl
 |k::b,x::xs,_,_,h=>by grind[CT]
 | [],_::_,_,_,h=>by grind
 |_::_,[],_,_,h=>by grind
theorem D5{H:Hp} :∀ {t:Ty} {x:t.den N.T} {d:List Lo} {cs:List BZ},Lc t=Ac d->(N.c t).BP H x cs->cs=CT d (DD t x)
 | .int k,x,_,cs,h,c=>by cases h;exact(D4.1 c).1
 | .st t,x,_,cs,h,c=>D5 (t:=t) h c
 | .pr a b,x,d,cs,h,c=>by
  unfold Lc at h;split at h;· rename_i p q e j;cases h;obtain⟨l,m,rfl,g,i⟩:=c;show _=CT (p++q) (DD a x.1++DD b x.2);rw[Y_ (CG e),<-D5 e g,<-D5 j i]
  grind
def two(C:List (SV N.T))(t:Ty)(x y:SV N.T):Option (t.den N.T×t.den N.T):=match TK C t x,TK C t y with
 |some a,Ac b=>Ac (a,b)
 |_,_=>C7
def rZ(P:GN)(t:Gq)(a:List Lo):Bool:=match P.underlying t with
 |some (.array n e)=>match P.underlying e with
  |some (.int k)=>(Pw P e 1&& !P.eqGuardType P.depth t)&&(Hh a.length n&&a.all λj=>kb j k)
  |_=>Aj
 |_=>Aj
theorem L1{k:Lo} :∀ {a:List Lo} {xs:List Int},(∀j∈a,j=k)->xs.length=a.length->CT a xs=xs.map (BZ.int k)
 | [],[],_,_=>rfl
 |j::a,x::xs,h,c=>by simp only[CT,List.zipWith_cons_cons,Aas,h j (by simp)];congr 1;exact L1 (λj b=>h j (by grind)) (by grind)
 | [],_::_,_,h=>by grind
 |_::_,[],_,h=>by rfl
theorem Akr{O:List Aw}{E:DQ->Option BZ}{T:Gq}{ne:Bool}{d:List Lo}{xs ys:List Int}(b:rZ P t d=Bp)(g:E x=Ac (.agg (CT d xs).toArray))(h:E y=Ac (.agg (CT d ys).toArray))(h1:xs.length=d.length)(h2:ys.length=d.length):
  Au P (.binOp (match ne with|true=> .neq|false=> .eql) t x y u) T E H O (.bool (match ne with|true=> !decide (xs=ys)|false=>Dl (xs=ys))):=by
 unfold rZ at b;split at b
 ·rename_i n e p;split at b;· rename_i k l;simp only[AT,Aec]at b;obtain⟨⟨q,i⟩,c,s⟩:=b;have c:=AI c;have m:∀j∈d,j=k:=λj v=>OK (No.1 s j v);obtain⟨bytes,z,f⟩:=Dq q;rw[L1 m h1]at g;rw[L1 m h2]at h;cases ne with
   |true=>grind[Ajd]
   |false=>exact Ajc i p l f g h (h1.trans c) (h2.trans c)
  grind
 grind
def zY(P:GN)(C:List (SV N.T))(S:Nat->SV N.T)(nk:Nat)(ne:Bool)(t:Gq)(x y:DQ)(k:Bx N.T->Nat->Option R):Option R:=match L_ N P t with
 |some .bs=>match P.underlying t with
  |some (.array 4 e)=>match P.underlying e,Pw P e 1,P.eqGuardType P.depth t,two C .bs (Ax S x) (Ax S y)with
   |some (.int .u64),Bp,Aj,Ac (a,b)=>match ne with
    |false=>k ⟨.d .bool (eY a b),[],[]⟩ nk
    |true=>k ⟨.d .bool (!eY a b),[],[]⟩ nk
   |_,_,_,_=>C7
  |_=>C7
 |some (.st u)=>match Lc u,two C (.st u) (Ax S x) (Ax S y)with
  |some c,Ac (a,b)=>match Sh P t c with
   |true=>match ne with
    |false=>k ⟨.d .bool (Dl (DD u a=DD u b)),[],[]⟩ nk
    |true=>k ⟨.d .bool (!decide (DD u a=DD u b)),[],[]⟩ nk
   |false=>match rZ P t c with
    |true=>k ⟨.d .bool (match ne with|true=> !decide (DD u a=DD u b)|false=>Dl (DD u a=DD u b)),[],[]⟩ nk
    |false=>C7
  |_,_=>C7
 |_=>C7
theorem Pr{t:Ty}{x y:SV N.T}{a b:t.den N.T}{η:Nat->BZ}{v w:BZ}(h:two C t x y=Ac (a,b))(e:x.is C η H v)(f:y.is C η H w):(SV.d t a).is C η H v/\(SV.d t b).is C η H w:=by grind[two,DK]
theorem ok_eq{ne:Bool}(s:o.op= .binOp (match ne with|true=> .neq|false=> .eql) t x y u)(h:zY P C S nk ne t x y k=Ac r):A1 P C S Rr nk o k r:=by
 have v:∀ {η:Nat->BZ} {H:Hp} {a:Act},(∀x∈o.op.operands,(Ax S x).is C η H (a.eval x))->(Ax S x).is C η H (a.eval x):=λc=>c x (by grind[af]);have A:∀ {η:Nat->BZ} {H:Hp} {a:Act},(∀x∈o.op.operands,(Ax S x).is C η H (a.eval x))->(Ax S y).is C η H (a.eval y):=λc=>c y (by grind[af]);unfold zY at h;split at h
 ·split at h
  ·rename_i e K;split at h
   ·rename_i a b I Q J D;obtain⟨bytes,z,B⟩:=Dq Q;have val:∀ {η:Nat->BZ} {H:Hp} {f:Act},(∀x∈o.op.operands,(Ax S x).is C η H (f.eval x))->f.eval x= .agg (NU a)/\f.eval y= .agg (NU b):=λc=>by
     obtain⟨⟨F,g,m⟩,G,i,n⟩:=Pr D (v c) (A c);subst g;subst i;have m:_=BZ.agg (NU a).toList.toArray:=m;have n:_=BZ.agg (NU b).toList.toArray:=n;exact⟨m,n⟩
    split at h;· refine .y h (Abu λη H O f c _=>?_) λ_ _=>trivial;obtain⟨p,q⟩:=val c;exact⟨_,by rw[s];exact Aip J K I B (congrArg Ac p) (congrArg Ac q),CS⟩
    ·refine .y h (Abu λη H O f c _=>?_) λ_ _=>trivial;obtain⟨p,q⟩:=val c;exact⟨_,by rw[s];exact Ail J K I B (congrArg Ac p) (congrArg Ac q),CS⟩
   grind
  grind
 ·rename_i w M;split at h
  ·rename_i L a b l D;split at h
   ·rename_i E;have val:∀ {η:Nat->BZ} {H:Hp} {f:Act},(∀x∈o.op.operands,(Ax S x).is C η H (f.eval x))->f.eval x= .agg (CT L (DD w a)).toArray/\f.eval y= .agg (CT L (DD w b)).toArray:=λc=>by
     obtain⟨⟨F,g,m⟩,G,i,n⟩:=Pr D (v c) (A c);have g:=D5 (t:=w) l g;have i:=D5 (t:=w) l i;subst g;subst i;exact⟨m,n⟩
    split at h;· refine .y h (Abu λη H O f c _=>?_) λ_ _=>trivial;obtain⟨p,q⟩:=val c;exact⟨_,by rw[s];exact Aks E (congrArg Ac p) (congrArg Ac q) (CG l) (CG l),CS⟩
    ·refine .y h (Abu λη H O f c _=>?_) λ_ _=>trivial;obtain⟨p,q⟩:=val c;exact⟨_,by rw[s];exact Akt E (congrArg Ac p) (congrArg Ac q) (CG l) (CG l),CS⟩
   ·split at h;· rename_i E;refine .y h (Abu λη H O f c _=>?_) λ_ _=>trivial;obtain⟨⟨F,g,m⟩,G,i,n⟩:=Pr D (v c) (A c);have g:=D5 (t:=w) l g;have i:=D5 (t:=w) l i;subst g;subst i;exact⟨_,by rw[s];exact Akr (ne:=ne) E (congrArg Ac m) (congrArg Ac n) (CG l) (CG l),CS⟩
    ·cases h
  ·cases h
 grind
def dh(P:GN)(C:List (SV N.T))(S:Nat->SV N.T)(nk:Nat)(b:BinOp)(t:Gq)(x y:DQ)(k:Bx N.T->Nat->Option R):Option R:=match xp P t with
 |true=>match b with
  | .eql=>zY P C S nk Aj t x y k
  | .neq=>zY P C S nk Bp t x y k
  |_=>C7
 |false=>rS P S nk b t x y k
theorem gr{b:BinOp}(a:o.op= .binOp b t x y u)(h:dh P C S nk b t x y k=Ac r):A1 P C S Rr nk o k r:=by
 unfold dh at h;split at h
 ·split at h;· exact ok_eq (ne:=Aj) a h
  ·exact ok_eq (ne:=Bp) a h
  grind
 grind[pD]
end
end
section
variable{Y:List (Nat×Aw)}{k:Nat}
def FH(Y:List (Nat×Aw))(k:Nat):List (Nat×Aw):=Y.filter λp=> !Nat.beq p.1 k
theorem DF{Y:List (Nat×Aw)}{k j:Nat}(h:j≠k):Ay (FH Y k) j=Ay Y j:=by
 induction Y with
 |nil=>rfl
 |cons p Y b=>
  obtain⟨q,y⟩:=p;simp only[FH,Afl]at b⊢;cases c:Hh q k with
  |true=>
   have:=AI c;simp only[Ahj,Adx,if_false,b,Ay];grind[Hh,absurd,aU]
  |false=>
   grind[Ay]
theorem CH{Y:List (Nat×Aw)}{k j:Nat}(h:j∈keys (FH Y k)):j∈keys Y:=by obtain⟨p,a,e⟩:=By.1 h;exact By.2 ⟨p,(Abb.1 a).1,e⟩
theorem Ic(h:(keys Y).Nodup):(keys (FH Y k)).Nodup:=by grind[keys,FH]
theorem X8(h:k∉keys Y):FH Y k=Y:=by
 unfold FH;rw[List.filter_eq_self];intro p b;cases a:Hh p.1 k with
 |true=>exact absurd (By.2 ⟨p,b,AI a⟩) h
 |false=>rfl
theorem bY(Of:List Aw){x:Aw}(d:(keys Y).Nodup)(h:Ay Y k=Ac x):∃i,(Y.map (·.2)++Of)[i]?=Ac x/\(Y.map (·.2)++Of).eraseIdx i=(FH Y k).map (·.2)++Of:=by
 induction Y with
 |nil=>cases h
 |cons p Y g=>
  obtain⟨q,y⟩:=p;simp only[Ay]at h;simp only[keys,Aas,Aaz]at d;cases b:Hh q k with
  |true=>
   rw[b]at h;cases h;have:=AI b;refine⟨0,rfl,?_⟩;have:FH ((q,x)::Y) q=Y:=by unfold FH;rw[Afl];simp only[Agn,Ahj,Adx,if_false];exact X8 d.1
   grind
  |false=>
   rw[b]at h;obtain⟨i,e,f⟩:=g d.2 h;refine⟨i+1,by simpa using e,?_⟩;simp_all[FH]
end
section
variable {N : C9}
def GQ(k:Nat)(t:Ty)(l:List (t.den N.T)):SV N.T->SV N.T
 | .AH j=>match Hh j k with
  |true=> .d (.sl t) l
  |false=> .AH j
 | .Ec j i off g x=>match Hh j k with
  |true=> .no
  |false=> .Ec j i off g x
 | .lf s a r=> .lf s (GQ k t l a) (GQ k t l r)
 | .t2 a b=> .t2 (GQ k t l a) (GQ k t l b)
 | .t3 a b c=> .t3 (GQ k t l a) (GQ k t l b) (GQ k t l c)
 | .AK f r e=> .AK f (GQ k t l r) e
 | .vc a r=> .vc (GQ k t l a) (GQ k t l r)
 |s=>s
variable {C : List (SV N.T)} {η : Nat -> BZ} {H : Hp}
theorem CN{g:Nat->BZ->Prop}{k:Nat}{t:Ty}{l:List (t.den N.T)}(h:G4 (N.c t) H l (η k)):∀ {s:SV N.T} {v:BZ},s.BS g η H v->(GQ k t l s).BS g η H v
 | .AH j,v,o=>by
  unfold GQ;split;· rename_i E;have:=AI E;subst this;exact⟨[v],⟨v,rfl,by rw[o.1];omega⟩,rfl⟩
  omega
 | .Ec j i off I x,v,o=>by unfold GQ;split;all_goals trivial
 | .lf s a r,v,⟨w,A,u,e,m,n,p,B,D⟩=>⟨w,A,u,e,m,CN h n,p,B,CN h D⟩
 | .t2 a b,v,⟨x,y,e,m,n⟩=>⟨x,y,e,CN h m,CN h n⟩
 | .t3 a b c,v,⟨x,y,z,e,m,n,p⟩=>⟨x,y,z,e,CN h m,CN h n,CN h p⟩
 | .AK f r G,v,⟨q,e,m⟩=>⟨q,e,CN h m⟩
 | .vn,_,h=>h
 | .vc a r,v,⟨u,q,e,m,n⟩=>⟨u,q,e,CN h m,CN h n⟩
 | .d _ _,_,h=>h
 | .na _,_,h=>h
 | .ct _ _,_,h=>h
 | .cb _ _,_,h=>h
 | .lt _ _ _,_,h=>h
 | .lb _,_,h=>h
 | .raw _,_,h=>h
 | .ud,_,h=>h
 | .no,_,h=>h
 | .loc _ _,_,h=>h
 | .pd _ _ _,_,h=>h
 | .mp _,_,h=>h
 | .nl,_,h=>h
 | .px _ _,_,h=>h
 | .Cw _,_,h=>h
end
theorem LO{Y:List (Nat×Aw)}(Of:List Aw){k:Nat}{x:Aw}(h:Ay Y k=Ac x):(Y.map (·.2)++Of)[(keys Y).idxOf k]?=Ac x/\(keys Y).idxOf k<Y.length:=by
 induction Y with
 |nil=>cases h
 |cons p Y f=>
  obtain⟨q,y⟩:=p;simp only[Ay]at h;simp only[keys,Aas];rw[List.idxOf_cons];cases b:Hh q k with
  |true=>
   simp_all
  |false=>
   rw[b]at h;have c:(q==k)=Aj:=by simpa using Abf b
   obtain⟨d,e⟩:=f h;rw[c];unfold keys at d e;exact⟨by simpa using d,by simpa using e⟩
inductive PP where
 |sub (j n:Nat) (t:Ty)
 |sf
 |hc (n:Nat)
inductive SP where
 |v (j:Nat) (t:Ty)
 |AD (j i:Nat)
 |nat (j:Nat)
 |Am
 |kp (t:Ty)
 |c (j:Nat)
 |AH (k:Nat)
 |loc (k off:Nat)
 |AK (f:Nat) (fs:List (Nat×Ty)) (cs:List Nat)
 |nl
 |sv (ls:List (Nat×Nat×Ty))
 |mp (k:Nat)
 |px (ks:List Nat) (p:PP)
 |pd (j:Nat) (t:Ty) (off:Nat)
inductive RP where
 |row (g:Gq) (j:Nat)
 |Ai (g:Gq) (ls:List (Nat×SP))
 |c (j:Nat)
 |map (g:Gq) (j:Nat)
 |Ck (g e:Gq) (h j:Nat)
inductive HT where
 |Ae (t:Ty)
 |nat
structure A_ where
 hs:List HT
 sl:List (Nat×SP)
 ro:List (Nat×RP)
 nk:Nat
section
variable (N : C9)
section
variable{T:Nat->Type}
def HT.den:HT->Type
 | .Ae t=>t.den N.T
 | .nat=>Nat
def BJ:List HT->Type
 | []=>Unit
 | [t]=>t.den N
 |t::u::a=>t.den N×BJ (u::a)
def asN:SV T->Option Nat
 | .na n| .ct _ n| .cb _ n=>Ac n
 | .raw (.int .i64 (.ofNat n))=>match iT n Q_ with
  |true=>Ac n
  |false=>C7
 |_=>C7
def va(C:List (SV N.T)):(h:HT)->SV N.T->Option (h.den N)
 | .Ae t,s=>TK C t s
 | .nat,s=>asN s
def eU:(h:HT)->h.den N->SV N.T
 | .Ae t,x=> .d t x
 | .nat,n=> .na n
def wM(C:List (SV N.T))(f:Nat->SV N.T):Nat->(a:List HT)->Option (BJ N a)
 |_,[]=>Ac ()
 |j,[t]=>va N C t (f j)
 |j,t::u::b=>match va N C t (f j),wM C f (j+1) (u::b)with
  |some x,Ac y=>Ac (x,y)
  |_,_=>C7
def Cu:(a:List HT)->BJ N a->Nat->SV N.T
 | [],_,_=> .no
 | [t],x,0=>eU N t x
 | [_],_,_+1=> .no
 |t::_::_,x,0=>eU N t x.1
 |_::u::b,x,j+1=>Cu (u::b) x.2 j
def vy(a:List HT)(x:BJ N a):List (Nat×Ty)->SV N.T
 | []=> .vn
 |(j,_)::l=> .vc (Cu N a x j) (vy a x l)
def om(a:List HT)(x:BJ N a):List (Nat×Nat×Ty)->SV N.T
 | []=> .nl
 |(s,j,_)::l=> .lf s (Cu N a x j) (om a x l)
def inst(a:List HT)(x:BJ N a):SP->SV N.T
 | .v j _| .nat j=>Cu N a x j
 | .AD j i=>match Cu N a x j with
  | .na n=> .ct i n
  |s=>s
 | .c j=> .Cw j
 | .AH k=> .AH k
 | .loc k off=> .loc k off
 | .AK f g e=> .AK f (vy N a x g) e
 | .nl=> .raw (.slice C7 0 0)
 | .sv h=>om N a x h
 | .mp k=> .mp k
 | .px b (.sub j n t)=>match Cu N a x j,Cu N a x n with
  | .na i, .na m=> .px b (.sub i m t)
  |_,_=> .px b .any
 | .px b .sf=> .px b .sf
 | .px b (.hc n)=> .px b (.hc n)
 | .pd j _ off=>match Cu N a x j with
  | .d t x=> .pd t x off
  |_=> .no
 |_=> .no
def instL(a:List HT)(x:BJ N a):List (Nat×SP)->SV N.T
 | []=> .nl
 |(s,p)::b=> .lf s (inst N a x p) (instL a x b)
def instR(a:List HT)(x:BJ N a):RP->SR N.T
 | .row g j=>match Cu N a x j with
  | .d (.sl t) l=> .row g t l
  |_=> .gone
 | .Ai g f=> .Ai g (instL N a x f)
 | .c j=> .Cw j
 | .map g j=>match Cu N a x j with
  | .d (.sl (.st (.pr b i))) l=> .map g b i l
  |_=> .gone
 | .Ck g e h j=>match Cu N a x j with
  | .d (.sl (.pr .bool (.sl t))) l=> .Ck g e t h l
  |_=> .gone
def FG(p:A_)(x:BJ N p.hs):St N.T:=⟨p.sl.map λq=>(q.1,inst N p.hs x q.2),p.ro.map λq=>(q.1,instR N p.hs x q.2),p.nk⟩
def R6:SV N.T->Nat->Nat->Option (SV N.T)
 | .lf s a l,off,n=>match aX off s with
  |true=>match Hh off 0&&Hh s n with
   |true=>Ac a
   |false=>C7
  |false=>R6 l (off-s) n
 |_,_,_=>C7
def TY:SV N.T->Nat
 | .lf s _ l=>s+TY l
 |_=>0
def whole{T:Nat->Type} :SV T->Bool
 | .lf _ _ r=>whole r
 | .nl=>Bp
 |_=>Aj
def Xd:SV N.T->Nat
 | .d t _=>t.sz N
 |_=>1
def zG(f:Nat->Nat)(c:Nat):Option (SV N.T)->Bool
 |some (.px [k] .sf)=>Hh (f c) k
 |some (.loc k 0)=>Hh (f c) k
 |some (.raw (.pointer C7))=>Bp
 |_=>Aj
def NO:Nat->List (Nat×SP)->List (Nat×Nat×SP)
 |_,[]=>[]
 |off,(s,p)::l=>(off,s,p)::NO (off+s) l
def AZ(m:List (Nat×Nat))(c:Nat):Nat:=match Ay m c with
 |some k=>k
 |none=>c
def Px(l:List (Nat×SP)):Nat:=l.foldr (λq n=>q.1+n) 0
def kmL(C:List (SV N.T))(b:SV N.T)(l:List (Nat×SP)):List (Nat×Nat):=(NO 0 l).flatMap λq=>match q.2.2,EY N C b q.1 C7 with
 | .AH c,Ac (.AH k)=>[(c,k)]
 | .mp c,Ac (.mp k)=>[(c,k)]
 | .px d .sf,Ac (.px e .sf)=>d.zip e
 | .px [c] .sf,Ac (.loc k _)=>[(c,k)]
 | .AK _ _ d,Ac (.AK _ _ e)=>d.zip e
 |_,_=>[]
def qK(C:List (SV N.T))(b:SV N.T)(l:List (Nat×SP)):List (Nat×SV N.T):=(NO 0 l).flatMap λq=>match q.2.2 with
 | .v j t=>[(j,(EY N C b q.1 (Ac t)).getD .no)]
 | .nat j=>[(j,(EY N C b q.1 C7).getD .no)]
 |_=>[]
end
end
section
variable {N : C9} {C : List (SV N.T)} {CR : List (SR N.T)} {n : Nat} {Of : List Aw} {bs : List (Nat × BZ)} {st : St N.T} {η : Nat -> BZ} {H : Hp} {a : Act} {w : IU}
section
variable{s:SV N.T}{v:BZ}{C':List (SV N.T)}{m:Nat}{h:HT}{x:h.den N}{η':Nat->BZ}{c:List BZ}
theorem rV(h:asN s=Ac m)(b:s.is C η H v):(SV.na m:SV N.T).is C η H v:=by
 unfold asN at h;split at h;· grind
 ·cases h;exact b
 ·cases h;exact⟨b.1,Agm b.2⟩
 ·split at h;· rename_i c;cases h;exact⟨b,Aax c⟩
  grind
 grind
theorem rW(c:va N C h s=Ac x)(b:s.is C η H v):(eU N h x).is C η H v:=by
 cases h with
 |Ae t=>exact DK (t:=t) c b
 |nat=>exact rV c b
theorem fw(b:(eU N h x).is C η H v):(eU N h x).is C' η' H v:=by cases h<;>exact b
theorem JJ{f:Nat->SV N.T} :∀(b:List HT) (i:Nat) (x:BJ N b),wM N C f i b=Ac x->∀j,Cu N b x j= .no\/∃h y,va N C h (f (i+j))=Ac y/\Cu N b x j=eU N h y
 | [],_,_,_,_=> .inl rfl
 | [t],i,x,h,j=>by
  cases j with
  |zero=>exact .inr ⟨t,x,h,rfl⟩
  |succ j=>exact .inl rfl
 |t::u::c,i,x,h,j=>by
  have h:(match va N C t (f i),wM N C f (i+1) (u::c)with
   |some x,Ac y=>Ac (x,y)
   |_,_=>C7)=Ac x:=h;split at h;· rename_i y z d e;cases h;cases j with
   |zero=>exact .inr ⟨t,y,d,rfl⟩
   |succ j=>
    have:=JJ (u::c) (i+1) z e j;rw[show i+1+j=i+(j+1) by omega]at this;trivial
  grind
theorem BK:∀ {l:List Nat},Ci l=Bp->l.Nodup
 | [],_=>Afc
 |k::l,h=>by simp only[Ci,AT,Aec]at h;refine Aaz.2 ⟨λb=>?_,BK h.2⟩;grind[AU]
theorem P_{α:Type}{f:α->Nat} :∀ {l:List α},(l.map f).Nodup->∀ {a b:α},a∈l->b∈l->f a=f b->a=b
 | [],_,_,_,h,_,_=>by grind
 |x::l,c,a,b,m,o,e=>by
  rw[Aas,Aaz]at c;rcases Aav.1 m with g|j<;>rcases Aav.1 o with i|k;· grind
  ·grind
  ·grind
  ·exact P_ c.2 j k e
theorem GF{b:SV N.T}{q:Nat×Nat×SP}{l:List (Nat×SP)}(h:q∈NO 0 l):(∀j t,q.2.2= .v j t->(j,(EY N C b q.1 (Ac t)).getD .no)∈qK N C b l)/\∀j,q.2.2= .nat j->(j,(EY N C b q.1 C7).getD .no)∈qK N C b l:=
 ⟨λj t e=>Aad.2 ⟨q,h,by grind⟩,λj e=>Aad.2 ⟨q,h,by grind⟩⟩
theorem J':∀ {l:SV N.T} {cs:List BZ},whole l=Bp->l.is C η H (.agg cs.toArray)->∀x∈cs,x.oneCell'=Bp:=by
 intro l;induction l with
 |lf s a r _ f=>
  intro cs c h x b;obtain⟨g,i,u,rfl,j,k,m,d,e⟩:=FE h;rcases AS.1 b with b|b;· grind
  ·exact f c e x b
 |nl=>
  intro cs _ h x b;have:cs=[]:=by have h:BZ.agg cs.toArray= .agg #[]:=h;grind
  grind
 |_=>intro cs c _;cases c
theorem HS:∀ {l:SV N.T} {cs:List BZ},whole l=Bp->l.is C η H (.agg cs.toArray)->TY N l=cs.length:=by
 intro l;induction l with
 |lf s a r _ d=>
  intro cs b h;obtain⟨e,f,u,rfl,g,i,j,k,c⟩:=FE h;have:=d b c;grind[TY]
 |nl=>
  intro cs _ h;have:cs=[]:=by have h:BZ.agg cs.toArray= .agg #[]:=h;grind
  subst this;rfl
 |_=>intro cs b _;cases b
theorem aN:∀ {l s:SV N.T} {off m:Nat} {cs:List BZ},R6 N l off m=Ac s->l.is C η H (.agg cs.toArray)->∃u,s.is C η H u/\u.cells.toList=(cs.drop off).take m/\u.cells.toList.length=m:=by
 intro l;induction l with
 |lf s a r _ p=>
  intro sv off m cs h o;obtain⟨y,z,u,rfl,c,j,e,A,k⟩:=FE o;unfold R6 at h;split at h
  ·split at h;· rename_i b;cases h;simp only[AT]at b;have g:=AI b.1;have i:=AI b.2;subst g;subst i;exact⟨u,j,by rw[e,Aff,Ach (by omega),<-c,Aar],by rw[e];exact c⟩
   grind
  ·rename_i b;have b:s<=off:=by
    rcases Aan off s with d|d;· rw[show aX off s=Bp by simpa using d]at b;cases b
    ·exact d
   obtain⟨x,q,t,v⟩:=p h k;refine⟨x,q,?_,v⟩;rw[Acr,Aay (by omega),Acd,c];exact t
 |_=>intro sv off m cs h _;simp[R6]at h
structure dI(C:List (SV N.T))(Hs:List (Nat×SV N.T))(P:Nat->SV N.T):Prop where
 ok:∀j s,(j,s)∈Hs->P j= .no\/∃h y,va N C h s=Ac y/\P j=eU N h y
theorem dI.is{Hs:List (Nat×SV N.T)}{P:Nat->SV N.T}(h:dI C Hs P){j:Nat}(d:(j,s)∈Hs)(f:s.is C η H v):(P j).is C' η' H v:=by
 rcases h.ok j s d with e|⟨g,y,b,c⟩;· rw[e];trivial
 ·rw[c];exact fw (rW b f)
theorem Zw{cs:List BZ}{off:Nat}(h:(cs.drop off).take m=c)(d:c.length=m):cs.drop off=c++cs.drop (off+m):=by grind[xe,List.take_append_drop]
theorem ZC{f:Nat->Nat}{c:Nat}{u:BZ}(b:zG N f c (Ac s)=Bp)(h:s.is C η H u) :(SV.px [c] .sf:SV N.T).is C' (λc=>η (f c)) H u/\Xd N s=1:=by
 unfold zG at b;split at b;· rename_i k e;cases e;have:=AI b;subst this;trivial
 ·rename_i k e;cases e;have:=AI b;obtain⟨B,d,g⟩:=h;exact⟨.inr ⟨B,by grind,g⟩,rfl⟩
 ·rename_i e;cases e;exact⟨.inl h,rfl⟩
 grind
theorem Cy{sv:SV N.T}(h:xw C η H sv c):c.length=Xd N sv:=by
 obtain⟨u,i,b,d⟩:=h;rcases d with⟨j,y,rfl,e⟩|⟨g,f⟩;· exact e
 ·rw[<-b,A9 g];cases sv<;>first|rfl|grind
end
end
def SV.DO{T:Nat->Type}(ρ:Nat->Nat):SV T->SV T
 | .loc k o=> .loc (ρ k) o
 | .AH k=> .AH (ρ k)
 | .mp k=> .mp (ρ k)
 | .Ec _ _ _ _ _=> .no
 | .lf s a l=> .lf s (a.DO ρ) (l.DO ρ)
 | .t2 a b=> .t2 (a.DO ρ) (b.DO ρ)
 | .t3 a b c=> .t3 (a.DO ρ) (b.DO ρ) (c.DO ρ)
 | .AK f l cs=> .AK f (l.DO ρ) (cs.map ρ)
 | .vc a l=> .vc (a.DO ρ) (l.DO ρ)
 | .px e p=> .px (e.map ρ) p
 |s=>s
def SR.DO{T:Nat->Type}(ρ:Nat->Nat):SR T->SR T
 | .Ai g l=> .Ai g (l.DO ρ)
 | .row g t l=> .row g t l
 | .map g a b l=> .map g a b l
 | .Ck g e t h l=> .Ck g e t (ρ h) l
 |_=> .gone
section
variable {N : C9} {C : List (SV N.T)} {η η' : Nat -> BZ} {H : Hp}
section
variable{ρ:Nat->Nat}{C':List (SV N.T)}
theorem Afh{g:Nat->BZ->Prop}{ρ:Nat->Nat} :∀ {s:SV N.T} {v:BZ},(∀k∈s.AJ,η' (ρ k)=η k)->s.BS g η H v->(s.DO ρ).BS g η' H v
 | .d t x,v,_,h=>h
 | .na _,_,_,h=>h
 | .ct _ _,_,_,h=>h
 | .cb _ _,_,_,h=>h
 | .lt _ _ _,_,_,h=>h
 | .lb _,_,_,h=>h
 | .raw _,_,_,h=>h
 | .ud,_,_,h=>h
 | .no,_,_,h=>h
 | .loc k o,_,e,h=>by grind[SV.DO,SV.BS,SV.AJ]
 | .AH k,_,e,h=>by grind[SV.DO,SV.BS,SV.AJ]
 | .Ec _ _ _ _ _,_,_,_=>trivial
 | .pd t x off,v,_,h=>h
 | .mp k,_,e,h=>by grind[SV.DO,SV.BS,SV.AJ]
 | .lf s a l,v,e,⟨A,B,u,m,i,n,q,E,F⟩=>⟨A,B,u,m,i,Afh (λk j=>e k (by grind[SV.AJ])) n,q,E,Afh (λk j=>e k (by grind[SV.AJ])) F⟩
 | .nl,_,_,h=>h
 | .t2 a b,v,e,⟨x,y,m,i,n⟩=>⟨x,y,m,Afh (λk j=>e k (by grind[SV.AJ])) i,Afh (λk j=>e k (by grind[SV.AJ])) n⟩
 | .t3 a b c,v,e,⟨x,y,z,m,i,n,q⟩=>⟨x,y,z,m,Afh (λk j=>e k (by grind[SV.AJ])) i,Afh (λk j=>e k (by grind[SV.AJ])) n,Afh (λk j=>e k (by grind[SV.AJ])) q⟩
 | .AK f l I,v,e,⟨w,m,i⟩=>⟨w,by simp_all[SV.AJ],Afh (λk j=>e k (by grind[SV.AJ])) i⟩
 | .vn,_,_,h=>h
 | .vc a l,v,e,⟨u,w,m,i,n⟩=>⟨u,w,m,Afh (λk j=>e k (by grind[SV.AJ])) i,Afh (λk j=>e k (by grind[SV.AJ])) n⟩
 | .px r p,v,e,h=>by
  have D:(r.map ρ).map η'=r.map η:=by simp_all[SV.AJ]
  show p.is ((r.map ρ).map η') H v;rw[D];exact h
 | .Cw _,_,_,h=>h
theorem SR.My{k:Nat}{s:SR N.T}{r:Aw}(f:η' (ρ k)=η k)(e:∀j∈s.AJ,η' (ρ j)=η j)(h:s.is [] η H k r):(s.DO ρ).is C' η' H (ρ k) r:=by
 cases s with
 |Ai g l=>
  obtain⟨B,i,b,a,c⟩:=h;exact⟨B,i,f.trans b,a,SV.BS.imp (λ_ _ ⟨_,h,_⟩=>by grind) (Afh e c)⟩
 |row g t l=>obtain⟨d,b,a⟩:=h;exact⟨d,by grind,a⟩
 |Cw j=>trivial
 |gone=>trivial
 |map g p q l=>obtain⟨B,b,a⟩:=h;exact⟨B,f.trans b,a⟩
 |Ck g o t m l=>obtain⟨d,n,b,a,c⟩:=h;exact⟨d,n,by grind,(e m (by simp[SR.AJ])).trans a,c⟩
theorem SV.My{s:SV N.T}{v:BZ}(e:∀k∈s.AJ,η' (ρ k)=η k)(h:s.is [] η H v):(s.DO ρ).is C' η' H v:=
 SV.BS.imp (λ_ _ ⟨_,h,_⟩=>by grind) (Afh e h)
theorem SH.Rd{w:IU}{Y Z:List (Nat×Aw)}{Of:List Aw}(h:SH w H (Y.map (·.2)++Of))(t:(keys Z).Nodup)(u:∀p∈Z,Ay Y p.1=Ac p.2):SH w H (Z.map (·.2)++Of):=by
 refine h.pick (λi=>match Z[i]? with
  |some p=>(keys Y).idxOf p.1
  |none=>Y.length+(i-Z.length)) (λi r E=>?_) λi j B D e=>?_;· cases s:Z[i]? with
  |some p=>
   grind[List.getElem?_append_left,LO,List.mem_of_getElem?]
  |none=>
   grind
 ·have lt:∀ {i:Nat} {p:Nat×Aw},Z[i]?=Ac p->(keys Y).idxOf p.1<Y.length:=λ{i} {p} s=>(LO Of (u p (Aai s))).2;cases b:Z[i]? with
  |some p=>
   cases a:Z[j]? with
   |some q=>
    simp only[b,a]at e;have y:=Dm (u q (Aai a));have n:(keys Y)[(keys Y).idxOf p.1]?=Ac p.1:=by grind
    have x:(keys Y)[(keys Y).idxOf q.1]?=Ac q.1:=by grind
    rw[e,x]at n;have o:=Abp n;have k:(keys Z)[i]?=Ac p.1:=by unfold keys;rw[Abz,b];rfl
    have l:(keys Z)[j]?=Ac q.1:=by unfold keys;rw[Abz,a];rfl
    obtain⟨f,k⟩:=IT.1 k;obtain⟨g,l⟩:=IT.1 l;rcases Acx i j with d|v|d;· exact(Aaw.1 t i j f g d (by rw[k,l];exact o.symm)).elim
    ·exact v
    ·exact(Aaw.1 t j i g f d (by rw[k,l];exact o)).elim
   |none=>
    simp only[b,a]at e;have:=lt b;omega
  |none=>
   cases a:Z[j]? with
   |some q=>
    simp only[b,a]at e;have:=lt a;omega
   |none=>
    simp only[b,a]at e;have z:=Afz.1 b;have A:=Afz.1 a;omega
end
end
structure PQ(N:C9)where
 pi:A_
 po:A_
 rk:Nat
 gone:List Nat
 F:BJ N pi.hs->Option (BJ N po.hs)
def Il:List (Nat×SP)->Nat->SP:=λl i=>match Ay l i with
 |some p=>p
 |none=> .Am
section
variable {N : C9}
def Jl(q:PQ N)(y:BJ N q.po.hs):SV N.T:=match q.rk with
 |0=> .raw (.tuple #[])
 |1=>inst N q.po.hs y (Il q.po.sl 0)
 |2=> .t2 (inst N q.po.hs y (Il q.po.sl 0)) (inst N q.po.hs y (Il q.po.sl 1))
 |_=> .t3 (inst N q.po.hs y (Il q.po.sl 0)) (inst N q.po.hs y (Il q.po.sl 1)) (inst N q.po.hs y (Il q.po.sl 2))
structure PIn(q:PQ N)(x:BJ N q.pi.hs)(η:Nat->BZ)(H:Hp)(Y:List (Nat×Aw))(vs:List BZ):Prop where
 len:vs.length=q.pi.sl.length
 sl:∀p∈q.pi.sl,∃v,vs[p.1]?=Ac v/\(inst N q.pi.hs x p.2).is [] η H v
 ks:keys Y=q.pi.ro.map (·.1)
 ro:∀p∈q.pi.ro,∃X,Ay Y p.1=Ac X/\(instR N q.pi.hs x p.2).is [] η H p.1 X
 inv:N.inv H
structure xx(q:PQ N)(y:BJ N q.po.hs)(η η':Nat->BZ)(H':Hp)(Y Y':List (Nat×Aw))(v:BZ):Prop where
 env:∀k,k<q.pi.nk->η' k=η k
 nd:(keys Y').Nodup
 ks:∀k∈keys Y',k∈keys Y\/k∈q.po.ro.map (·.1)
 ro:∀p∈q.po.ro,∃X,Ay Y' p.1=Ac X/\(instR N q.po.hs y p.2).is [] η' H' p.1 X
 st:∀k∈keys Y,k∉q.po.ro.map (·.1)->k∉q.gone->Ay Y' k=Ay Y k
 res:(Jl q y).is [] η' H' v
structure Cr(P:GN)(f:Nat)(q:PQ N):Prop where
 b8:TM P f
 ok:∀x y,q.F x=Ac y->∀(η:Nat->BZ) (H:Hp) (Of:List Aw) (Y:List (Nat×Aw)) (vs:List BZ),(keys Y).Nodup->PIn q x η H Y vs->
  Ts P f vs H (Y.map (·.2)++Of) (λv H' O'=> ∃η' Y',O'=Y'.map (·.2)++Of/\xx q y η η' H' Y Y' v)
def zD(q:PQ N):Bool:=((q.pi.ro.map (·.1)).all λk=>aX k q.pi.nk)&&(Ci (q.pi.ro.map (·.1))&&(Ci (q.po.ro.map (·.1))&&(iT q.pi.nk q.po.nk&&(((q.po.ro.map (·.1)).all λk=>B_ (q.pi.ro.map (·.1)) k||(iT q.pi.nk k&&aX k q.po.nk))&&(q.gone.all λk=>B_ (q.pi.ro.map (·.1)) k)))))
def qkS(A:Nat->SV N.T)(l:List (Nat×SP)):List (Nat×Nat):=l.flatMap λq=>match q.2,A q.1 with
 | .AH c, .AH k=>[(c,k)]
 | .loc c _, .loc k _=>[(c,k)]
 | .AK _ _ a, .AK _ _ b=>a.zip b
 | .mp c, .mp k=>[(c,k)]
 | .px a _, .px b _=>a.zip b
 |_,_=>[]
def qkR(C:List (SV N.T))(Rr:Nat->Option (SR N.T))(m:List (Nat×Nat))(l:List (Nat×RP)):List (Nat×Nat):=l.flatMap λq=>match q.2,Rr (AZ m q.1)with
 | .Ai _ a,Ac (.Ai _ b)=>kmL N C b a
 |_,_=>[]
def vz:List (Nat×Ty)->SV N.T->List (Nat×SV N.T)
 |(j,_)::l, .vc a r=>(j,a)::vz l r
 |_,_=>[]
def vcB:List (Nat×Ty)->SV N.T->Bool
 | [], .vn=>Bp
 |_::l, .vc _ r=>vcB l r
 |_,_=>Aj
def u5(ls:List (Nat×Nat×Ty)):List (Nat×SP):=ls.map λq=>(q.1, .v q.2.1 q.2.2)
def eW(C:List (SV N.T))(A:Nat->SV N.T)(l:List (Nat×SP)):List (Nat×SV N.T):=l.flatMap λq=>match q.2,A q.1 with
 | .v j _,s=>[(j,s)]
 | .nat j,s=>[(j,s)]
 | .AK _ a _, .AK _ r _=>vz a r
 | .sv b,s=>qK N C s (u5 b)
 | .px _ (.sub j n _), .px _ (.sub i m _)=>[(j, .na i),(n, .na m)]
 | .pd j _ _, .pd t x _=>[(j, .d t x)]
 |_,_=>[]
def eX(C:List (SV N.T))(Rr:Nat->Option (SR N.T))(m:List (Nat×Nat))(l:List (Nat×RP)):List (Nat×SV N.T):=l.flatMap λq=>match q.2,Rr (AZ m q.1)with
 | .row _ j,Ac (.row _ t x)=>[(j, .d (.sl t) x)]
 | .map _ j,Ac (.map _ a e x)=>[(j, .d (.sl (.st (.pr a e))) x)]
 | .Ai _ c,Ac (.Ai _ b)=>qK N C b c
 |_,_=>[]
def Nl:List Nat->List Nat->Bool
 | [],[]=>Bp
 |a::l,b::m=>Hh a b&&Nl l m
 |_,_=>Aj
theorem Fx:∀ {l m:List Nat},Nl l m=Bp->l=m
 | [],[],_=>rfl
 | [],_::_,h=>by cases h
 |_::_,[],h=>by cases h
 |a::l,b::m,h=>by simp only[Nl,AT]at h;rw[AI h.1,Fx h.2]
def zJ(C:List (SV N.T))(b:SV N.T)(m:List (Nat×Nat))(q:Nat×Nat×SP):Bool:=match q.2.2 with
 | .v _ t=>match EY N C b q.1 (Ac t)with
  |some sv=>Hh (Xd N sv) q.2.1
  |none=>Aj
 | .nat _=>match EY N C b q.1 C7 with
  |some sv=>Hh (Xd N sv) q.2.1
  |none=>Aj
 | .AH c=>match EY N C b q.1 C7 with
  |some (.AH k)=>Hh (AZ m c) k&&Hh q.2.1 1
  |_=>Aj
 | .AK f [] a=>match EY N C b q.1 C7 with
  |some (.AK g .vn d)=>Hh f g&&(Nl (a.map (AZ m)) d&&Hh q.2.1 1)
  |_=>Aj
 | .mp c=>match EY N C b q.1 C7 with
  |some (.mp k)=>Hh (AZ m c) k&&Hh q.2.1 1
  |_=>Aj
 | .px [c] .sf=>zG N (AZ m) c (EY N C b q.1 C7)&&Hh q.2.1 1
 |_=>Aj
def qcS(C:List (SV N.T))(A:Nat->SV N.T)(m:List (Nat×Nat))(q:Nat×SP):Bool:=match q.2 with
 | .v _ _=>Bp
 | .nat _=>Bp
 | .Am=>Bp
 | .AH c=>match A q.1 with
  | .AH k=>Hh (AZ m c) k
  |_=>Aj
 | .loc c off=>match A q.1 with
  | .loc k o=>Hh (AZ m c) k&&Hh off o
  |_=>Aj
 | .AK f e a=>match A q.1 with
  | .AK g r b=>Hh f g&&(vcB e r&&Nl (a.map (AZ m)) b)
  |_=>Aj
 | .sv d=>whole (A q.1)&&Hh (Px (u5 d)) (TY N (A q.1))&&(NO 0 (u5 d)).all (zJ C (A q.1) m)
 | .nl=>match A q.1 with
  | .raw (.slice C7 0 0)=>Bp
  |_=>Aj
 | .mp c=>match A q.1 with
  | .mp k=>Hh (AZ m c) k
  |_=>Aj
 | .pd _ _ off=>match A q.1 with
  | .pd _ _ o=>Hh off o
  |_=>Aj
 | .px a (.sub _ _ t)=>match A q.1 with
  | .px b (.sub _ _ i)=>Nl (a.map (AZ m)) b&&t.JO i
  |_=>Aj
 | .px a (.hc n)=>match A q.1 with
  | .px b (.hc h)=>Nl (a.map (AZ m)) b&&Hh n h
  |_=>Aj
 |_=>Aj
def qcR(C:List (SV N.T))(Rr:Nat->Option (SR N.T))(m:List (Nat×Nat))(n:Nat)(q:Nat×RP):Bool:=match q.2 with
 | .row g j=>match Rr (AZ m q.1)with
  |some (.row a _ _)=>Hh g a&&aX j n
  |_=>Aj
 | .map g j=>match Rr (AZ m q.1)with
  |some (.map a _ _ _)=>Hh g a&&aX j n
  |_=>Aj
 | .Ai g c=>match Rr (AZ m q.1)with
  |some (.Ai a b)=>Hh g a&&(whole b&&Hh (Px c) (TY N b)&&(NO 0 c).all (zJ C b m))
  |_=>Aj
 |_=>Aj
def Hi(C:List (SV N.T))(Rr:Nat->Option (SR N.T))(A:Nat->SV N.T)(q:A_):List (Nat×Nat):=
 let a:=qkS A q.sl
 a++qkR C Rr a q.ro
def JP(C:List (SV N.T))(Rr:Nat->Option (SR N.T))(A:Nat->SV N.T)(m:List (Nat×Nat))(q:A_):Option (BJ N q.hs):=
 match Ci (q.ro.map λp=>AZ m p.1)&&(q.sl.all (qcS C A m)&&(q.ro.all (qcR C Rr m q.hs.length)&&Ci ((eW C A q.sl++eX C Rr m q.ro).map (·.1))))with
 |true=>wM N C (λj=>(Ay (eW C A q.sl++eX C Rr m q.ro) j).getD .no) 0 q.hs
 |false=>C7
variable {C : List (SV N.T)} {η : Nat -> BZ} {H : Hp} {Rr : Nat -> Option (SR N.T)} {A : Nat -> SV N.T}
section
variable{m:List (Nat×Nat)}
theorem instQ_ok{M:List HT}{x:BJ N M}{b:SV N.T}{m:List (Nat×Nat)}{Hs:List (Nat×SV N.T)}{cs:List BZ}(O:dI C Hs (Cu N M x))(E:b.is C η H (.agg cs.toArray))(B:∀y∈cs,y.oneCell'=Bp):
  ∀(ls:List (Nat×SP)) (off:Nat),(∀q∈NO off ls,zJ C b m q=Bp/\(∀j t,q.2.2= .v j t->(j,(EY N C b q.1 (Ac t)).getD .no)∈Hs)/\∀j,q.2.2= .nat j->(j,(EY N C b q.1 C7).getD .no)∈Hs)->off+Px ls=cs.length->
   (instL N M x ls).is [] (λc=>η (AZ m c)) H (.agg (cs.drop off).toArray)
 | [],off,_,P=>by have:cs.drop off=[]:=Aay (by grind[Px]);rw[this];rfl
 |(s,p)::ls,off,S,P=>by
  have P:off+(s+Px ls)=cs.length:=P;have Z:=instQ_ok O E B ls (off+s) (λq Q=>S q (Aag _ Q)) (by omega);obtain⟨a,Y,L⟩:=S (off,s,p) (Aau ..);have n:∀ {u:BZ},(inst N M x p).is [] (λc=>η (AZ m c)) H u->u.cells.toList=(cs.drop off).take s->u.cells.toList.length=s->(instL N M x ((s,p)::ls)).is [] (λc=>η (AZ m c)) H (.agg (cs.drop off).toArray):=λ{u} l e J=>by have K:=La (s:=s) l J (λy hy=>B y (by grind)) Z;rw[e]at J K;rw[<-Zw rfl J]at K;exact K
  unfold zJ at a;cases p with
  |v j t=>
   simp only at a;split at a;· rename_i sv o;have R:=AI a;obtain⟨c,i,hc⟩:=Dt o E;have d:=Cy i;obtain⟨u,l,e,_⟩:=i;have h:=Y j t rfl;rw[o]at h;exact n (O.is h l) (by grind) (by grind)
   grind
  |nat j=>
   simp only at a;split at a
   ·rename_i sv o;have R:=AI a;obtain⟨c,i,hc⟩:=Dt o E;have d:=Cy i;obtain⟨u,l,e,_⟩:=i;have h:=L j rfl;rw[o]at h;have d:c.length=s:=by omega
    rw[d]at hc;exact n (O.is h l) (by rw[e,hc]) (by rw[e];exact d)
   grind
  |AH c=>
   simp only at a;split at a;· rename_i k w;rw[AT]at a;have G:=AI a.1;have D:=AI a.2;subst D;obtain⟨F,i,hc⟩:=Dt w E;have d:=Cy i;obtain⟨u,l,e,_⟩:=i;have d:F.length=1:=d;rw[d]at hc;exact n (u:=u) ⟨by show u=η (AZ m c);rw[G];exact l.1,l.2⟩ (by rw[e,hc]) (by rw[e];exact d)
   ·cases a
  |AK f X cs=>
   cases X with
   |cons _ _=>cases a
   |nil=>
    simp only at a;split at a;· rename_i g ks w;simp only[AT]at a;have G:=AI a.1;have D:=AI a.2.2;have W:=Fx a.2.1;subst G;subst D;subst W;obtain⟨F,i,hc⟩:=Dt w E;have d:=Cy i;obtain⟨u,l,e,_⟩:=i;have d:F.length=1:=d;rw[d]at hc;obtain⟨us,U,V⟩:=l;exact n (u:=u) ⟨us,by rw[U,Aam];rfl,V⟩ (by rw[e,hc]) (by rw[e];exact d)
    ·cases a
  |mp c=>
   simp only at a;split at a;· rename_i k w;rw[AT]at a;have G:=AI a.1;have D:=AI a.2;subst D;obtain⟨F,i,hc⟩:=Dt w E;have d:=Cy i;obtain⟨u,l,e,_⟩:=i;have d:F.length=1:=d;rw[d]at hc;exact n (u:=u) ⟨by show u=η (AZ m c);rw[G];exact l.1,l.2⟩ (by rw[e,hc]) (by rw[e];exact d)
   ·cases a
  |px cs z=>
   cases z with
   |sub _ _ _=>cases cs with
    |nil=>cases a
    |cons c cs=>cases cs<;>cases a
   |hc _=>cases cs with
    |nil=>cases a
    |cons c cs=>cases cs<;>cases a
   |sf=>
    match cs,a with
    | [],a=>cases a
    | [c],a=>
     rw[AT]at a;cases w:EY N C b off C7 with
     |none=>rw[w]at a;cases a.1
     |some s0=>
      rw[w]at a;have D:=AI a.2;subst D;obtain⟨F,i,hc⟩:=Dt w E;have d:=Cy i;obtain⟨u,l,e,_⟩:=i;obtain⟨J,K⟩:=ZC a.1 l;rw[K]at d;rw[d]at hc;exact n (u:=u) J (by rw[e,hc]) (by rw[e];exact d)
    |_::_::_,a=>cases a
  |_=>cases a
theorem kZ{b:List HT}{x:BJ N b}{Hs:List (Nat×SV N.T)}{η':Nat->BZ}(f:dI C Hs (Cu N b x)):∀ {fs:List (Nat×Ty)} {r:SV N.T} {us:List BZ},vcB fs r=Bp->(∀p∈vz fs r,p∈Hs)->r.is C η H (.tuple us.toArray)->(vy N b x fs).is [] η' H (.tuple us.toArray)
 | [], .vn,us,_,_,h=>h
 | [], .d _ _,_,h,_,_=>by cases h
 |(j,t)::l, .vc a r,us,m,g,⟨u,c,e,i,k⟩=>by refine⟨u,c,e,f.is (g (j,a) (by simp[vz])) i,kZ (fs:=l) f m (λp n=>g p (by grind[vz])) k⟩
theorem Zr(a:List HT)(x:BJ N a):∀ls,om N a x ls=instL N a x (u5 ls)
 | []=>rfl
 |(s,j,t)::ls=>by show SV.lf s (Cu N a x j) (om N a x ls)=SV.lf s (Cu N a x j) (instL N a x (u5 ls));rw[Zr a x ls]
theorem W8:∀ {l:SV N.T} {v:BZ},whole l=Bp->l.is C η H v->∃cs:List BZ,v= .agg cs.toArray:=by
 intro l v b h;cases l with
 |lf s a r=>obtain⟨c,d,u,e,_⟩:=h;grind
 |nl=>exact⟨[],h⟩
 |_=>cases b
theorem T9:∀(a:List HT) (x:BJ N a) (j:Nat),j<a.length->Cu N a x j≠ .no
 | [],_,_,h,_=>by grind
 | [t],x,0,_,e=>by cases t<;>cases e
 | [_],_,j+1,h,_=>by grind
 |t::u::b,x,0,_,e=>by cases t<;>cases e
 |t::u::b,x,j+1,h,e=>T9 (u::b) x.2 j (by grind) e
theorem LV{q:A_}{x:BJ N q.hs}{Y:List (Nat×Aw)}{vs:List BZ}(hx:JP C Rr A m q=Ac x)(hlen:vs.length=q.sl.length)(hsl:∀p∈q.sl,∃v,vs[p.1]?=Ac v/\(A p.1).is C η H v)
  (hr:∀p∈q.ro,∀Z,Rr (AZ m p.1)=Ac Z->DU C η H Y (AZ m p.1) Z):
  (q.ro.map λp=>AZ m p.1).Nodup/\(∀p∈q.sl,∃v,vs[p.1]?=Ac v/\(inst N q.hs x p.2).is [] (λc=>η (AZ m c)) H v)/\∀p∈q.ro,(∃Z,Rr (AZ m p.1)=Ac Z)/\∃X,Ay Y (AZ m p.1)=Ac X/\(instR N q.hs x p.2).is [] (λc=>η (AZ m c)) H p.1 X:=by
 unfold JP at hx;split at hx
 ·rename_i Q;simp only[AT]at Q;obtain⟨hnd,hS,hR,hN⟩:=Q;have U:=BK hN;have D:dI C (eW C A q.sl++eX C Rr m q.ro) (Cu N q.hs x):=⟨λj s T=>by
   rcases JJ q.hs 0 x hx j with e|⟨K,y,F,G⟩;· grind
   ·rw[Abl,CK U T]at F;grind⟩;refine⟨BK hnd,λp E=>?_,λp E=>?_⟩;· obtain⟨v,hv,h⟩:=hsl p E;refine⟨v,hv,?_⟩;have hc:=No.1 hS p E;unfold qcS at hc;cases u:p.2 with
   |v j t=>exact D.is (Abt _ (Aad.2 ⟨p,E,by simp[u]⟩)) h
   |nat j=>exact D.is (Abt _ (Aad.2 ⟨p,E,by simp[u]⟩)) h
   |Am=>trivial
   |sv W=>
    rw[u]at hc;simp only[AT]at hc;obtain⟨cs,rfl⟩:=W8 hc.1.1 h;have hlen2:=HS (cs:=cs) hc.1.1 h;have:=instQ_ok (m:=m) D h (J' hc.1.1 h) (u5 W) 0 (λz O=>⟨No.1 hc.2 z O,λj t e=>Abt _ (Aad.2 ⟨p,E,by simp_all[GF]⟩),λj e=>Abt _ (Aad.2 ⟨p,E,by simp_all[GF]⟩)⟩) (by simp_all);show(om N q.hs x W).is [] _ H _;grind[Zr]
   |nl=>
    rw[u]at hc;simp only at hc;split at hc;· rename_i a;rw[a]at h;exact h
    grind
   |AH c=>
    rw[u]at hc;simp only at hc;split at hc;· rename_i k a;have e:=AI hc;rw[a]at h;exact⟨by show v=η (AZ m c);rw[e];exact h.1,h.2⟩
    trivial
   |loc c off=>
    rw[u]at hc;simp only at hc;split at hc;· rename_i k o a;rw[AT]at hc;have e:=AI hc.1;have G:=AI hc.2;subst G;rw[a]at h;obtain⟨B,b1,b2⟩:=h;exact⟨B,by show η (AZ m c)=_;rw[e];exact b1,b2⟩
    ·cases hc
   |AK f fs cs=>
    rw[u]at hc;simp only at hc;split at hc;· rename_i g r ks a;simp only[AT]at hc;have e:=AI hc.1;subst e;have G:=Fx hc.2.2;rw[a]at h;obtain⟨us,J,L⟩:=h;refine⟨us,?_,kZ D hc.2.1 (λz O=>Abt _ (Aad.2 ⟨p,E,by simp[u,a,O]⟩)) L⟩;rw[J,<-G,Aam];rfl
    ·cases hc
   |mp c=>
    rw[u]at hc;simp only at hc;split at hc;· rename_i k a;have e:=AI hc;rw[a]at h;exact⟨by show v=η (AZ m c);rw[e];exact h.1,h.2⟩
    ·cases hc
   |pd j t off=>
    rw[u]at hc;simp only at hc;split at hc
    ·rename_i t' y' o a;have F:=AI hc;subst F;rw[a]at h;have w:(j,(SV.d t' y':SV N.T))∈eW C A q.sl++eX C Rr m q.ro:=Abt _ (Aad.2 ⟨p,E,by simp[u,a]⟩);show(match Cu N q.hs x j with| .d t x=>SV.pd t x off|_=> .no).is [] _ H v;rcases D.ok j _ w with e|⟨K,y,F,G⟩;· rw[e];trivial
     ·rw[G];cases K with
      |nat=>trivial
      |Ae P=>
       obtain⟨f,S,I⟩:=Pd.1 (show(Qp N.T t' P).map (· y')=Ac y from F);obtain⟨R,rfl⟩:=BB S;have:=Adn R;subst this;cases I;exact h
    ·cases hc
   |px cs z=>
    cases z with
    |sf=>rw[u]at hc;cases hc
    |sub j n t=>
     rw[u]at hc;simp only at hc;split at hc
     ·rename_i ks i n' t' a;simp only[AT]at hc;have F:=Fx hc.1;have I:=Adn hc.2;subst F;subst I;rw[a]at h;have w:(j,(SV.na i:SV N.T))∈eW C A q.sl++eX C Rr m q.ro:=Abt _ (Aad.2 ⟨p,E,by simp[u,a]⟩);have M:(n,(SV.na n':SV N.T))∈eW C A q.sl++eX C Rr m q.ro:=Abt _ (Aad.2 ⟨p,E,by simp[u,a]⟩);have na:∀ {j i:Nat},(j,(SV.na i:SV N.T))∈eW C A q.sl++eX C Rr m q.ro->Cu N q.hs x j= .na i\/∀i',Cu N q.hs x j≠ .na i':=λ{j i} hm=>by
       rcases D.ok j _ hm with e|⟨K,y,F,G⟩;· rw[e];exact .inr λ_ e=>by cases e
       ·rw[G];cases K with
        |nat=>
         cases F;exact .inl rfl
        |Ae P=>exact .inr λ_ e=>by cases e
      show(match Cu N q.hs x j,Cu N q.hs x n with| .na i, .na m=>SV.px cs (.sub i m t)|_,_=> .px cs .any).is [] _ H v;rcases na w with e|e
      ·rcases na M with G|G;· rw[e,G];have h:PX.is ((cs.map (AZ m)).map η) H (.sub i n' t) v:=h;rw[Aam]at h;exact h
       ·split;· rename_i L;exact absurd L (G _)
        ·trivial
      ·split;· rename_i J _;exact absurd J (e _)
       ·trivial
     ·cases hc
    |hc n=>
     rw[u]at hc;simp only at hc;split at hc;· rename_i ks n' a;simp only[AT]at hc;have F:=Fx hc.1;have I:=AI hc.2;subst F;subst I;rw[a]at h;have h:PX.is ((cs.map (AZ m)).map η) H (.hc n:PX N.T) v:=h;rw[Aam]at h;exact h
     ·cases hc
   |_=>rw[u]at hc;cases hc
  ·have hc:=No.1 hR p E;unfold qcR at hc;cases u:p.2 with
   |Ck _ _ _ _=>rw[u]at hc;cases hc
   |row g j=>
    rw[u]at hc;simp only at hc;split at hc
    ·rename_i g' t l a;rw[AT]at hc;have e:=AI hc.1;have T:j<q.hs.length:=by simpa using hc.2
     subst e;refine⟨⟨_,a⟩,?_⟩;rcases hr p E _ a with e|⟨X,J,L⟩;· cases e
     refine⟨X,J,?_⟩;have w:(j,SV.d (.sl t) l)∈eW C A q.sl++eX C Rr m q.ro:=Acb _ (Aad.2 ⟨p,E,by simp[u,a]⟩);show(match Cu N q.hs x j with| .d (.sl t) l=>SR.row g t l|_=> .gone).is [] _ H _ X;rcases D.ok j _ w with e|⟨K,y,F,G⟩;· exact(T9 q.hs x j T e).elim
     ·rw[G];cases K with
      |nat=>cases F
      |Ae P=>
       obtain⟨f,S,I⟩:=Pd.1 (show(Qp N.T (.sl t) P).map (· l)=Ac y from F);obtain⟨R,rfl⟩:=BB S;have:=Adn R;subst this;cases I;exact L
    ·cases hc
   |Ai g W=>
    rw[u]at hc;simp only at hc;split at hc
    ·rename_i g' b a;simp only[AT]at hc;have e:=AI hc.1;subst e;refine⟨⟨_,a⟩,?_⟩;rcases hr p E _ a with e|⟨X,J,B,cs,b1,b2,b3⟩;· cases e
     refine⟨X,J,B,cs,b1,b2,?_⟩;have hl:=HS (cs:=cs.toList) hc.2.1.1 b3;have:=instQ_ok (η:=η) (m:=m) (cs:=cs.toList) D b3 (J' hc.2.1.1 b3) W 0 (λz O=>⟨No.1 hc.2.2 z O,λj t e=>Acb _ (Aad.2 ⟨p,E,by simp only[u,a];exact(GF O).1 j t e⟩),λj e=>Acb _ (Aad.2 ⟨p,E,by simp only[u,a];exact(GF O).2 j e⟩)⟩)
      (by rw[Abl,AI hc.2.1.2,hl]);simpa using this
    ·cases hc
   |c j=>rw[u]at hc;cases hc
   |map g j=>
    rw[u]at hc;simp only at hc;split at hc
    ·rename_i g' V vt l a;rw[AT]at hc;have e:=AI hc.1;have T:j<q.hs.length:=by simpa using hc.2
     subst e;refine⟨⟨_,a⟩,?_⟩;rcases hr p E _ a with e|⟨X,J,L⟩;· cases e
     refine⟨X,J,?_⟩;have w:(j,SV.d (.sl (.st (.pr V vt))) l)∈eW C A q.sl++eX C Rr m q.ro:=Acb _ (Aad.2 ⟨p,E,by simp[u,a]⟩);show(match Cu N q.hs x j with| .d (.sl (.st (.pr V vt))) l=>SR.map g V vt l|_=> .gone).is [] _ H _ X;rcases D.ok j _ w with e|⟨K,y,F,G⟩;· exact(T9 q.hs x j T e).elim
     ·rw[G];cases K with
      |nat=>cases F
      |Ae P=>
       obtain⟨f,S,I⟩:=Pd.1 (show(Qp N.T (.sl (.st (.pr V vt))) P).map (· l)=Ac y from F);obtain⟨R,rfl⟩:=BB S;have:=Adn R;subst this;cases I;exact L
    ·cases hc
 grind
end
end
def SP.ks:SP->List Nat
 | .AH k=>[k]
 | .loc k _=>[k]
 | .AK _ _ a=>a
 | .mp k=>[k]
 | .px b _=>b
 |_=>[]
section
variable {N : C9}
theorem Q'(h:HT)(x:h.den N):(eU N h x).AJ=[]:=by cases h<;>rfl
theorem Ga:∀(a:List HT) (x:BJ N a) (j:Nat),(Cu N a x j).AJ=[]
 | [],_,_=>rfl
 | [t],x,0=>Q' t x
 | [_],_,_+1=>rfl
 |t::_::_,x,0=>Q' t x.1
 |_::u::c,x,j+1=>Ga (u::c) x.2 j
theorem Q6(a:List HT)(x:BJ N a):∀fs:List (Nat×Ty),(vy N a x fs).AJ=[]
 | []=>rfl
 |(j,_)::l=>by simp[vy,SV.AJ,Ga,Q6 a x l]
theorem Rc(a:List HT)(x:BJ N a):∀ls:List (Nat×Nat×Ty),(om N a x ls).AJ=[]
 | []=>rfl
 |(s,j,t)::l=>by simp[om,SV.AJ,Ga,Rc a x l]
theorem inst_ment(a:List HT)(x:BJ N a):∀p:SP,(inst N a x p).AJ=p.ks
 | .v j _=>Ga a x j
 | .nat j=>Ga a x j
 | .AD j i=>by
  show SV.AJ (match Cu N a x j with| .na n=> .ct i n|s=>s)=[];split;· rfl
  grind[Ga]
 | .c _=>rfl
 | .AH _=>rfl
 | .loc _ _=>rfl
 | .AK _ h g=>by grind[inst,SV.AJ,SP.ks,Q6]
 | .Am=>rfl
 | .nl=>rfl
 | .sv f=>Rc a x f
 | .kp _=>rfl
 | .mp _=>rfl
 | .px b .sf=>rfl
 | .px b (.hc _)=>rfl
 | .pd j t off=>by show SV.AJ (match Cu N a x j with| .d t x=>SV.pd t x off|_=> .no)=[];split<;>rfl
 | .px b (.sub j n t)=>by show SV.AJ (match Cu N a x j,Cu N a x n with| .na i, .na m=>SV.px b (.sub i m t)|_,_=> .px b .any)=b;split<;>rfl
theorem instL_ment(a:List HT)(x:BJ N a):∀ls:List (Nat×SP),(instL N a x ls).AJ=ls.flatMap λp=>p.2.ks
 | []=>rfl
 |(s,p)::ls=>by simp[instL,SV.AJ,inst_ment,instL_ment a x ls]
end
def SP.pl:SP->Bool
 | .v _ _=>Bp
 | .nat _=>Bp
 | .AH _=>Bp
 | .loc _ _=>Bp
 | .AK _ _ _=>Bp
 | .Am=>Bp
 | .nl=>Bp
 | .sv _=>Bp
 | .mp _=>Bp
 | .px _ _=>Bp
 | .pd _ _ _=>Bp
 |_=>Aj
def RP.ks:RP->List Nat
 | .Ai _ a=>a.flatMap λp=>p.2.ks
 | .Ck _ _ h _=>[h]
 |_=>[]
section
variable {N : C9}
theorem instR_ment(a:List HT)(x:BJ N a):∀p:RP,∀k∈(instR N a x p).AJ,k∈p.ks
 | .row g j=>by show∀k∈SR.AJ (match Cu N a x j with| .d (.sl t) l=>SR.row g t l|_=> .gone),k∈[];split<;>exact λ_ h=>h
 | .Ai _ b=>λk i=>by have e:=instL_ment a x b;show k∈b.flatMap λp=>p.2.ks;rw[<-e];exact i
 | .c _=>λ_ h=>h
 | .map g j=>by show∀k∈SR.AJ (match Cu N a x j with| .d (.sl (.st (.pr m n))) l=>SR.map g m n l|_=> .gone),k∈[];split<;>exact λ_ h=>h
 | .Ck g e h j=>by
  show∀k∈SR.AJ (match Cu N a x j with| .d (.sl (.pr .bool (.sl t))) l=>SR.Ck g e t h l|_=> .gone),k∈[h];split;· exact λ_ h=>h
  ·exact λ_ h=>by cases h
def ZU(q:PQ N):List SP:=match q.rk with
 |0=>[]
 |1=>[Il q.po.sl 0]
 |2=>[Il q.po.sl 0,Il q.po.sl 1]
 |_=>[Il q.po.sl 0,Il q.po.sl 1,Il q.po.sl 2]
theorem Xq(q:PQ N)(y:BJ N q.po.hs):∀k∈(Jl q y).AJ,∃p∈ZU q,k∈p.ks:=by intro k a;unfold Jl at a;unfold ZU;all_goals grind[SV.AJ,Il,absurd,inst_ment]
def uY(q:PQ N):Bool:=((ZU q).all λp=>p.pl&&p.ks.all λk=>B_ (q.pi.ro.map (·.1)) k||B_ (q.po.ro.map (·.1)) k)&&q.po.ro.all λp=>p.2.ks.all λk=>B_ (q.pi.ro.map (·.1)) k||B_ (q.po.ro.map (·.1)) k
def GU(m:List (Nat×Nat))(b nk c:Nat):Nat:=match aX c b with
 |true=>AZ m c
 |false=>nk+(c-b)
def Pl(q:PQ N)(ρ:Nat->Nat)(y:BJ N q.po.hs):List (Nat×SR N.T):=(q.po.ro.map λp=>(ρ p.1,(instR N q.po.hs y p.2).DO ρ))++q.gone.map λc=>(ρ c, .gone)
variable {R : Type} {P : GN} {C : List (SV N.T)} {S : Nat -> SV N.T} {Rr : Nat -> Option (SR N.T)} {nk : Nat} {o : K7} {r : R}
section
variable{m:List (Nat×Nat)}{ρ:Nat->Nat}{q:PQ N}{x:BJ N q.pi.hs}{f:Nat}{ex:List Nat}{y:BJ N q.po.hs}
def WI(C:List (SV N.T))(Rr:Nat->Option (SR N.T))(nk:Nat)(q:PQ N)(a:List (SV N.T))(ex:List Nat)(k:Bx N.T->Nat->Option R):Option (Option R):=
 let m:=Hi C Rr (λi=>a.getD i .no) q.pi
 match Hh a.length q.pi.sl.length&&(q.pi.sl.all (λp=>aX p.1 a.length)&&(zD q&&uY q))with
 |true=>match JP C Rr (λi=>a.getD i .no) m q.pi with
  |some x=>Ac (Ab (q.F x) λy=>k ⟨(Jl q y).DO (GU m q.pi.nk nk),q.pi.ro.map (λp=>AZ m p.1)++ex,Pl q (GU m q.pi.nk nk) y⟩ (nk+(q.po.nk-q.pi.nk)))
  |none=>C7
 |false=>C7
theorem LP{Y:List (Nat×Aw)}{D:List Nat}{k:Nat}(h:k∉D):Ay (Y.filter λp=> !B_ D p.1) k=Ay Y k:=by
 induction Y with
 |nil=>rfl
 |cons p Y b=>
  grind[Ay,Hh,absurd,AU,aU]
theorem VV{Y:List (Nat×Aw)}{c:Nat}(h:∀d∈keys Y,ρ d=ρ c->d=c):Ay (Y.map λp=>(ρ p.1,p.2)) (ρ c)=Ay Y c:=by
 induction Y with
 |nil=>rfl
 |cons p Y f=>
  obtain⟨q,y⟩:=p;simp only[Aas,Ay];cases b:Hh q c with
  |true=>simp_all
  |false=>
   have:Hh (ρ q) (ρ c)=Aj:=by
    cases a:Hh (ρ q) (ρ c)with
    |false=>rfl
    |true=>
     have:=h q (by simp[keys]) (AI a);simp_all
   grind[keys]
theorem av{ρ:Nat->Nat} :∀ {l:List Nat},(∀c d,c∈l->d∈l->ρ c=ρ d->c=d)->l.Nodup->(l.map ρ).Nodup
 | [],_,_=>Afc
 |x::l,f,b=>by rw[Aaz]at b;rw[Aas,Aaz];refine⟨λh=>?_,av (λc d hc i=>f c d (Aag _ hc) (Aag _ i)) b.2⟩;grind
theorem rP{a b:Nat}(h:b<=a):aX a b=Aj:=by
 cases c:aX a b with
 |false=>rfl
 |true=>
  have:a<b:=by simp_all
  omega
theorem rQ{a b:Nat}(h:b<a):iT a b=Aj:=by
 cases c:iT a b with
 |false=>rfl
 |true=>have:=Aax c;omega
theorem iG{q:A_}{A:Nat->SV N.T}{x:BJ N q.hs}(b:JP C Rr A m q=Ac x):∀p∈q.ro,∃d,Rr (AZ m p.1)=Ac d:=by
 unfold JP at b;split at b
 all_goals grind[qcR]
theorem Nk{W:List (SV N.T)}(hs:Cr P f q)(hq1:zD q=Bp)(hq2:uY q=Bp)(hlen:W.length=q.pi.sl.length)(hlt:∀p∈q.pi.sl,p.1<W.length)
  (hx:JP C Rr (λi=>W.getD i .no) m q.pi=Ac x) (hy:q.F x=Ac y) (hf:∀j,nk<=j->Rr j=C7):
  (∀(
    η:Nat->BZ) (H:Hp) (Of:List Aw) (w:IU) (Y:List (Nat×Aw)),(keys Y).Nodup->SH w H (Y.map (·.2)++Of)->N.inv H->
   (∀k,(k∈q.pi.ro.map (λp=>AZ m p.1)++ex\/k∈keys (Pl q (GU m q.pi.nk nk) y))->∀M,Rr k=Ac M->DU C η H Y k M)->(∀k∈keys (Pl q (GU m q.pi.nk nk) y),Rr k=C7->k∉keys Y)->
   ∀(vs:List BZ),vs.length=W.length->(∀(i:Nat) (s:SV N.T),W[i]?=Ac s->∃v,vs[i]?=Ac v/\s.is C η H v)->
   ∀(goal:Prop) (K:BZ->IU->Prop),(∀O R,Ts P f vs H O R->SH w H O->(∀v w' T O',H.le T->R v T O'->SH w' T O'->K v w')->goal)->
   (∀(v:BZ) (w':IU) (T:Hp) (η':Nat->BZ) (D:List (Nat×Aw)),H.le T->(∀k,(Rr k=C7->k∉keys (Pl q (GU m q.pi.nk nk) y))->η' k=η k)->(∀k,k∉keys (Pl q (GU m q.pi.nk nk) y)->Ay D k=Ay Y k)->
    (∀k M,Ay (Pl q (GU m q.pi.nk nk) y) k=Ac M->DU C η' T D k M)->(keys D).Nodup->(∀k∈keys D,k∈keys Y\/k∈keys (Pl q (GU m q.pi.nk nk) y))->SH w' T (D.map (·.2)++Of)->((Jl q y).DO (GU m q.pi.nk nk)).is C η' T v->K v w')->goal)/\
  (∀j∈keys (Pl q (GU m q.pi.nk nk) y),Rr j=C7->nk<=j/\j<nk+(q.po.nk-q.pi.nk)):=by
 unfold zD at hq1;simp only[AT]at hq1;obtain⟨w1,w2,w3,w4,w5,w6⟩:=hq1;have w1:∀p∈q.pi.ro,p.1<q.pi.nk:=λp a=>by simpa using No.1 w1 p.1 (By.2 ⟨p,a,rfl⟩)
 have w4:=Aax w4;have w5:∀p∈q.po.ro,p.1∈q.pi.ro.map (·.1)\/(q.pi.nk<=p.1/\p.1<q.po.nk):=λp a=>by have:=No.1 w5 p.1 (By.2 ⟨p,a,rfl⟩);rw[Adj,AT]at this;exact this.imp AU.1 λh=>⟨Aax h.1,by simp_all⟩
 have w6:∀c∈q.gone,c∈q.pi.ro.map (·.1):=λc hc=>AU.1 (No.1 w6 c hc);unfold uY at hq2;rw[AT]at hq2;obtain⟨o1,o2⟩:=hq2;have kn:∀ {k:Nat},(B_ (q.pi.ro.map (·.1)) k||B_ (q.po.ro.map (·.1)) k)=Bp->k∈q.pi.ro.map (·.1)\/k∈q.po.ro.map (·.1):=λh=>by grind[AU]
 generalize hρ:GU m q.pi.nk nk=ρ;have t:∀p∈q.pi.ro,ρ p.1=AZ m p.1:=λp a=>by rw[<-hρ];grind[GU,aX]
 have ρo:∀c,q.pi.nk<=c->ρ c=nk+(c-q.pi.nk):=λc hc=>by rw[<-hρ];grind[GU,rP]
 have kwr:∀j,j∈keys (Pl q ρ y)↔(∃p∈q.po.ro,j=ρ p.1)\/∃c∈q.gone,j=ρ c:=λj=>by unfold Pl keys;grind
 have hall:=λ(η:Nat->BZ) (H:Hp) (Y:List (Nat×Aw)) (vs:List BZ) n U h3=>LV (C:=C) (η:=η) (H:=H) (Y:=Y) (vs:=vs) (A:=λi=>W.getD i .no) hx n U h3;refine⟨λη H Of w Y hn hw hiv hr hfresh vs v1 v2 goal K run hK=>?_,λj hj u=>?_⟩
 ·obtain⟨
      hnd,hsl,F⟩:=hall η H Y vs (v1.trans hlen) (λp a=>by
   have hl:=hlt p a;obtain⟨v,e1,e2⟩:=v2 p.1 W[p.1] (GB hl);refine⟨v,e1,?_⟩;rw[Aaa,GB hl];exact e2) (λp a M B=>hr _ (.inl (Abt _ (By.2 ⟨p,a,rfl⟩))) M B);have lt:∀p∈q.pi.ro,AZ m p.1<nk:=λp a=>by
   grind
  generalize hηc:(λc=>η (AZ m c))=ηc at hsl F;generalize hYc:(q.pi.ro.map λp=>(p.1,(Ay Y (AZ m p.1)).getD .emp))=Yc;generalize E:(Y.filter λp=> !B_ (q.pi.ro.map λp=>AZ m p.1) p.1)=Yr;have kYc:keys Yc=q.pi.ro.map (·.1):=by rw[<-hYc];simp[keys]
  have ndc:(keys Yc).Nodup:=by rw[kYc];exact BK w2
  have lYc:∀p∈q.pi.ro,Ay Yc p.1=Ay Y (AZ m p.1):=λp a=>by
   obtain⟨_,X,V,_⟩:=F p a;have:(p.1,(Ay Y (AZ m p.1)).getD .emp)∈Yc:=by rw[<-hYc];exact By.2 ⟨p,a,rfl⟩
   rw[CK ndc this,V];rfl
  have pin:PIn q x ηc H Yc vs:=⟨v1.trans hlen,hsl,kYc,λp a=>by
   obtain⟨_,X,V,U⟩:=F p a;exact⟨X,by rw[lYc p a];omega,U⟩,hiv⟩;have hsh:SH w H (Yc.map (·.2)++(Yr.map (·.2)++Of)):=by
   have G:=SH.Rd hw (Z:=(q.pi.ro.map λp=>(AZ m p.1,(Ay Y (AZ m p.1)).getD .emp))++Yr) (by
    unfold keys;rw[Aak,Aam];refine Acv.2 ⟨hnd,?_,λk b k' L e=>?_⟩;· rw[<-E];exact(Acs.map _).nodup hn
    ·subst e;rw[<-E]at L;obtain⟨p,a,rfl⟩:=By.1 L;have h3:=(Abb.1 a).2;have b:p.1∈q.pi.ro.map λp=>AZ m p.1:=b;rw[AU.2 b]at h3;cases h3) (λp a=>by
    rcases AS.1 a with a|a;· obtain⟨z,G,rfl⟩:=By.1 a;obtain⟨_,X,V,_⟩:=F z G;simp only[V,Ack]
    ·rw[<-E]at a;exact CK hn (Abb.1 a).1);rw[Aak,Aam,Aaj]at G;rw[<-hYc,Aam];exact G
  refine run _ _ (hs.ok x y hy ηc H (Yr.map (·.2)++Of) Yc vs ndc pin) hsh λv w' T O' hle ⟨η',D,eO,po⟩ hw'=>?_;subst eO;have I:∀c∈keys D,c∈q.pi.ro.map (·.1)\/c∈q.po.ro.map (·.1):=λc hc=>by rw[<-kYc];exact po.ks c hc
  have Q:∀ {c},c∈q.pi.ro.map (·.1)->ρ c<nk/\c<q.pi.nk/\ρ c=AZ m c:=λhc=>by obtain⟨p,a,rfl⟩:=By.1 hc;rw[t p a];exact⟨lt p a,w1 p a,rfl⟩
  have l:∀ {c},c∈q.po.ro.map (·.1)->c∉q.pi.ro.map (·.1)->nk<=ρ c/\q.pi.nk<=c/\ρ c=nk+(c-q.pi.nk)/\ρ c∈keys (Pl q ρ y)/\Rr (ρ c)=C7:=λhc hn=>by
   obtain⟨p,a,rfl⟩:=By.1 hc;rcases w5 p a with h|h;· trivial
   ·rw[ρo _ h.1];exact⟨by omega,h.1,rfl,(kwr _).2 (.inl ⟨p,a,(ρo _ h.1).symm⟩),hf _ (by omega)⟩
  have inj:∀c d,(c∈q.pi.ro.map (·.1)\/c∈q.po.ro.map (·.1))->(d∈q.pi.ro.map (·.1)\/d∈q.po.ro.map (·.1))->ρ c=ρ d->c=d:=λc d hc hd e=>by
   by_cases n:c∈q.pi.ro.map (·.1)<;>by_cases U:d∈q.pi.ro.map (·.1);· obtain⟨p,a,rfl⟩:=By.1 n;obtain⟨p',hp',rfl⟩:=By.1 U;rw[t p a,t p' hp']at e;rw[P_ (f:=λp:Nat×RP=>AZ m p.1) hnd a hp' e]
   ·have:=(Q n).1;have:=(l (hd.resolve_left U) U).1;omega
   ·have:=(Q U).1;have:=(l (hc.resolve_left n) n).1;omega
   ·have:=(l (hc.resolve_left n) n);have:=(l (hd.resolve_left U) U);omega
  let ηn:Nat->BZ:=λj=>match iT nk j&&B_ (keys (Pl q ρ y)) j with
   |true=>η' (q.pi.nk+(j-nk))
   |false=>η j;have ηk:∀c,(c∈q.pi.ro.map (·.1)\/c∈q.po.ro.map (·.1))->ηn (ρ c)=η' c:=λc hc=>by
   by_cases n:c∈q.pi.ro.map (·.1);· obtain⟨g1,g2,g3⟩:=Q n;show(match iT nk (ρ c)&&B_ (keys (Pl q ρ y)) (ρ c)with|true=>η' (q.pi.nk+(ρ c-nk))|false=>η (ρ c))=η' c;rw[rQ g1,Bool.false_and,po.env c g2,<-hηc,g3]
   ·obtain⟨g1,g2,g3,g4,_⟩:=l (hc.resolve_left n) n;show(match iT nk (ρ c)&&B_ (keys (Pl q ρ y)) (ρ c)with|true=>η' (q.pi.nk+(ρ c-nk))|false=>η (ρ c))=η' c;rw[show iT nk (ρ c)=Bp by simpa using g1,AU.2 g4];show η' (q.pi.nk+(ρ c-nk))=η' c;congr 1;omega
  have lkρ:∀c,(c∈q.pi.ro.map (·.1)\/c∈q.po.ro.map (·.1))->Ay (D.map λp=>(ρ p.1,p.2)) (ρ c)=Ay D c:=λc hc=>VV λd hd e=>inj d c (I d hd) hc e;have kρ:∀k∈keys (D.map λp=>(ρ p.1,p.2)),∃c∈keys D,k=ρ c:=λk b=>by unfold keys at b;rw[Aam]at b;obtain⟨p,a,rfl⟩:=By.1 b;exact⟨p.1,By.2 ⟨p,a,rfl⟩,rfl⟩
  refine hK v w' T ηn ((D.map λp=>(ρ p.1,p.2))++Yr) hle (λk b=>?_) (λk b=>?_) (λk M b=>?_) ?_ (λk b=>?_) ?_ ?_
  ·show(match iT nk k&&B_ (keys (Pl q ρ y)) k with|true=>η' (q.pi.nk+(k-nk))|false=>η k)=η k;split;· rename_i hb;rw[AT]at hb;exact absurd (AU.1 hb.2) (b (hf _ (Aax hb.1)))
   ·rfl
  ·rw[BT];by_cases hD:k∈q.pi.ro.map λp=>AZ m p.1;· obtain⟨p,a,rfl⟩:=By.1 hD;have hc:p.1∈q.pi.ro.map (·.1):=By.2 ⟨p,a,rfl⟩;obtain⟨_,X,V,_⟩:=F p a;have e1:=lkρ p.1 (.inl hc);rw[t p a,po.st p.1 (by rw[kYc];exact hc) (λh=>b ((kwr _).2 (.inl (by obtain⟨z,G,e⟩:=By.1 h;exact⟨z,G,by rw[e,t p a]⟩)))) (λh=>b ((kwr _).2 (.inr ⟨p.1,h,(t p a).symm⟩))),lYc p a,V]at e1;rw[e1,V]
   ·have:Ay (D.map λp=>(ρ p.1,p.2)) k=C7:=Cz λhm=>by
     obtain⟨c,hc,rfl⟩:=kρ k hm;by_cases n:c∈q.pi.ro.map (·.1);· obtain⟨p,a,rfl⟩:=By.1 n;exact hD (By.2 ⟨p,a,(t p a).symm⟩)
     ·exact b (l ((I c hc).resolve_left n) n).2.2.2.1
    rw[this,<-E];exact LP hD
  ·unfold Pl at b;rw[BT]at b;split at b;· rename_i sr' hs';cases b;obtain⟨p,a,e⟩:=By.1 (A4 hs');cases e;obtain⟨X,x1,x2⟩:=po.ro p a;have hc:p.1∈q.pi.ro.map (·.1)\/p.1∈q.po.ro.map (·.1):= .inr (By.2 ⟨p,a,rfl⟩);refine .inr ⟨X,by rw[BT,lkρ p.1 hc,x1],?_⟩;exact SR.My (ηk p.1 hc) (λj hj=>ηk j (by have hj:=instR_ment _ _ _ j hj;exact kn (No.1 (No.1 o2 p a) j hj))) x2
   ·obtain⟨c,_,e⟩:=By.1 (A4 b);cases e;exact .inl rfl
  ·unfold keys;rw[Aak];refine Acv.2 ⟨?_,?_,λk b k' L e=>?_⟩
   ·rw[Aam];have:=po.nd;have e:(D.map ((·.1)∘λp=>(ρ p.1,p.2)))=(D.map (·.1)).map ρ:=by rw[Aam];rfl
    rw[e];exact av (λc d hc hd e=>inj c d (I c hc) (I d hd) e) this
   ·rw[<-E];exact(Acs.map _).nodup hn
   ·subst e;obtain⟨c,hc,rfl⟩:=kρ k b;rw[<-E]at L;obtain⟨p,a,e⟩:=By.1 L;by_cases n:c∈q.pi.ro.map (·.1)
    ·have h3:=(Abb.1 a).2;have:p.1∈q.pi.ro.map λp=>AZ m p.1:=by
      obtain⟨z,G,rfl⟩:=By.1 n;rw[e,t z G];exact By.2 ⟨z,G,rfl⟩
     rw[AU.2 this]at h3;cases h3
    ·obtain⟨_,_,_,g4,g5⟩:=l ((I c hc).resolve_left n) n;exact hfresh _ g4 g5 (by rw[<-e];exact By.2 ⟨p,(Abb.1 a).1,rfl⟩)
  ·unfold keys at b;rw[Aak]at b;rcases AS.1 b with b|b
   ·obtain⟨c,hc,rfl⟩:=kρ k b;by_cases n:c∈q.pi.ro.map (·.1);· obtain⟨p,a,rfl⟩:=By.1 n;obtain⟨_,X,V,_⟩:=F p a;rw[t p a];exact .inl (Dm V)
    ·exact .inr (l ((I c hc).resolve_left n) n).2.2.2.1
   ·rw[<-E]at b;obtain⟨p,a,rfl⟩:=By.1 b;exact .inl (By.2 ⟨p,(Abb.1 a).1,rfl⟩)
  ·rw[Aak,Aam,Aaj];exact hw'
  ·refine SV.My (λk b=>ηk k ?_) po.res;obtain⟨p,a,b⟩:=Xq q y k b;have:=No.1 o1 p a;rw[AT]at this;exact kn (No.1 this.2 k b)
 ·have rr:=iG hx;rcases(kwr j).1 hj with⟨p,a,rfl⟩|⟨c,hc,rfl⟩
  ·rcases w5 p a with h|h;· obtain⟨z,G,e⟩:=By.1 h;obtain⟨M,B⟩:=rr z G;rw[<-e,t z G,B]at u;cases u
   ·rw[ρo _ h.1];omega
  ·obtain⟨z,G,rfl⟩:=By.1 (w6 c hc);obtain⟨M,B⟩:=rr z G;rw[t z G,B]at u;cases u
theorem Yk{d:List (SV N.T)}(U:Cr P f q)(l:zD q=Bp)(n:uY q=Bp)(g:d.length=q.pi.sl.length)(k:∀p∈q.pi.sl,p.1<d.length)
  (X:JP C Rr (λi=>d.getD i .no) m q.pi=Ac x) (Z:q.F x=Ac y) (J:∀j,nk<=j->Rr j=C7)
  (G:∀(η:Nat->BZ) (H:Hp) (Y:List (Nat×Aw)) (a:Act),(∀x∈o.op.operands,(Ax S x).is C η H (a.eval x))->(∀c∈q.pi.ro.map (λp=>AZ m p.1)++ex,∀h,Rr c=Ac h->DU C η H Y c h)->
   ∃vs:List BZ,vs.length=d.length/\(∀(i:Nat) (s:SV N.T),d[i]?=Ac s->∃v,vs[i]?=Ac v/\s.is C η H v)/\∀H O R,Ts P f vs H O R->BM P o.op o.type (EV a) H O R):
  Ap P C S Rr o ⟨(Jl q y).DO (GU m q.pi.nk nk),q.pi.ro.map (λp=>AZ m p.1)++ex,Pl q (GU m q.pi.nk nk) y⟩/\
  (∀j∈keys (Pl q (GU m q.pi.nk nk) y),Rr j=C7->nk<=j/\j<nk+(q.po.nk-q.pi.nk)):=by
 obtain⟨E,F⟩:=Nk (P:=P) (ex:=ex) U l n g k X Z J;refine⟨λη H D a w Y T W L A B b K Q I=>?_,F⟩;obtain⟨vs,v1,v2,v3⟩:=G η H Y a A λc hc h z=>B _ (.inl hc) h z;exact E η H D w Y T W L B b vs v1 v2 (o.wp P a w K Q) (λv w'=>K (a.put o.dst v) w') (λO R V t M=>v3 _ _ _ V a w o K Q rfl rfl (λx u e=>by simpa using e) t M) I
end
end
section
variable (N : C9)
def DP:List Ty->Type
 | []=>Unit
 | [t]=>t.den N.T
 |t::u::a=>t.den N.T×DP (u::a)
def UR(C:List (SV N.T)):(ps:List Ty)->List (SV N.T)->Option (DP N ps)
 | [],[]=>Ac ()
 | [t],[s]=>TK C t s
 |t::u::b,s::a=>match TK C t s,UR C (u::b) a with
  |some x,Ac y=>Ac (x,y)
  |_,_=>C7
 |_,_=>C7
variable {N}
abbrev η0:Nat->BZ:=λ_=>undef
def YV(H:Hp):(ps:List Ty)->DP N ps->List BZ->Prop
 | [],_,a=>a=[]
 | [t],x,a=> ∃v,a=[v]/\(SV.d t x:SV N.T).is [] η0 H v
 |t::u::c,x,a=> ∃v b,a=v::b/\(SV.d t x.1:SV N.T).is [] η0 H v/\YV H (u::c) x.2 b
theorem Wn{C C':List (SV N.T)}{η η':Nat->BZ}{H:Hp}{v:BZ}{t:Ty}{x:t.den N.T}(h:(SV.d t x).is C η H v):(SV.d t x).is C' η' H v:=h
variable {R : Type} {P : GN} {C : List (SV N.T)} {S : Nat -> SV N.T} {Rr : Nat -> Option (SR N.T)} {nk : Nat} {o : K7} {k : Bx N.T -> Nat -> Option R} {r : R}
theorem LU{a:Act} :∀xs:List DQ,NR (EV a) xs=Ac (xs.map a.eval)
 | []=>rfl
 |x::xs=>by simp only[NR,EV,LU xs,Aas]
theorem Hy:∀ {t:Ty} {H f:Hp} {x:t.den N.T} {cs:List BZ},Hz t=Bp->(N.c t).BP H x cs->(N.c t).BP f x cs
 | .int k,H,f,x,cs,_,h=>D4.2 (D4.1 h)
 | .bool,_,_,_,_,_,h=>h
 | .str,_,_,_,_,_,h=>h
 | .un,_,_,_,_,_,h=>h
 | .bs,_,_,_,_,_,h=>h
 | .st t,_,_,_,_,c,h=>Hy (t:=t) c h
 | .pr a b,_,_,_,_,c,⟨g,i,e,j,l⟩=>by have c:(Hz a&&Hz b)=Bp:=c;rw[AT]at c;exact⟨g,i,e,Hy c.1 j,Hy c.2 l⟩
def CA(Rr:Nat->Option (SR N.T))(k:Nat):Nat->Option (SR N.T):=λj=>match Hh j k with
 |true=>Ac .gone
 |false=>Rr j
theorem nr{k:Nat}{a:Ty}{l:List (a.den N.T)}{x:DQ}{η:Nat->BZ}{H:Hp}{v:BZ}(h:G4 (N.c a) H l (η k))(b:(Ax S x).is C η H v):(Ax (λt=>GQ k a l (S t)) x).is C η H v:=by
 cases x with
 |tmp t=>exact CN h b
 |_=>exact b
end
section
variable {N : C9}
def I6(P:GN)(yv:BZ)(vs:List BZ)(w:IU)(K:Bool->IU->Prop):Prop:= ∃l f c d a,yv= .func (.yield l) #[] #[]/\(Instr.yield l vs.toArray).run P w= .ok (.round l f c d a) w/\RoundIn Fence.wide 0 P l f c d a w λe g=> ∃b,e= .returned (.bool b)/\K b g
theorem I6.mono{P:GN}{yv:BZ}{vs:List BZ}{w:IU}{K g:Bool->IU->Prop}(h:I6 P yv vs w K)(o:∀b w',K b w'->g b w'):I6 P yv vs w g:=by obtain⟨l,f,c,d,a,k,m,n⟩:=h;exact⟨l,f,c,d,a,k,m,n.mono λe w' ⟨b,i,j⟩=>⟨b,i,o _ _ j⟩⟩
structure IQ(N:C9)where
 pi:A_
 yi:Nat
 ts:List Ty
 F:BJ N pi.hs->Option (List (DP N ts)×Bool)
def Ll{α:Type}(r:List α×Bool):Bool->List α×Bool
 |true=>r
 |false=>([],Bp)
structure I8(P:GN)(f:Nat)(q:IQ N):Prop where
 b8:TM P f
 ok:∀x ys,q.F x=Ac ys->∀(G:Hp->List Aw->List (DP N q.ts)×Bool->Prop) (yv:BZ),yv.oneCell'=Bp->
  (∀H H' O r,H.le H'->G H O r->G H' O r)->(∀H O,¬G H O ([],Aj))->
  (∀H O y l e,N.inv H->G H O (y::l,e)->∀A vs w,YV H q.ts y vs->SH w H (A++O)->I6 P yv vs w λb w'=> ∃H' O',H.le H'/\SH w' H' (A++O')/\G H' O' (Ll (l,e) b))->
  ∀(η:Nat->BZ) (H:Hp) (O:List Aw) (Y:List (Nat×Aw)) (vs:List BZ) (w:IU),(keys Y).Nodup->vs.length=q.pi.sl.length->(∀p∈q.pi.sl,∃v,vs[p.1]?=Ac v/\(inst N q.pi.hs x p.2).is [] η H v)->vs[q.yi]?=Ac yv->
   keys Y=q.pi.ro.map (·.1)->(∀p∈q.pi.ro,∃X,Ay Y p.1=Ac X/\(instR N q.pi.hs x p.2).is [] η H p.1 X)->G H O ys->N.inv H->SH w H (Y.map (·.2)++O)->
  Calls P f vs.toArray w λe w'=> ∃v H' O' Y',e= .returned v/\H.le H'/\SH w' H' (Y'.map (·.2)++O')/\keys Y'=q.pi.ro.map (·.1)/\(∀p∈q.pi.ro,∃X,Ay Y' p.1=Ac X/\(instR N q.pi.hs x p.2).is [] η H' p.1 X)/\G H' O' ([],Bp)
structure JQ(N:C9)where
 pi:A_
 ky:Nat
 ts:List Ty
 rb:Bool
 F:BJ N pi.hs->Option (List (DP N ts)×Option Bool)
def xr{α:Type}(r:List α)(b:Option Bool):Bool->List α×Option Bool
 |true=>(r,b)
 |false=>([],Ac Aj)
structure I7(P:GN)(f:Nat)(q:JQ N):Prop where
 b8:TM P f
 ok:∀x r,q.F x=Ac r->∀(η:Nat->BZ) (G:Hp->List Aw->List (DP N q.ts)×Option Bool->Prop),
  (∀H H' O r,H.le H'->G H O r->G H' O r)->(∀H O,¬G H O ([],C7))->
  (∀H O y r b,N.inv H->G H O (y::r,b)->∀A vs w,YV H q.ts y vs->SH w H (A++O)->I6 P (η q.ky) vs w λc w'=> ∃H' O',H.le H'/\SH w' H' (A++O')/\G H' O' (xr r b c))->
  ∀(H:Hp) (O:List Aw) (Y:List (Nat×Aw)) (vs:List BZ) (w:IU),(keys Y).Nodup->vs.length=q.pi.sl.length->(∀p∈q.pi.sl,∃v,vs[p.1]?=Ac v/\(inst N q.pi.hs x p.2).is [] η H v)->
   keys Y=q.pi.ro.map (·.1)->(∀p∈q.pi.ro,∃X,Ay Y p.1=Ac X/\(instR N q.pi.hs x p.2).is [] η H p.1 X)->G H O r->N.inv H->SH w H (Y.map (·.2)++O)->
  Calls P f vs.toArray w λe w'=> ∃v H' O' Y' b,e= .returned v/\H.le H'/\SH w' H' (Y'.map (·.2)++O')/\keys Y'=q.pi.ro.map (·.1)/\(∀p∈q.pi.ro,∃X,Ay Y' p.1=Ac X/\(instR N q.pi.hs x p.2).is [] η H' p.1 X)/\G H' O' ([],Ac b)/\(q.rb=Bp->v= .bool b)
end
theorem Ajq{w:IU}{H:Hp}{O:List Aw}(m:SH w H O){i:Nat}{v:BZ}{e:Gq}{size n:Nat}{xs:List BZ}(hi:O[i]?=Ac (.row v e size n xs)):
  ∃k,H.le k/\SH w k (O.eraseIdx i)/\Sl k v size n xs/\∀w' l,SH w' k l->SH w' H (.row v e size n xs::l):=by
 have h:=m.ok i _ hi;rcases h.2 with⟨rfl,rfl⟩|⟨g,cap,cur,rfl,q,y,s,d,p,a⟩;· have:xs=[]:=Abd (by simpa using h.1);subst this;exact⟨H,Hp.le.refl H,m.drop i,Sl.nil H size,λw' l c=>c.IM e size⟩
 ·obtain⟨t,x⟩:=m.PK hi (b:=g) rfl y;refine⟨_,t,x,⟨h.1, .inr ⟨_,_,rfl,s⟩,λj u A=>⟨⟨g,0+j,C7⟩,cur,e,(0,0),by grind[AL,rB],rfl,by simp[Hp.put],?_⟩⟩,λw' l c=>?_⟩;· grind
  ·exact Aiz (i:=0) (r:= .row (.slice (Ac ⟨g,0,C7⟩) n cap) e size n xs) (o:= .cells cur e (0,0)) rf rf (m.Iy i _ g hi rf) (λz f=>⟨h.1, .inr ⟨g,cap,cur,rf,q,f,s,d,p,a⟩⟩) c
section
variable {N : C9}
section
variable{H:Hp}{η:Nat->BZ}{C:List (SV N.T)}{t:Ty}{k:Nat}
def CO:SV N.T->Bool
 | .d t _=>Hz t
 | .Ec _ _ _ _ _=>Aj
 | .pd _ _ _=>Aj
 | .Cw _=>Aj
 | .lf _ a l=>CO a&&CO l
 | .t2 a b=>CO a&&CO b
 | .t3 a b c=>CO a&&(CO b&&CO c)
 | .AK _ l _=>CO l
 | .vc a l=>CO a&&CO l
 | .px _ (.dx _ _)=>Aj
 |_=>Bp
def Wd:SR N.T->Bool
 | .Ai _ l=>CO l
 | .row _ t _=>Hz t
 | .Cw _=>Aj
 | .gone=>Bp
 | .map _ _ _ _=>Aj
 | .Ck _ _ _ _ _=>Aj
theorem Cj{g w:Nat->BZ->Prop}{η:Nat->BZ}{H p:Hp} :∀ {s:SV N.T} {v:BZ},CO s=Bp->s.BS g η H v->s.BS w η p v
 | .d t x,v,e,⟨o,i,j⟩=>⟨o,Hy e i,j⟩
 | .na _,_,_,h=>h
 | .ct _ _,_,_,h=>h
 | .cb _ _,_,_,h=>h
 | .lt _ _ _,_,_,h=>h
 | .lb _,_,_,h=>h
 | .raw _,_,_,h=>h
 | .ud,_,_,h=>h
 | .no,_,_,h=>h
 | .loc _ _,_,_,h=>h
 | .AH _,_,_,h=>h
 | .Ec _ _ _ _ _,_,e,_=>by cases e
 | .pd t x off,v,e,_=>by cases e
 | .mp _,_,_,h=>h
 | .lf s a l,v,e,⟨q,r,u,i,j,k,m,A,B⟩=>by have e:(CO a&&CO l)=Bp:=e;rw[AT]at e;exact⟨q,r,u,i,j,Cj e.1 k,m,A,Cj e.2 B⟩
 | .nl,_,_,h=>h
 | .t2 a b,v,e,⟨x,y,i,j,k⟩=>by have e:(CO a&&CO b)=Bp:=e;rw[AT]at e;exact⟨x,y,i,Cj e.1 j,Cj e.2 k⟩
 | .t3 a b c,v,e,⟨x,y,z,i,j,k,m⟩=>by have e:(CO a&&(CO b&&CO c))=Bp:=e;rw[AT,AT]at e;exact⟨x,y,z,i,Cj e.1 j,Cj e.2.1 k,Cj e.2.2 m⟩
 | .AK f l o,v,e,⟨n,i,j⟩=>⟨n,i,Cj (s:=l) e j⟩
 | .vn,_,_,h=>h
 | .vc a l,v,e,⟨u,n,i,j,k⟩=>by have e:(CO a&&CO l)=Bp:=e;rw[AT]at e;exact⟨u,n,i,Cj e.1 j,Cj e.2 k⟩
 | .px _ (.sub _ _ _),_,_,h=>h
 | .px _ .sf,_,_,h=>h
 | .px _ (.hc _),_,_,h=>h
 | .px _ (.fo _),_,_,h=>h
 | .px _ (.fi _),_,_,h=>h
 | .px _ (.fe _ _ _),_,_,h=>h
 | .px _ .any,_,_,h=>h
 | .px _ .ub,_,_,h=>h
 | .px _ (.sd _),_,_,h=>h
 | .px _ (.dx _ _),_,e,_=>by cases e
 | .Cw _,_,e,_=>by cases e
theorem OT{t:Ty}{H b:Hp}(a:Hz t=Bp):∀ {l:List (t.den N.T)} {xs:List BZ},A2 (N.c t) H l xs->A2 (N.c t) b l xs
 | [],_,h=>h
 |_::_,_,⟨c,xs,e,d,f⟩=>⟨c,xs,e,Hy a d,OT a f⟩
theorem SC{d:Hp}{s:SR N.T}{r:Aw}(a:Wd s=Bp)(h:s.is C η H k r):s.is C η d k r:=by
 cases s with
 |Ai g l=>
  obtain⟨B,e,b,c,f⟩:=h;exact⟨B,e,b,c,Cj (s:=l) a f⟩
 |row g t l=>obtain⟨i,b,c⟩:=h;exact⟨i,b,OT a c⟩
 |Cw j=>cases a
 |gone=>exact h
 |map g m n l=>cases a
 |Ck _ _ _ _ _=>cases a
def qO(k:Nat)(t:Ty)(l:List (t.den N.T)):SR N.T->SR N.T
 | .Ai g r=> .Ai g (GQ k t l r)
 |r=>r
def zI(C:List (SV N.T)):SV N.T->SV N.T
 | .lf s a l=> .lf s (res C a) (zI C l)
 |s=>s
theorem oF:∀ {s:SV N.T} {v:BZ},s.is C η H v->(zI C s).is C η H v:=by
 intro s;induction s with
 |lf n a l _ k=>exact λ⟨b,c,u,d,e,f,g,i,j⟩=>⟨b,c,u,d,e,ET f,g,i,k j⟩
 |_=>exact λh=>h
def rlR(C:List (SV N.T)):SR N.T->SR N.T
 | .Ai g l=> .Ai g (zI C l)
 |r=>r
def Ku(C:List (SV N.T))(Rr:Nat->Option (SR N.T))(k:Nat)(t:Ty)(l:List (t.den N.T)):Nat->Option (SR N.T):=λj=>match Hh j k with
 |true=>Ac .gone
 |false=>(Rr j).map λr=>qO k t l (rlR C r)
theorem gO{a:Hp}(c:H.le a){j:Nat}{l:List (t.den N.T)}(h:G4 (N.c t) a l (η k)){r:SR N.T}{X:Aw}(d:r.is C η H j X):(qO k t l (rlR C r)).is C η a j X:=by
 cases r with
 |Ai g b=>
  obtain⟨B,e,f,i,m⟩:=d;exact⟨B,e,f,i,CN h (oF (m.mono c))⟩
 |_=>exact SR.is.mono c d
end
variable {R : Type} {P : GN} {C : List (SV N.T)} {S : Nat -> SV N.T} {Rr : Nat -> Option (SR N.T)} {nk : Nat} {o : K7} {k : Bx N.T -> Nat -> Option R} {r : R}
section
variable{g:Gq}{s:Bx N.T}{c:Nat}{b:Ty}{l:List (b.den N.T)}{τ:Nat->Nat}{a:Nat}{η:Nat->BZ}{H:Hp}{t:Ty}{x:t.den N.T}{B:Nat}{cs:List BZ}
theorem Ap.gN{d:Nat}{n:Ty}{l:List (n.den N.T)}(hk:Rr d=Ac (.row g n l))(h:Ap P C (λt=>GQ d n l (S t)) (Ku C Rr d n l) o s)(hw:d∉keys s.wr)(hf:CO s.sv=Bp)(I:s.wr.all (λp=>Wd p.2)=Bp):Ap P C S Rr o ⟨s.sv,d::s.rd,s.wr⟩:=by
 intro η H Of a w Y hn hs hi hx hr E K Q hK;rcases hr d (.inl (by simp)) _ hk with e|⟨x,G,xs,rfl,hL⟩;· grind
 obtain⟨i,h2,h3⟩:=bY Of hn G;obtain⟨Z,D,g2,g3,g4⟩:=Ajq hs h2;rw[h3]at g2;have A:G4 (N.c n) Z l (η d):=G4.of (by grind[Bn]) rfl (hL.mono D) (hs.Oj h2);have J:d∉keys (FH Y d):=λm=>by obtain⟨p,hp,e⟩:=By.1 m;have:=(Abb.1 hp).2;rw[e]at this;simp at this
 refine h η Z Of a w (FH Y d) (Ic hn) g2 (N.CZ D hi) (λx V=>nr A ((hx x V).mono D)) (λj c sr f=>?_) (λj c b m=>?_) K Q λv w' H2 X Y' L W hY U M q B T=>?_
 ·unfold Ku at f;split at f;· cases f;exact .inl rfl
  ·rename_i u;have ne:=Abf u;obtain⟨s0,O,rfl⟩:=Pd.1 f;rcases hr j (c.imp (Aag _) id) s0 O with e|⟨z,e1,F⟩;· subst e;exact .inl rfl
   ·exact .inr ⟨z,by grind[ne,DF],gO D A F⟩
 ·grind[Ku,Option.map_eq_none_iff,CH]
 ·have y:d∉keys Y':=λm=>(q d m).elim J hw;refine hK v w' H X ((d, .row (η d) g (n.sz N) l.length xs)::Y') (Hp.le.refl H) (λj c=>W j λb m=>?_) (λj c=>?_) (λj sr c=>?_) (Aaz.2 ⟨y,M⟩) (λj c=>?_) ?_ (Cj hf T)
  ·unfold Ku at b;split at b;· cases b
   ·exact c (Option.map_eq_none_iff.1 b) m
  ·simp only[Ay];split;· rename_i u;have:=AI u;subst this;exact G.symm
   ·rename_i u;rw[hY j c,DF (λe=>Abf u e.symm)]
  ·have ne:d≠j:=λe=>by subst e;exact hw (Dm c)
   refine(U j sr c).imp id λ⟨z,e1,F⟩=>⟨z,by rw[A3 ne];exact e1,SC (No.1 I _ (A4 c)) F⟩
  ·simp only[keys,Aas,Aav]at c;rcases c with rfl|c;· exact .inl (Dm G)
   ·rcases q j c with e|e;· exact .inl (CH e)
    ·exact .inr e
  ·exact g4 w' _ (B.weaken L)
theorem wN(h:Nv Rr S τ):Nv (Ku C Rr c b l) (λt=>GQ c b l (S t)) τ:=λt=>by
 have d:=h t;generalize g:S t=sv at d⊢;show D9 τ (Ku C Rr c b l) (GQ c b l (S t));rw[g];cases sv with
 |AH j=>unfold GQ;split<;>trivial
 |Ec j i off p x=>
  unfold GQ;split;· trivial
  ·rename_i e;intro q u s a;unfold Ku at a;rw[e]at a;obtain⟨n,f,m⟩:=Pd.1 a;cases n<;>first|(cases m;exact d _ _ _ f)|cases m
 |_=>exact d
theorem Ux(c:∀j,nk<=j->Rr j=C7)(b:a<nk):∀j,nk<=j->CA Rr a j=C7:=λj d=>by grind[CA,Hh,aU]
theorem Oy(d:∀j,nk<=j->Rr j=C7)(c:a<nk):∀j,nk<=j->Ku C Rr a b l j=C7:=λj e=>by grind[Ku,Hh,aU]
def MQ(a:Nat)(k:Bx N.T->Nat->Option R)(s:Bx N.T)(nk:Nat):Option R:=match B_ (keys s.wr) a,CO s.sv&&s.wr.all (λp=>Wd p.2)with
 |false,Bp=>k ⟨s.sv,a::s.rd,s.wr⟩ nk
 |_,_=>C7
theorem A1.gN{b:Nat}{c:Ty}{l:List (c.den N.T)}(w:Rr b=Ac (.row g c l))(h:A1 P C (λt=>GQ b c l (S t)) (Ku C Rr b c l) nk o (MQ b k) r):A1 P C S Rr nk o k r:=by
 obtain⟨s,m,d,p,q,u,v⟩:=h;unfold MQ at d;split at d
 ·rename_i z a;rw[AT]at a;have y:b∉keys s.wr:=λe=>by grind[AU]
  refine⟨_,m,d,p.gN w y a.1 a.2,q,λj x f=>u j x ?_,λτ i=>?_⟩;· grind[Ku,Hh,absurd,aU]
  ·have n:=v τ (wN i);have a:=a.1;generalize s.sv=sv at n a;cases sv with
   |Ec _ _ _ _ _=>trivial
   |_=>exact n
 grind
def QJ(k:Nat)(t:Ty)(x:t.den N.T):SV N.T->SV N.T
 | .loc j off=>match Hh j k with
  |true=> .pd t x off
  |false=> .loc j off
 | .lf s a r=> .lf s (QJ k t x a) (QJ k t x r)
 | .t2 a b=> .t2 (QJ k t x a) (QJ k t x b)
 | .t3 a b c=> .t3 (QJ k t x a) (QJ k t x b) (QJ k t x c)
 | .AK f r d=> .AK f (QJ k t x r) d
 | .vc a r=> .vc (QJ k t x a) (QJ k t x r)
 |s=>s
theorem jj{C:List (SV N.T)}{η:Nat->BZ}{H:Hp}{g:Nat->BZ->Prop}{k:Nat}{t:Ty}{x:t.den N.T}{B:Nat}{cs:List BZ}(U:η k=ptr B 0)(J:(N.c t).BP H x cs)(hc:∀j u,cs[j]?=Ac u->DV H (ptr B j) u):∀ {s:SV N.T} {v:BZ},s.BS g η H v->(QJ k t x s).BS g η H v:=by
 intro s;induction s with
 |loc j off=>
  intro v M;unfold QJ;split
  ·rename_i K;have:=AI K;obtain⟨D,d,rfl⟩:=M;have:B=D:=by grind[ptr]
   subst this;exact⟨⟨B,0,C7⟩,0,cs,by simp[ptr,xt],J,λj u L=>by have:=hc j u L;rw[rB,Abl,Abl];trivial⟩
  omega
 |lf n a l d m=>exact λ⟨F,G,u,e,i,p,q,Q,T⟩=>⟨F,G,u,e,i,d p,q,Q,m T⟩
 |t2 a b d m=>exact λ⟨y,z,e,i,p⟩=>⟨y,z,e,d i,m p⟩
 |t3 a b c d m I=>exact λ⟨y,z,w,e,i,p,q⟩=>⟨y,z,w,e,d i,m p,I q⟩
 |AK f r cs d=>exact λ⟨A,e,i⟩=>⟨A,e,d i⟩
 |vc a r d m=>exact λ⟨u,A,e,i,p⟩=>⟨u,A,e,d i,m p⟩
 |_=>exact λh=>h
theorem xj{k:Nat}(b:η k=ptr B 0)(c:(N.c t).BP H x cs)(hc:∀j u,cs[j]?=Ac u->DV H (ptr B j) u){y:DQ}{v:BZ}(h:(Ax S y).is C η H v):(Ax (λu=>QJ k t x (S u)) y).is C η H v:=by
 cases y with
 |tmp u=>exact jj (C:=C) b c hc h
 |_=>exact h
theorem Ap.aJ{f:Nat}{b:SV N.T}{L:Ty}{y:L.den N.T}(hk:Rr f=Ac (.Ai g b))(hy:KP N C 64 L b=Ac (y, .nl))(h:Ap P C (λt=>QJ f L y (S t)) (CA Rr f) o s)(hw:f∉keys s.wr)(hf:CO s.sv=Bp)(W:s.wr.all (λp=>Wd p.2)=Bp):Ap P C S Rr o ⟨s.sv,f::s.rd,s.wr⟩:=by
 intro η H Of a w Y hn hs hi hx hr l K Q hK;rcases hr f (.inl (by simp)) _ hk with e|⟨x,T,B,cs,hB,rfl,hl⟩;· grind
 obtain⟨i,U,h3⟩:=bY Of hn T;obtain⟨c1,c2,M,hL,J⟩:=EK (cs:=cs.toList) hy hl;have J:BZ.agg c2.toArray= .agg #[]:=J;have J:c2=[]:=by grind
 subst J;obtain⟨I,g2⟩:=hs.PK U (b:=B) rfl (hs.ok i _ U);have D:H.at_ B=C7:=hs.Iy i _ B U rfl;rw[h3]at g2;have V:=(N.c L).mono I hL;have hc:∀j u,c1[j]?=Ac u->DV (H.put B (.cells cs g (0,0))) (ptr B j) u:=λj u d=>by refine⟨⟨B,j,C7⟩,cs,g,(0,0),rf,rf,by simp[Hp.put],?_⟩;grind
 have X:f∉keys (FH Y f):=λn=>by obtain⟨p,hp,e⟩:=By.1 n;have:=(Abb.1 hp).2;rw[e]at this;simp at this
 refine h η _ Of a w (FH Y f) (Ic hn) g2 (N.CZ I hi) (λx hx'=>xj hB V hc ((hx x hx').mono I)) (λj d sr m=>?_) (λj d c n=>?_) K Q λv w' H2 η' Y' Z hη hY hwr hn' q F hsv=>?_
 ·unfold CA at m;split at m;· cases m;exact .inl rfl
  ·rename_i A;have ne:=Abf A;exact(hr j (d.imp (Aag _) id) sr m).imp id λ⟨z,M,O⟩=>⟨z,by grind[ne,DF],O.mono I⟩
 ·unfold CA at c;split at c;· cases c
  ·exact l j d c (CH n)
 ·have E:f∉keys Y':=λn=>(q f n).elim X hw;refine hK v w' H η' ((f, .Ai B (.cells cs g (0,0)))::Y') (Hp.le.refl H) (λj d=>hη j λc n=>?_) (λj d=>?_) (λj sr d=>?_) (Aaz.2 ⟨E,hn'⟩) (λj d=>?_) ?_ (Cj hf hsv)
  ·unfold CA at c;split at c;· cases c
   ·exact d c n
  ·simp only[Ay];split;· rename_i A;have:=AI A;subst this;exact T.symm
   ·rename_i A;rw[hY j d,DF (λe=>Abf A e.symm)]
  ·have ne:f≠j:=λe=>by subst e;exact hw (Dm d)
   refine(hwr j sr d).imp id λ⟨z,M,O⟩=>⟨z,by rw[A3 ne];exact M,SC (No.1 W _ (A4 d)) O⟩
  ·simp only[keys,Aas,Aav]at d;rcases d with rfl|d;· exact .inl (Dm T)
   ·rcases q j d with e|e;· exact .inl (CH e)
    ·exact .inr e
  ·exact Aiz (i:=0) (r:= .Ai B (.cells cs g (0,0))) (o:= .cells cs g (0,0)) rf rf D (λw'' G=>G) (F.weaken Z)
theorem xi{b:Nat}{f:Ty}{y:f.den N.T}(e:Nv Rr S τ):Nv (CA Rr b) (λt=>QJ b f y (S t)) τ:=λt=>by
 have c:=e t;generalize d:S t=sv at c⊢;show D9 τ (CA Rr b) (QJ b f y (S t));rw[d];cases sv with
 |loc j off=>unfold QJ;split<;>trivial
 |Ec j i off m x=>
  intro g l h a;unfold CA at a;split at a;· grind
  ·exact c g l h a
 |_=>exact c
theorem A1.aJ{b:SV N.T}{m:Ty}{y:m.den N.T}(w:Rr c=Ac (.Ai g b))(A:KP N C 64 m b=Ac (y, .nl))(h:A1 P C (λt=>QJ c m y (S t)) (CA Rr c) nk o (MQ c k) r):A1 P C S Rr nk o k r:=by
 obtain⟨s,l,d,p,q,u,v⟩:=h;unfold MQ at d;split at d
 ·rename_i B a;rw[AT]at a;have z:c∉keys s.wr:=λe=>by grind[AU]
  refine⟨_,l,d,p.aJ w A z a.1 a.2,q,λj x f=>u j x ?_,λτ i=>?_⟩;· grind[CA,Hh,absurd,aU]
  ·have n:=v τ (xi i);have a:=a.1;generalize s.sv=sv at n a;cases sv with
   |Ec _ _ _ _ _=>trivial
   |_=>exact n
 grind
def S8:SV N.T->List (SV N.T)
 | .vc a l=>a::S8 l
 |_=>[]
def u_:SV N.T->Bool
 | .vc _ l=>u_ l
 | .vn=>Bp
 |_=>Aj
structure Ca(T:Nat->Type)where
 f:Nat
 As:List (SV T)
 cs:List Nat
end
section
variable{η:Nat->BZ}{H:Hp}{x:DQ}{xs:List DQ}{tys:Array Gq}{q:PQ N}
def Tf(S:Nat->SV N.T)(Rr:Nat->Option (SR N.T))(x:DQ)(xs:List DQ):Option (Ca N.T):=match Ax S x with
 | .AK f l a=>match u_ l&&a.all λc=>match Rr c with|some (.Ai _ _)=>Bp|_=>Aj with
  |true=>Ac ⟨f,S8 l++xs.map (Ax S)++a.map (λc=> .loc c 0),a⟩
  |false=>C7
 |_=>C7
theorem Nd{C:List (SV N.T)}{η:Nat->BZ}{H:Hp} :∀ {l:SV N.T} {us:List BZ},u_ l=Bp->l.is C η H (.tuple us.toArray)->us.length=(S8 l).length/\∀(i:Nat) (s:SV N.T),(S8 l)[i]?=Ac s->∃v,us[i]?=Ac v/\s.is C η H v
 | .vn,us,_,h=>by
  have h:BZ.tuple us.toArray= .tuple #[]:=h;have:us=[]:=by grind
  subst this;exact⟨rfl,λi s h=>by trivial⟩
 | .vc a l,us,g,⟨u,c,e,d,f⟩=>by
  have e:us=u::c:=by grind
  subst e;obtain⟨j,m⟩:=Nd (l:=l) g f;refine⟨by grind[S8],λi s h=>?_⟩;cases i with
  |zero=>simp[S8]at h;subst h;exact⟨u,rfl,d⟩
  |succ i=>grind[S8]
theorem jg{q:Ca N.T}(E:o.op= .call {callee:= .value x,args:=xs.toArray,argTypes:=tys})(h:Tf S Rr x xs=Ac q)(t:TM P q.f){Y:List (Nat×Aw)}{a:Act}(F:∀x∈o.op.operands,(Ax S x).is C η H (a.eval x))(Q:∀c∈q.cs,∀I,Rr c=Ac I->DU C η H Y c I):
  ∃vs:List BZ,vs.length=q.As.length/\(∀(i:Nat) (s:SV N.T),q.As[i]?=Ac s->∃v,vs[i]?=Ac v/\s.is C η H v)/\∀H O R,Ts P q.f vs H O R->BM P o.op o.type (EV a) H O R:=by
 unfold Tf at h;split at h
 ·rename_i f l D T;split at h
  ·rename_i y;cases h;rw[AT]at y;have u:(Ax S x).is C η H (a.eval x):=F x (by grind[af,gv]);rw[T]at u;obtain⟨J,e,M⟩:=u;obtain⟨K,W⟩:=Nd y.1 M;refine⟨J++xs.map a.eval++D.map η,by grind,λi s j=>?_,λH O R U=>?_⟩
   ·rw[Aaj]at j⊢;by_cases V:i<(S8 l).length;· grind
    ·rw[Aab (by omega)]at j;rw[Aab (by omega),K];by_cases w:i-(S8 l).length<xs.length;· rw[Pe (by simpa using w),Abz]at j;rw[Pe (by simpa using w),Abz];obtain⟨z,G,rfl⟩:=Pd.1 j;refine⟨_,by rw[G];rfl,F z (by rw[E];simp[af,gv];exact .inr (Aai G))⟩
     ·rw[Aab (by simpa using w),Abz]at j;rw[Aab (by simpa using w),Abz];simp only[Aal]at j⊢;obtain⟨c,hc,rfl⟩:=Pd.1 j;have p:=Aai hc;have n:=No.1 y.2 c p;refine⟨η c,by rw[hc];rfl,?_⟩;split at n
      ·rename_i g b L;rcases Q c p _ L with e|⟨X,_,B,_,A,_⟩;· cases e
       ·exact⟨B,A,A⟩
      ·cases n
   ·rw[E];exact Ajy (first:=J) (caps:=D.map η) t (congrArg Ac e) (LU xs) U
  grind
 grind
def XU{T:Nat->Type} :SV T->Option Nat
 | .AH k=>Ac k
 | .lf _ a l=>match XU a with
  |some k=>Ac k
  |none=>XU l
 |_=>C7
def VX(a:List (SV N.T)):List (Nat×SP)->Option Nat
 | []=>C7
 |(i, .v _ _)::l=>match XU (a.getD i .no)with
  |some k=>Ac k
  |none=>VX a l
 |_::l=>VX a l
def aI(a:List (SV N.T)):List (Nat×SP)->Option (Nat×Ty)
 | []=>C7
 |(i, .pd _ t _)::l=>match a.getD i .no with
  | .loc k _=>Ac (k,t)
  |_=>aI a l
 |_::l=>aI a l
def O_(C:List (SV N.T))(f:Nat)(q:PQ N)(x:DQ)(xs:List DQ)(nk:Nat):Nat->(Nat->SV N.T)->(Nat->Option (SR N.T))->(Bx N.T->Nat->Option R)->Option (Option R)
 |0,_,_,_=>C7
 |n+1,S,Rr,k=>match Tf S Rr x xs with
  |some c=>
        match Hh c.f f with
   |true=>
        match VX c.As q.pi.sl with
    |some a=>match Rr a with
     |some (.row _ d l)=>O_ C f q x xs nk n (λt=>GQ a d l (S t)) (Ku C Rr a d l) (MQ a k)
     |_=>C7
    |none=>match aI c.As q.pi.sl with
     |some (kb,e)=>match Rr kb with
      |some (.Ai _ b)=>match XU (zI C b)with
       |some a=>match Rr a with
        |some (.row _ d l)=>O_ C f q x xs nk n (λt=>GQ a d l (S t)) (Ku C Rr a d l) (MQ a k)
        |_=>C7
       |none=>match KP N C 64 e b with
        |some (y, .nl)=>O_ C f q x xs nk n (λt=>QJ kb e y (S t)) (CA Rr kb) (MQ kb k)
        |_=>C7
      |_=>C7
     |none=>WI C Rr nk q c.As c.cs k
   |false=>C7
  |none=>C7
theorem VB{y:BJ N q.po.hs}{τ:Nat->Nat}{Rr:Nat->Option (SR N.T)}{ρ:Nat->Nat}(c:uY q=Bp):D9 τ Rr ((Jl q y).DO ρ):=by
 unfold uY at c;rw[AT]at c;have B:∀p∈ZU q,∀ {ρ:Nat->Nat} {Rr:Nat->Option (SR N.T)},D9 τ Rr ((inst N q.po.hs y p).DO ρ):=λp l {ρ Rr} =>by
  have:=
      No.1 c.1 p l;rw[AT]at this;have s:=this.1;have pr:∀(a:List HT) (x:BJ N a) (j:Nat),D9 τ Rr ((Cu N a x j).DO ρ):=λa x j=>by
   have:∀(a:List HT) (x:BJ N a) (j:Nat),Cu N a x j= .no\/∃h y,Cu N a x j=eU N h y:=by
    intro a;induction a with
    |nil=>exact λ_ _=> .inl rfl
    |cons t g w=>
     intro x j;cases g with
     |nil=>cases j with
      |zero=>exact .inr ⟨t,x,rfl⟩
      |succ j=>exact .inl rfl
     |cons u g=>cases j with
      |zero=>exact .inr ⟨t,x.1,rfl⟩
      |succ j=>exact w x.2 j
   rcases this a x j with e|⟨h,y,e⟩;· rw[e];trivial
   ·rw[e];cases h<;>trivial
  cases p with
  |v j t=>exact pr _ _ _
  |nat j=>exact pr _ _ _
  |AH _=>trivial
  |loc _ _=>trivial
  |AK _ _ _=>trivial
  |Am=>trivial
  |nl=>trivial
  |mp _=>trivial
  |pd j t off=>
   show D9 τ Rr (SV.DO ρ (match Cu N q.po.hs y j with| .d t x=>SV.pd t x off|_=> .no));split<;>trivial
  |px f z=>cases z with
   |sf=>trivial
   |hc _=>trivial
   |sub j n t=>
    show D9 τ Rr (SV.DO ρ (match Cu N q.po.hs y j,Cu N q.po.hs y n with| .na i, .na m=>SV.px f (.sub i m t)|_,_=> .px f .any));split<;>trivial
  |sv A=>cases A<;>trivial
  |_=>trivial
 unfold Jl;unfold ZU at B;split;· trivial
 ·simp_all
 all_goals trivial
theorem JZ{f:Nat}{q:PQ N}{x:DQ}{xs:List DQ}{tys:Array Gq}(D:o.op= .call {callee:= .value x,args:=xs.toArray,argTypes:=tys})(A:Cr P f q):∀ {n:Nat} {S:Nat->SV N.T} {Rr:Nat->Option (SR N.T)} {k:Bx N.T->Nat->Option R},(∀j,nk<=j->Rr j=C7)->O_ C f q x xs nk n S Rr k=Ac (Ac r)->A1 P C S Rr nk o k r
 |0,_,_,_,_,h=>by cases h
 |n+1,S,Rr,k,t,h=>by
  unfold O_ at h;split at h
  ·rename_i c hc;split at h
   ·rename_i T;have e:=AI T;split at h
    ·rename_i E hk;split at h
     ·rename_i g te l u;have m:E<nk:=Aby λi=>by grind
      exact .gN u (JZ D A (Oy t m) h)
     grind
    ·split at h
     ·rename_i kb tb V;split at h;case h_2=>cases h
      rename_i g b w;have v:kb<nk:=Aby λi=>by have:=t kb i;rw[w]at this;cases this
      split at h
      ·rename_i E U;split at h
       ·rename_i g te l u;have m:E<nk:=Aby λi=>by have:=t E i;rw[u]at this;cases this
        exact .gN u (JZ D A (Oy t m) h)
       ·cases h
      ·split at h;· rename_i y I;exact .aJ w I (JZ D A (Ux t v) h)
       ·cases h
     unfold WI at h;simp only at h;split at h
     ·rename_i d;simp only[AT]at d;split at h
      ·rename_i z hz;obtain⟨y,I,h⟩:=Bi (Abp h);obtain⟨L,M⟩:=Yk (S:=S) (o:=o) (f:=f) (ex:=c.cs) A d.2.2.1 d.2.2.2 (AI d.1) (λp W=>by simpa using No.1 d.2.1 p W) hz I t λη H Y a Z u=>by
        obtain⟨vs,k1,k2,k3⟩:=jg D hc (by rw[e];exact A.b8) Z (λK F sr G=>u K (Acb _ F) sr G);exact⟨vs,k1,k2,λH O R X=>k3 H O R (by rw[e];exact X)⟩
       refine⟨_,_,h,L,Nat.le_add_right _ _,M,λτ _=>?_⟩;exact VB d.2.2.2
      ·cases h
     ·cases h
   grind
  grind
inductive CQ(N:C9)where
 |PN (l:List (PQ N))
 |its (l:List (IQ N))
 |qz (l:List (JQ N))
end
section
variable{f:Nat}{x:DQ}{tys:Array Gq}
def Bt(P:GN)(f:Nat):CQ N->Prop
 | .PN l=> ∀q∈l,Cr P f q
 | .its l=> ∀q∈l,I8 P f q
 | .qz l=> ∀q∈l,I7 P f q
def Te(C:List (SV N.T))(f:Nat)(x:DQ)(xs:List DQ)(S:Nat->SV N.T)(Rr:Nat->Option (SR N.T))(nk:Nat)(k:Bx N.T->Nat->Option R):List (PQ N)->Option R
 | []=>C7
 |q::l=>match O_ C f q x xs nk 9 S Rr k with
  |some z=>z
  |none=>Te C f x xs S Rr nk k l
theorem Nj{f:Nat}{x:DQ}{xs:List DQ}{tys:Array Gq}(c:o.op= .call {callee:= .value x,args:=xs.toArray,argTypes:=tys})(b:∀j,nk<=j->Rr j=C7):∀ {l:List (PQ N)},(∀q∈l,Cr P f q)->Te C f x xs S Rr nk k l=Ac r->A1 P C S Rr nk o k r
 | [],_,h=>by cases h
 |q::l,d,h=>by
  unfold Te at h;split at h;· rename_i z e;subst h;exact JZ c (d q (by simp)) b e
  ·exact Nj c b (λq g=>d q (by grind)) h
theorem J2{C:List (SV N.T)}{η:Nat->BZ}{H:Hp} :∀(ps:List Ty) (d:List (SV N.T)) (vs:List BZ) (x:DP N ps),UR N C ps d=Ac x->vs.length=d.length->(∀(i:Nat) (s:SV N.T),d[i]?=Ac s->∃v,vs[i]?=Ac v/\s.is C η H v)->YV H ps x vs
 | [],[],vs,x,h,a,_=>Abd a
 | [],_::_,_,x,h,_,_=>by cases h
 | [t],[],_,x,h,_,_=>by cases h
 | [t],[s],vs,x,h,a,b=>by obtain⟨v,e,f⟩:=b 0 s rfl;obtain⟨j,rfl⟩:∃j,vs=[j]:=Adb.1 a;cases e;exact⟨_,rfl,Wn (DK (t:=t) h f)⟩
 | [t],_::_::_,_,x,h,_,_=>by cases h
 |t::u::c,[],_,x,h,_,_=>by cases h
 |t::u::c,s::g,[],x,h,a,b=>by grind
 |t::u::c,s::g,v::vs,x,h,a,b=>by
  have h:(match TK C t s,UR N C (u::c) g with
   |some x,Ac y=>Ac (x,y)
   |_,_=>C7)=Ac x:=h;split at h;· rename_i z w f l;cases h;obtain⟨j,e,m⟩:=b 0 s rfl;cases e;exact⟨_,_,rfl,Wn (DK (t:=t) f m),J2 (u::c) g vs w l (by grind) λi s n=>b (i+1) s n⟩
  grind
def cZ(C:List (SV N.T))(Φ:Nat->Option (CQ N))(S:Nat->SV N.T)(Rr:Nat->Option (SR N.T))(nk:Nat)(x:DQ)(xs:List DQ)(k:Bx N.T->Nat->Option R):Option R:=match x with
 | .func f=>match Φ f with
  |some (.PN l)=>Te C f (.func f) xs S Rr nk k l
  |_=>C7
 |x=>match Tf S Rr x xs with
  |some c=>match Φ c.f with
   |some (.PN l)=>Te C c.f x xs S Rr nk k l
   |_=>C7
  |none=>C7
theorem Z_{Φ:Nat->Option (CQ N)}(d:∀f q,Φ f=Ac q->Bt P f q)(D:∀j,nk<=j->Rr j=C7){xs:Array DQ}(Z:o.op= .call {callee:= .value x,args:=xs,argTypes:=tys})(h:cZ C Φ S Rr nk x xs.toList k=Ac r):A1 P C S Rr nk o k r:=by
 have i:o.op= .call {callee:= .value x,args:=xs.toList.toArray,argTypes:=tys} :=by omega
 unfold cZ at h;split at h
 ·rename_i f;split at h
  ·rename_i l n;exact Nj i D (d _ _ n) h
  ·cases h
 ·split at h
  ·rename_i c hc;split at h
   ·rename_i l n;exact Nj i D (d _ _ n) h
   ·cases h
  ·cases h
def pW:List (SV N.T)->SV N.T
 | []=> .vn
 |a::l=> .vc a (pW l)
def iZ(S:Nat->SV N.T):List DQ->Option (List Nat)
 | []=>Ac []
 |x::a=>match Ax S x,iZ S a with
  | .loc c 0,Ac l=>Ac (c::l)
  |_,_=>C7
def pY(S:Nat->SV N.T)(nk f:Nat)(fs cs:List DQ)(k:Bx N.T->Nat->Option R):Option R:=match iZ S cs with
 |some l=>k ⟨.AK f (pW (fs.map (Ax S))) l,[],[]⟩ nk
 |none=>C7
theorem VT{C:List (SV N.T)}{η:Nat->BZ}{H:Hp}{a:Act} :∀ {fs:List DQ},(∀x∈fs,(Ax S x).is C η H (a.eval x))->(pW (fs.map (Ax S))).is C η H (.tuple (fs.map a.eval).toArray)
 | [],_=>rfl
 |x::c,h=>⟨a.eval x,c.map a.eval,rfl,h x (by simp),VT λy d=>h y (by grind)⟩
theorem WC{C:List (SV N.T)}{η:Nat->BZ}{H:Hp}{a:Act} :∀ {cs:List DQ} {l:List Nat},iZ S cs=Ac l->(∀x∈cs,(Ax S x).is C η H (a.eval x))->cs.map a.eval=l.map η
 | [],l,h,_=>by cases h;rfl
 |x::m,l,h,b=>by
  unfold iZ at h;split at h;· rename_i c j f g;cases h;have:=b x (by simp);rw[f]at this;obtain⟨B,d,e⟩:=this;rw[Aas,Aas,WC g (λy i=>b y (by grind)),d,e]
  grind
theorem o4{fs cs:Array DQ}(j:o.op= .makeFunc (.func f) fs cs)(h:pY S nk f fs.toList cs.toList k=Ac r):A1 P C S Rr nk o k r:=by
 unfold pY at h;split at h;· rename_i l i;refine .y h (Abu λη H O a d _=>?_) λ_ _=>trivial;have e:∀x∈fs.toList,(Ax S x).is C η H (a.eval x):=λx c=>d x (by grind[af]);have g:∀x∈cs.toList,(Ax S x).is C η H (a.eval x):=λx c=>d x (by grind[af]);refine⟨.func (.func f) (fs.toList.map a.eval).toArray (cs.toList.map a.eval).toArray,?_,fs.toList.map a.eval,by rw[WC i g],VT e⟩;rw[j];exact Au.makeFunc (fs:=fs.toList) (cs:=cs.toList) (LU _) (LU _)
 grind
end
end
class C4 (N:C9) (P:GN):Prop where
 eq:∀ {P'},N.prog=Ac P'->P'=P
 laid:laidOutB P=Bp
abbrev gf:Ty:= .st (.pr (.int .i64) (.int .i64))
abbrev gg{T:Nat->Type}(m:gf.den T):Int×Int:=m
section
variable {N : C9}
section
variable{H:Hp}{κ:Type}{a:Ty}{k:κ}{x:a.den N.T}{v:BZ}
theorem Eu.len{a:Ty}{H:Hp}{κ:Type} :∀ {l:List (κ×a.den N.T)} {m:List (κ×BZ)},Eu a H l m->m.length=l.length
 | [],[],_=>rfl
 |_::l,_::m,⟨_,_,h⟩=>congrArg (· +1) (Eu.len h)
 | [],_::_,h=>h.elim
 |_::_,[],h=>h.elim
abbrev FW(a:Ty)(H:Hp)(x:a.den N.T)(v:BZ):Prop:= ∃b,(N.c a).BP H x b/\CL a b v
theorem Eu.get{b:Ty}{H:Hp}{κ:Type} [DecidableEq κ](k:κ):∀ {l:List (κ×b.den N.T)} {m:List (κ×BZ)},Eu b H l m->(AB l k=C7/\AB m k=C7)\/∃x v,AB l k=Ac x/\AB m k=Ac v/\FW b H x v
 | [],[],_=> .inl ⟨rfl,rfl⟩
 |(j,x)::l,(f,v)::m,⟨a,c,d⟩=>by
  subst a;unfold AB;by_cases e:j=k;· grind
  ·rw[if_neg e,if_neg e];exact Eu.get k d
 | [],_::_,h=>h.elim
 |_::_,[],h=>h.elim
theorem Eu.set{a:Ty}{H:Hp}{κ:Type} [DecidableEq κ]{k:κ}{x:a.den N.T}{v:BZ}(d:FW a H x v):∀ {l:List (κ×a.den N.T)} {m:List (κ×BZ)},Eu a H l m->Eu a H (Iv l k x) (Iv m k v)
 | [],[],_=>trivial
 |(j,y)::l,(g,u)::m,⟨b,f,c⟩=>by
  subst b;unfold Iv;by_cases e:j=k;· rw[if_pos e,if_pos e];trivial
  ·rw[if_neg e,if_neg e];exact⟨rfl,f,Eu.set d c⟩
 | [],_::_,h=>h.elim
 |_::_,[],h=>h.elim
theorem Eu.app{a:Ty}{H:Hp}{κ:Type}{k:κ}{x:a.den N.T}{v:BZ}(b:FW a H x v):∀ {l:List (κ×a.den N.T)} {m:List (κ×BZ)},Eu a H l m->Eu a H (l++[(k,x)]) (m++[(k,v)])
 | [],[],_=>⟨rfl,b,trivial⟩
 |_::l,_::m,⟨c,d,e⟩=>⟨c,d,Eu.app b e⟩
 | [],_::_,h=>h.elim
 |_::_,[],h=>h.elim
theorem Eu.put[DecidableEq κ](d:FW a H x v){l:List (κ×a.den N.T)}{m:List (κ×BZ)}(h:Eu a H l m):Eu a H (Bw l k x) (Bw m k v):=by
 unfold Bw;rcases h.get k with⟨b,c⟩|⟨_,_,b,c,_⟩;· rw[b,c];exact h.app d
 ·rw[b,c];exact h.set d
def zcs(b:Ty)(z:BZ):Option (List BZ):=match b.agg,z with
 |true, .agg a=>Ac a.toList
 |true,_=>C7
 |false,z=>Ac [z]
def zdK(N:C9)(P:GN)(d:Gq)(b:Ty):Option (b.den N.T):=match P.info? d with
 |some a=>match a.zero with
  |some z=>match zcs b z with
   |some c=>match parse N 16 b c with
    |some (x,[])=>Ac x
    |_=>C7
   |none=>C7
  |none=>C7
 |none=>C7
theorem n5{P:GN}{f:Gq}{d:Ty}{x:d.den N.T}(h:zdK N P f d=Ac x):∃n b z,TI P f n b z/\∀H,FW d H x z:=by
 unfold zdK at h;split at h
 ·rename_i c i;split at h
  ·rename_i z l;split at h
   ·rename_i g hc;split at h
    ·rename_i y k;refine⟨_,_,z,⟨c,i,rfl,rfl,l⟩,λH=>⟨g,?_,?_⟩⟩;· obtain⟨pre,e,j⟩:=CE (H:=H) k;grind
     ·unfold zcs at hc;unfold CL;split at hc;· rename_i a;cases hc;rw[a]
      all_goals grind
    grind
   grind
  grind
 grind
end
variable {R : Type} {P : GN} {C : List (SV N.T)} {S : Nat -> SV N.T} {Rr : Nat -> Option (SR N.T)} {nk : Nat} {o : K7} {k : Bx N.T -> Nat -> Option R} {r : R}
section
variable{t:Gq}{x:DQ}{H:Hp}{y:DQ}
def pX(P:GN)(nk:Nat)(t:Gq)(k:Bx N.T->Nat->Option R):Option R:=match N.prog with
 |none=>C7
 |some _=>match P.underlying t with
  |some (.map g b)=>match L_ N P b,P.underlying g with
   |some a,Ac .string=>k ⟨.mp nk,[],[(nk, .map g .str a [])]⟩ (nk+1)
   |some a,Ac (.int .i64)=>k ⟨.mp nk,[],[(nk, .map g (.int .i64) a [])]⟩ (nk+1)
   |some a,Ac (.struct _)=>match OI P g with
    |true=>k ⟨.mp nk,[],[(nk, .map g gf a [])]⟩ (nk+1)
    |false=>C7
   |_,_=>C7
  |_=>C7
theorem o0[C4 N P](f:o.op= .makeMap t C7)(e:∀j,nk<=j->Rr j=C7)(h:pX P nk t k=Ac r):A1 P C S Rr nk o k r:=by
 unfold pX at h;split at h;· grind
 ·rename_i d c;obtain rfl:=C4.eq (N:=N) (P:=P) c;split at h
  ·split at h;· rename_i q n b;refine .new h (Afi (e nk (Aae _)) λη H O a p _=>?_) λ_ _=>trivial;rw[f];refine(Aho (mkS b)).mono ?_;rintro v i l ⟨B,rfl,rfl,rfl⟩;exact⟨rfl,_, .map (Ac B),rfl,⟨B,AA _ _ _,d,mkS b,[],c,λ_=>rfl,λ_ h=>h,rfl,trivial⟩,(AA _ _ _).symm,rfl⟩
   ·rename_i q n b;refine .new h (Afi (e nk (Aae _)) λη H O a p _=>?_) λ_ _=>trivial;rw[f];refine(Aho (mkI b)).mono ?_;rintro v i l ⟨B,rfl,rfl,rfl⟩;exact⟨rfl,_, .map (Ac B),rfl,⟨B,AA _ _ _,d,mkI b,[],c,λ_=>rfl,λ_ h=>h,rfl,trivial⟩,(AA _ _ _).symm,rfl⟩
   ·split at h;· rename_i m;refine .new h (Afi (e nk (Aae _)) λη H O a p _=>?_) λ_ _=>trivial;rw[f];refine(Aho (mkP (C4.laid N) m)).mono ?_;rintro v i l ⟨B,rfl,rfl,rfl⟩;exact⟨rfl,_, .map (Ac B),rfl,⟨B,AA _ _ _,d,mkP (C4.laid N) m,[],c,λ_=>rfl,λ_ h=>h,rfl,trivial⟩,(AA _ _ _).symm,rfl⟩
    grind
   grind
  grind
theorem mP{η:Nat->BZ}{m:(gf.den N.T)}{v:BZ}(h:(SV.d gf m:SV N.T).is C η H v):v= .agg #[.int .i64 m.1, .int .i64 m.2]:=by obtain⟨g,i,c⟩:=h;have c:v= .agg g.toArray:=c;obtain⟨d,f,e,a,b⟩:=i;have a:d=[.int .i64 m.1]:=a;have b:f=[.int .i64 m.2]:=b;grind
def qd(
     P:GN) (C:List (SV N.T)) (S:Nat->SV N.T) (Rr:Nat->Option (SR N.T)) (nk:Nat) (t:Gq) (x y:DQ) (ok:Bool) (k:Bx N.T->Nat->Option R):Option R:=match Ax S x with
 | .mp b=>match Rr b,P.underlying t with
  |some (
      .map g i e l),Ac (.map h f)=>match Hh g h,zdK N P f e with
   |true,Ac z=>match i,l with
    | .str,l=>match Th (Ax S y)with
     |some m=>Ag (m.length<=Ah) (match ok with
      |true=>k ⟨.t2 (.d e ((AB (κ:=Aq) l m).getD z)) (.d .bool (AB (κ:=Aq) l m).isSome),[b],[]⟩ nk
      |false=>k ⟨.d e ((AB (κ:=Aq) l m).getD z),[b],[]⟩ nk)
     |none=>C7
    | .int .i64,l=>match intOf (Ax S y)with
     |some (.i64,m)=>Aa .i64 m (match ok with
      |true=>k ⟨.t2 (.d e ((AB (κ:=Int) l m).getD z)) (.d .bool (AB (κ:=Int) l m).isSome),[b],[]⟩ nk
      |false=>k ⟨.d e ((AB (κ:=Int) l m).getD z),[b],[]⟩ nk)
     |_=>C7
    | .st (.pr (.int .i64) (.int .i64)),l=>match TK C gf (Ax S y)with
     |some m=>Ag (DW (gg m).1/\DW (gg m).2) (match ok with
      |true=>k ⟨.t2 (.d e ((AB (κ:=Int×Int) l (gg m)).getD z)) (.d .bool (AB (κ:=Int×Int) l (gg m)).isSome),[b],[]⟩ nk
      |false=>k ⟨.d e ((AB (κ:=Int×Int) l (gg m)).getD z),[b],[]⟩ nk)
     |none=>C7
    |_,_=>C7
   |_,_=>C7
  |_,_=>C7
 |_=>C7
theorem Kx{c:Ty}{κ:Type} [DecidableEq κ]{l:List (κ×c.den N.T)}{f:List (κ×BZ)}(h:Eu c H l f){z:c.den N.T}{g:BZ}(j:FW c H z g)(m:κ):
  FW c H ((AB l m).getD z) ((AB f m).getD g)/\(AB f m).isSome=(AB l m).isSome:=by
 rcases h.get m with⟨d,e⟩|⟨_,_,d,e,i⟩;all_goals grind
theorem o9[C4 N P]{ok:Bool}(E:o.op= .lookup t x y ok)(h:qd P C S Rr nk t x y ok k=Ac r):A1 P C S Rr nk o k r:=by
 have Z:∀ {η:Nat->BZ} {H:Hp} {a:Act},(∀x∈o.op.operands,(Ax S x).is C η H (a.eval x))->(Ax S x).is C η H (a.eval x):=λc=>c x (by grind[af]);have G:∀ {η:Nat->BZ} {H:Hp} {a:Act},(∀x∈o.op.operands,(Ax S x).is C η H (a.eval x))->(Ax S y).is C η H (a.eval y):=λc=>c y (by grind[af]);unfold qd at h;split at h
 ·rename_i b hs;have F:∀ {η:Nat->BZ} {H:Hp} {a:Act},(∀x∈o.op.operands,(Ax S x).is C η H (a.eval x))->a.eval x=η b:=λ{η H a} c=>by
   have:(SV.mp b:SV N.T).is C η H (a.eval x):=by simp_all
   exact this.1
  split at h
  ·rename_i g kt vt l g' et W J;split at h
   ·rename_i z Y hz;have:=AI Y;subst this;obtain⟨n,by_,zv,q,I⟩:=n5 hz;split at h
    ·rename_i l;split at h
     ·rename_i m V;obtain⟨hc,h⟩:=AE h;have key:∀(η:Nat->BZ) (H:Hp) (O:List Aw) (a:Act),(∀x∈o.op.operands,(Ax S x).is C η H (a.eval x))->(∀k∈[b],∀s,Rr k=Ac s->s= .gone\/∃(x:Aw) (i:Nat),O[i]?=Ac x/\s.is C η H k x)->
        ∃u e,FW vt H ((AB (κ:=Aq) l m).getD z) u/\e=(AB (κ:=Aq) l m).isSome/\Au P (.lookup t x y Bp) o.type (EV a) H O (.tuple #[u, .bool e])/\Au P (.lookup t x y Aj) o.type (EV a) H O u:=λη H O a c j=>by
       rcases j b (by simp) _ W with e|⟨X,i,d,B,Q,P',K,ms,f,T,D,rfl,U⟩;· grind
       obtain rfl:=C4.eq (N:=N) (P:=P) f;obtain⟨L,M⟩:=Kx U (I H) m;have v:EV a x=Ac (.map (Ac B)):=congrArg Ac ((F c).trans Q);have w:EV a y=Ac (K.val m):=congrArg Ac ((I3 V (G c)).trans (T m).symm);exact⟨_,_,L,M,Ahu J q v w (D m hc) d,Aht J q v w (D m hc) d⟩
      split at h;· refine .y h (Abu λη H O a c j=>?_) λ_ _=>trivial;obtain⟨u,e,d,rfl,f,_⟩:=key η H O a c j;exact⟨_,by rw[E];exact f,_,_,rfl,d,CS⟩
      ·refine .y h (Abu λη H O a c j=>?_) λ_ _=>trivial;obtain⟨u,e,d,rfl,_,f⟩:=key η H O a c j;exact⟨_,by rw[E];exact f,d⟩
     grind
    ·rename_i l;split at h
     ·rename_i m V;obtain⟨hc,_,h⟩:=BV h;have key:∀(η:Nat->BZ) (H:Hp) (O:List Aw) (a:Act),(∀x∈o.op.operands,(Ax S x).is C η H (a.eval x))->(∀k∈[b],∀s,Rr k=Ac s->s= .gone\/∃(x:Aw) (i:Nat),O[i]?=Ac x/\s.is C η H k x)->
        ∃u e,FW vt H ((AB (κ:=Int) l m).getD z) u/\e=(AB (κ:=Int) l m).isSome/\Au P (.lookup t x y Bp) o.type (EV a) H O (.tuple #[u, .bool e])/\Au P (.lookup t x y Aj) o.type (EV a) H O u:=λη H O a c j=>by
       rcases j b (by simp) _ W with e|⟨X,i,d,B,Q,P',K,ms,f,T,D,rfl,U⟩;· cases e
       obtain rfl:=C4.eq (N:=N) (P:=P) f;obtain⟨L,M⟩:=Kx U (I H) m;have v:EV a x=Ac (.map (Ac B)):=congrArg Ac ((F c).trans Q);have w:EV a y=Ac (K.val m):=congrArg Ac ((AV V (G c)).trans (T m).symm);exact⟨_,_,L,M,Ahu J q v w (D m hc) d,Aht J q v w (D m hc) d⟩
      split at h;· refine .y h (Abu λη H O a c j=>?_) λ_ _=>trivial;obtain⟨u,e,d,rfl,f,_⟩:=key η H O a c j;exact⟨_,by rw[E];exact f,_,_,rfl,d,CS⟩
      ·refine .y h (Abu λη H O a c j=>?_) λ_ _=>trivial;obtain⟨u,e,d,rfl,_,f⟩:=key η H O a c j;exact⟨_,by rw[E];exact f,d⟩
     ·cases h
    ·rename_i l;split at h
     ·rename_i m V;obtain⟨hc,h⟩:=AE h;have key:∀(η:Nat->BZ) (H:Hp) (O:List Aw) (a:Act),(∀x∈o.op.operands,(Ax S x).is C η H (a.eval x))->(∀k∈[b],∀s,Rr k=Ac s->s= .gone\/∃(x:Aw) (i:Nat),O[i]?=Ac x/\s.is C η H k x)->
        ∃u e,FW vt H ((AB (κ:=Int×Int) l m).getD z) u/\e=(AB (κ:=Int×Int) l m).isSome/\Au P (.lookup t x y Bp) o.type (EV a) H O (.tuple #[u, .bool e])/\Au P (.lookup t x y Aj) o.type (EV a) H O u:=λη H O a c j=>by
       rcases j b (by simp) _ W with e|⟨X,i,d,B,Q,P',K,ms,f,T,D,rfl,U⟩;· cases e
       obtain rfl:=C4.eq (N:=N) (P:=P) f;obtain⟨L,M⟩:=Kx U (I H) m;have v:EV a x=Ac (.map (Ac B)):=congrArg Ac ((F c).trans Q);have w:EV a y=Ac (K.val m):=congrArg Ac ((mP (DK (t:=gf) V (G c))).trans (T m).symm);exact⟨_,_,L,M,Ahu J q v w (D m hc) d,Aht J q v w (D m hc) d⟩
      split at h;· refine .y h (Abu λη H O a c j=>?_) λ_ _=>trivial;obtain⟨u,e,d,rfl,f,_⟩:=key η H O a c j;exact⟨_,by rw[E];exact f,_,_,rfl,d,CS⟩
      ·refine .y h (Abu λη H O a c j=>?_) λ_ _=>trivial;obtain⟨u,e,d,rfl,_,f⟩:=key η H O a c j;exact⟨_,by rw[E];exact f,d⟩
     ·cases h
    grind
   grind
  grind
 grind
def f_(
     P:GN) (C:List (SV N.T)) (S:Nat->SV N.T) (Rr:Nat->Option (SR N.T)) (nk:Nat) (t:Gq) (x y u:DQ) (k:Bx N.T->Nat->Option R):Option R:=match Ax S x with
 | .mp b=>match Rr b,P.underlying t with
  |some (.map g d a l),Ac (.map c _)=>match Hh g c,TK C a (Ax S u)with
   |true,Ac z=>match d,l with
    | .str,l=>match Th (Ax S y)with
     |some m=>Ag (m.length<=Ah/\l.length<=Ah) (k ⟨.no,[],[(b, .map g .str a (Bw (κ:=Aq) l m z))]⟩ nk)
     |none=>C7
    | .int .i64,l=>match intOf (Ax S y)with
     |some (.i64,m)=>Aa .i64 m (Ag (l.length<=Ah) (k ⟨.no,[],[(b, .map g (.int .i64) a (Bw (κ:=Int) l m z))]⟩ nk))
     |_=>C7
    | .st (.pr (.int .i64) (.int .i64)),l=>match TK C gf (Ax S y)with
     |some m=>Ag ((DW (gg m).1/\DW (gg m).2)/\l.length<=Ah) (k ⟨.no,[],[(b, .map g gf a (Bw (κ:=Int×Int) l (gg m) z))]⟩ nk)
     |none=>C7
    |_,_=>C7
   |_,_=>C7
  |_,_=>C7
 |_=>C7
theorem Z5[C4 N P]{u:DQ}(c:o.op= .mapUpdate t x y u\/o.op= .insert t x y u)(h:f_ P C S Rr nk t x y u k=Ac r):A1 P C S Rr nk o k r:=by
 have Z:∀ {η:Nat->BZ} {H:Hp} {a:Act},(∀x∈o.op.operands,(Ax S x).is C η H (a.eval x))->(Ax S x).is C η H (a.eval x):=λd=>d x (by grind[af]);have I:∀ {η:Nat->BZ} {H:Hp} {a:Act},(∀x∈o.op.operands,(Ax S x).is C η H (a.eval x))->(Ax S y).is C η H (a.eval y):=λd=>d y (by grind[af]);have G:∀ {η:Nat->BZ} {H:Hp} {a:Act},(∀x∈o.op.operands,(Ax S x).is C η H (a.eval x))->(Ax S u).is C η H (a.eval u):=λd=>d u (by grind[af]);unfold f_ at h;split at h
 ·rename_i b hs;have F:∀ {η:Nat->BZ} {H:Hp} {a:Act},(∀x∈o.op.operands,(Ax S x).is C η H (a.eval x))->a.eval x=η b:=λ{η H a} d=>by
   have:(SV.mp b:SV N.T).is C η H (a.eval x):=by simp_all
   exact this.1
  split at h
  ·rename_i g kt M l g' et J L;split at h
   ·rename_i z Y hz;have:=AI Y;subst this;split at h
    ·split at h
     ·rename_i m V;obtain⟨⟨hc,e⟩,h⟩:=AE h;refine .set h J (Afy J (by simp) λη H O a X i d A f _=>?_) λ_ _=>trivial;obtain⟨B,f,U,K,ms,D,E,p,rfl,q⟩:=f;obtain rfl:=C4.eq (N:=N) (P:=P) D;have s:EV a x=Ac (.map (Ac B)):=congrArg Ac ((F d).trans f);have w:EV a y=Ac (K.val m):=congrArg Ac ((I3 V (I d)).trans (E m).symm);have W:FW M H z (a.eval u):=DK (t:=M) hz (G d);refine⟨_,⟨B,f,U,K,_,D,E,p,rfl,q.put (k:=m) W⟩,?_⟩;rcases c with c|c<;>rw[c];· exact(Ahp L s w rfl (p m hc) (by rw[q.len];exact e) A).mono λv Q T ⟨j,n⟩=>⟨j,n,trivial⟩
      ·exact(Ahn L s w rf (p m hc) (by rw[q.len];exact e) A).mono λv Q T ⟨j,n⟩=>⟨j,n,trivial⟩
     grind
    ·split at h
     ·rename_i m V;obtain⟨hc,_,h⟩:=BV h;obtain⟨e,h⟩:=AE h;refine .set h J (Afy J (by simp) λη H O a X i d A f _=>?_) λ_ _=>trivial;obtain⟨B,f,U,K,ms,D,E,p,rfl,q⟩:=f;obtain rfl:=C4.eq (N:=N) (P:=P) D;have s:EV a x=Ac (.map (Ac B)):=congrArg Ac ((F d).trans f);have w:EV a y=Ac (K.val m):=congrArg Ac ((AV V (I d)).trans (E m).symm);have W:FW M H z (a.eval u):=DK (t:=M) hz (G d);refine⟨_,⟨B,f,U,K,_,D,E,p,rfl,q.put (k:=m) W⟩,?_⟩;rcases c with c|c<;>rw[c];· exact(Ahp L s w rfl (p m hc) (by rw[q.len];exact e) A).mono λv Q T ⟨j,n⟩=>⟨j,n,trivial⟩
      ·exact(Ahn L s w rf (p m hc) (by rw[q.len];exact e) A).mono λv Q T ⟨j,n⟩=>⟨j,n,trivial⟩
     ·cases h
    ·split at h
     ·rename_i m V;obtain⟨⟨hc,e⟩,h⟩:=AE h;refine .set h J (Afy J (by simp) λη H O a X i d A f _=>?_) λ_ _=>trivial;obtain⟨B,f,U,K,ms,D,E,p,rfl,q⟩:=f;obtain rfl:=C4.eq (N:=N) (P:=P) D;have s:EV a x=Ac (.map (Ac B)):=congrArg Ac ((F d).trans f);have w:EV a y=Ac (K.val m):=congrArg Ac ((mP (DK (t:=gf) V (I d))).trans (E m).symm);have W:FW M H z (a.eval u):=DK (t:=M) hz (G d);refine⟨_,⟨B,f,U,K,_,D,E,p,rfl,q.put (κ:=Int×Int) (k:=gg m) W⟩,?_⟩;rcases c with c|c<;>rw[c];· exact(Ahp L s w rfl (p m hc) (by rw[q.len];exact e) A).mono λv Q T ⟨j,n⟩=>⟨j,n,trivial⟩
      ·exact(Ahn L s w rf (p m hc) (by rw[q.len];exact e) A).mono λv Q T ⟨j,n⟩=>⟨j,n,trivial⟩
     ·cases h
    grind
   grind
  grind
 grind
def qb(P:GN)(S:Nat->SV N.T)(Rr:Nat->Option (SR N.T))(nk:Nat)(x:DQ)(t:Gq)(k:Bx N.T->Nat->Option R):Option R:=match Ax S x with
 | .mp b=>match Rr b,P.underlying t with
  |some (.map g c _ l),Ac (.map a _)=>match Hh g a,c,l with
   |true, .str,l=>k ⟨.d (.int .i64) ((l.length:Nat):Int),[b],[]⟩ nk
   |true, .int .i64,l=>k ⟨.d (.int .i64) ((l.length:Nat):Int),[b],[]⟩ nk
   |_,_,_=>C7
  |_,_=>C7
 |_=>C7
theorem o7[C4 N P](s:o.op= .call {callee:= .builtin .len,args:= #[x],argTypes:= #[t]})(h:qb P S Rr nk x t k=Ac r):A1 P C S Rr nk o k r:=by
 have u:∀ {η:Nat->BZ} {H:Hp} {a:Act},(∀x∈o.op.operands,(Ax S x).is C η H (a.eval x))->(Ax S x).is C η H (a.eval x):=λd=>d x (by grind[af,gv]);unfold qb at h;split at h
 ·rename_i b F;have j:∀ {η:Nat->BZ} {H:Hp} {a:Act},(∀x∈o.op.operands,(Ax S x).is C η H (a.eval x))->a.eval x=η b:=λ{η H a} d=>by
   have:(SV.mp b:SV N.T).is C η H (a.eval x):=by grind
   exact this.1
  split at h
  ·rename_i g L M l J I w z;split at h
   ·rename_i l c;have:=AI c;subst this;refine .y h (Abu λη H O a d v=>?_) λ_ _=>trivial;rcases v b (by simp) _ w with e|⟨X,i,m,B,n,A,K,G,p,D,E,rfl,q⟩;· grind
    obtain rfl:=C4.eq (N:=N) (P:=P) p;refine⟨_,by rw[s];exact Ajf z (congrArg Ac ((j d).trans n)) m,?_⟩;rw[q.len];exact D6 trivial
   ·rename_i l c;have:=AI c;subst this;refine .y h (Abu λη H O a d v=>?_) λ_ _=>trivial;rcases v b (by simp) _ w with e|⟨X,i,m,B,n,A,K,G,p,D,E,rfl,q⟩;· cases e
    obtain rfl:=C4.eq (N:=N) (P:=P) p;refine⟨_,by rw[s];exact Ajf z (congrArg Ac ((j d).trans n)) m,?_⟩;rw[q.len];exact D6 trivial
   grind
  grind
 grind
end
end
section
variable {N : C9} {R : Type} {P : GN} {C : List (SV N.T)} {S : Nat -> SV N.T} {Rr : Nat -> Option (SR N.T)} {nk : Nat} {o : K7} {k : Bx N.T -> Nat -> Option R} {r : R}
section
variable{t:Gq}{H:Hp}{len:Nat}{ps:List (Nat×DQ)}{x:DQ}
theorem Aju{T:Gq}{E:DQ->Option BZ}{O:List GK.Aw}{e:Gq}{size bytes:Nat}{z:BZ}{cs:Array BZ}{vs:List (Nat×BZ)}(ht:P.underlying t=Ac (.slice e))(l:TI P e size bytes z)
  (j:len*size<=16777216) (h0:0<len*size) (h:YZ E ps=Ac vs) (u:ny (λi=>Ac (i*size,size)) ((Array.range (len*size)).map (z.cells[· %z.cells.size]!)) vs=Ac cs):
  BM P (.buildSlice t len ps.toArray) T E H O (λv m n=>m=H/\∃B,v= .slice (Ac ⟨B,0,C7⟩) len len/\n= .Ai B (.cells cs e (0,0))::O):= .Ao λa w o y _ s A=>by
 have p:(ps.toArray.map λ(i,x)=>(i,a.eval x)).toList=vs:=by simpa using HD s h
 have c:¬len*size>2^24:=by omega
 have g:¬len*size=0:=by omega
 refine⟨.slice (Ac ⟨w.heap.size,0,C7⟩) len len,w.alloc (.cells cs e),H,_,?_,Hp.le.refl H,⟨rf,_,rf,rf⟩,A.push (r:= .Ai w.heap.size (.cells cs e (0,0))) (IU.grownBy_alloc w _ C7) (heap_alloc_new w _) (λb q=>by grind[Aw.has])⟩;simp only[Kt,y,Instr.buildSlice,mZ,AX ht,iP,l.sizeOf,if_neg c,if_neg g,l.zeroValue,Sem.run_pure,p,u];rfl
def cW(S:Nat->SV N.T):Nat->List (Nat×DQ)->Option (SV N.T)
 |_,[]=>Ac .nl
 |i,(j,x)::b=>match Hh i j,Ax S x,cW S (i+1) b with
  |true, .AK f l a,Ac r=>Ac (.lf 1 (.AK f l a) r)
  |_,_,_=>C7
theorem WB{η:Nat->BZ}{H:Hp}{a:Act} :∀ {ps:List (Nat×DQ)} {i:Nat} {l:SV N.T} {cs:List BZ},cW S i ps=Ac l->(∀p∈ps,(Ax S p.2).is C η H (a.eval p.2))->cs.length=i+ps.length->
  ∃xs,ny (λi=>Ac (i*1,1)) cs.toArray (ps.map λp=>(p.1,a.eval p.2))=Ac (cs.take i++xs).toArray/\l.is C η H (.agg xs.toArray)/\xs.length=ps.length
 | [],i,l,cs,h,_,hc=>by cases h;refine⟨[],?_,rfl,rfl⟩;grind[ny,w8,Nat.le_of_eq]
 |(j,x)::ps,i,l,cs,h,t,hc=>by
  unfold cW at h;split at h
  ·rename_i f G F r A E B;cases h;have e:=AI A;subst e;have q:=t (i,x) (by simp);rw[E]at q;have s:(a.eval x).oneCell'=Bp:=by obtain⟨I,e,_⟩:=q;rw[e];rfl
   have b:=A9 s;simp only[Abn]at hc;have n:(a.eval x).cells.size=1:=by grind[Array.length_toList]
   have D:(Ct cs (i*1) (a.eval x).cells.toList).length=i+1+ps.length:=by grind[Ct]
   obtain⟨xs,v,w,z⟩:=WB B (λp m=>t p (by simp[m])) D;refine⟨a.eval x::xs,?_,⟨[a.eval x],xs,a.eval x,rfl,rfl,q,b,(λy u=>by simp at u;subst u;exact s),w⟩,by simp[z]⟩;rw[Aas,KC (off:=i*1) (size:=1) rfl n (by simp;omega)];rw[v];unfold Ct;rw[b,Acz,Ach (by simp;omega),Abm (by simp;omega)];simp
  grind
def bcK(P:GN)(S:Nat->SV N.T)(nk:Nat)(t:Gq)(len:Nat)(ps:List (Nat×DQ))(k:Bx N.T->Nat->Option R):Option R:=match P.underlying t with
 |some (.slice e)=>match Pw P e 1,Hh ps.length len&&(aX 0 len&&iT len 1000),cW S 0 ps with
  |true,Bp,Ac l=>match B_ l.AJ nk with
   |false=>k ⟨.px [nk] (.hc len),[],[(nk, .Ai e l)]⟩ (nk+1)
   |true=>C7
  |_,_,_=>C7
 |_=>C7
theorem v7(y:o.op= .buildSlice t len ps.toArray)(F:∀k∈CW C,k<nk)(G:∀j,nk<=j->Rr j=C7)(h:bcK P S nk t len ps k=Ac r):A1 P C S Rr nk o k r:=by
 have n:∀ {η:Nat->BZ} {H:Hp} {a:Act},(∀x∈o.op.operands,(Ax S x).is C η H (a.eval x))->∀p∈ps,(Ax S p.2).is C η H (a.eval p.2):=λs p K=>s p.2 (by grind[af]);unfold bcK at h;split at h;case h_2=>grind
 rename_i e L;split at h;case h_2=>grind
 rename_i l E w I;split at h;case h_2=>cases h
 rename_i J;simp only[AT]at w;obtain⟨i,m,c⟩:=w;have A:=AI i;subst A;have c:=Aax c;obtain⟨bytes,z,q⟩:=Dq E;refine .new h (Afi (G nk (Aae _)) λη H O a s U=>?_) λ_ _=>trivial;have d:(((Array.range (ps.length*1)).map (z.cells[· %z.cells.size]!)).toList:List BZ).length=0+ps.length:=by simp
 obtain⟨V,u,D,T⟩:=WB (C:=C) (η:=η) (H:=H) (a:=a) I (n s) d;rw[y];refine(Aju L q (by omega) (by simpa using m) (JN ps) u).mono ?_;rintro v M Q ⟨rfl,B,rfl,rfl⟩;exact⟨rfl,_,ptr B 0,rfl,⟨B,_,AA _ _ _,rfl,bZ F J D⟩,(show ps.length<=9223372036854775807 by omega),B,by simp[AA],rfl⟩
def qF(P:GN)(S:Nat->SV N.T)(nk:Nat)(t:Gq)(x y:DQ)(k:Bx N.T->Nat->Option R):Option R:=match P.underlying t,intOf (Ax S y),Ax S x with
 |some (.slice e),Ac (_,j), .px [b] (.hc n)=>match Pw P e 1 with
  |true=>Ag (0<=j/\j<(n:Int)) (k ⟨.loc b j.toNat,[],[]⟩ nk)
  |false=>C7
 |_,_,_=>C7
theorem pj{y:DQ}(g:o.op= .indexAddr t x y)(h:qF P S nk t x y k=Ac r):A1 P C S Rr nk o k r:=by
 have i:∀ {η:Nat->BZ} {H:Hp} {a:Act},(∀x∈o.op.operands,(Ax S x).is C η H (a.eval x))->(Ax S x).is C η H (a.eval x):=λc=>c x (by grind[af]);have l:∀ {η:Nat->BZ} {H:Hp} {a:Act},(∀x∈o.op.operands,(Ax S x).is C η H (a.eval x))->(Ax S y).is C η H (a.eval y):=λc=>c y (by grind[af]);unfold qF at h;split at h;case h_2=>cases h
 rename_i e D j b n A w z;split at h;case h_2=>cases h
 rename_i v;obtain⟨bytes,E,m⟩:=Dq v;obtain⟨⟨q,s⟩,h⟩:=AE h;refine .y h (Abu λη H O a c _=>?_) λ_ _=>trivial;obtain⟨_,B,d,p⟩:(SV.px [b] (.hc n):SV N.T).is C η H (a.eval x):=by rw[<-z];exact i c
 have d:η b=ptr B 0:=by simpa using d
 have u:=AV w (l c);refine⟨AL (a.eval x) (j.toNat*1),?_,B,d,?_⟩;· rw[g];exact Agi A m rfl (.inr ⟨_,_,p,Aae _⟩) (congrArg Ac u) ⟨q,s⟩
 ·rw[p,Acz];show AL (.slice (Ac ⟨B,0,C7⟩) n n) j.toNat= .pointer (Ac ⟨B,j.toNat,C7⟩);simp only[AL,xt,Abl];split;· rename_i h;rw[h]
  ·rfl
def qc(P:GN)(S:Nat->SV N.T)(nk:Nat)(x:DQ)(t:Gq)(k:Bx N.T->Nat->Option R):Option R:=match P.underlying t,Ax S x with
 |some (.slice _), .px [_] (.hc n)=>k ⟨.na n,[],[]⟩ nk
 |_,_=>C7
theorem o8(g:o.op= .call {callee:= .builtin .len,args:= #[x],argTypes:= #[t]})(h:qc P S nk x t k=Ac r):A1 P C S Rr nk o k r:=by
 have d:∀ {η:Nat->BZ} {H:Hp} {a:Act},(∀x∈o.op.operands,(Ax S x).is C η H (a.eval x))->(Ax S x).is C η H (a.eval x):=λf=>f x (by grind[af,gv]);unfold qc at h;split at h;case h_2=>grind
 rename_i e b n p m;refine .y h (Abu λη H O a f _=>?_) λ_ _=>trivial;obtain⟨j,B,q,i⟩:(SV.px [b] (.hc n):SV N.T).is C η H (a.eval x):=by grind
 exact⟨_,by rw[g];exact Au.len p (congrArg Ac i) (.inr ⟨_,_,rf,Aae _⟩),rf,j⟩
end
end
section
variable {P : GN}
section
variable{e:Gq}{n bytes:Nat}{z:BZ}
theorem Fh{d:Nat}{e:Gq}(c:P.underlying e=Ac .bool)(h1:P.cellsOf e=1)(w:IU)(xs ys:List Bool):∀(is:List Nat),(∀i∈is,i<xs.length/\i<ys.length)->
  (Op.eqItems (d+1) e (P.cellsOf e) (xs.map BZ.bool).toArray (ys.map BZ.bool).toArray is).run P w= .ok (is.all λi=>xs[i]?==ys[i]?) w
 | [],_=>by rfl
 |i::is,h=>by
  have b:=h i (by simp);have k:=Fh (d:=d) c h1 w xs ys is (λj g=>h j (by grind));have l:(part e (xs.map BZ.bool).toArray (i*P.cellsOf e)).run P w= .ok (.bool xs[i]) w:=by simp[part,Cg c,DL,h1,b.1]
  have m:(part e (ys.map BZ.bool).toArray (i*P.cellsOf e)).run P w= .ok (.bool ys[i]) w:=by simp[part,Cg c,DL,h1,b.2]
  have n:(ns (d+1) e (.bool xs[i]) (.bool ys[i])).run P w= .ok (xs[i]==ys[i]) w:=by simp[ns,AX c]
  simp only[Op.eqItems,mZ,l,m,n,iP];by_cases f:xs[i]=ys[i];all_goals simp_all
theorem T3{t:Gq}(ht:P.underlying t=Ac (.array n e))(f:P.underlying e=Ac .bool)(l:TI P e 1 bytes z)(w:IU)(xs ys:List Bool)(m:xs.length=n)(o:ys.length=n):
  (qn t (.agg (xs.map BZ.bool).toArray) (.agg (ys.map BZ.bool).toArray)).run P w= .ok (Dl (xs=ys)) w:=by
 obtain⟨i,b,k,_⟩:=l.ex;have c:P.cellsOf e=1:=by grind[GN.cellsOf]
 have key:∀d,(ns (d+1+1) t (.agg (xs.map BZ.bool).toArray) (.agg (ys.map BZ.bool).toArray)).run P w= .ok (Dl (xs=ys)) w:=λd=>by
  rw[run_equalIn_array w (d+1) _ _ ht b,Fh f c w xs ys _ (λi b=>by grind)];congr 1;rw[Aen];simp only[No,Abg,beq_iff_eq,decide_eq_true_iff];constructor
  ·intro h;apply Agc;intro j;by_cases g:j<n;· exact h j g
   ·rw[Aco (by omega),Aco (by omega)]
  grind
 grind[qn,Alu]
theorem Akp{T Tx Ty:Gq}{E:DQ->Option BZ}{H:Hp}{O:List Aw}{x y:DQ}{ne:Bool}{xs ys:List Bool}(i:P.eqGuardType P.depth Tx=Aj)(ht:P.underlying Tx=Ac (.array n e))(m:P.underlying e=Ac .bool)(p:TI P e 1 bytes z)(k:E x=Ac (.agg (xs.map BZ.bool).toArray))(l:E y=Ac (.agg (ys.map BZ.bool).toArray))(h1:xs.length=n)(h2:ys.length=n):
  Au P (.binOp (match ne with|true=> .neq|false=> .eql) Tx x y Ty) T E H O (.bool (match ne with|true=> !decide (xs=ys)|false=>Dl (xs=ys))):= .Ao λa w o j _ c _=>by
 have h:=T3 ht m p w xs ys h1 h2;cases ne with
 |false=>
  have f:=run_eqGuard_agg w .eql Tx x y (xs.map BZ.bool).toArray (ys.map BZ.bool).toArray i;simp_all[binOp,bool,decide,pure,qn,Kt]
 |true=>
  have f:=run_eqGuard_agg w .neq Tx x y (xs.map BZ.bool).toArray (ys.map BZ.bool).toArray i;simp_all[binOp,bool,decide,pure,qn,Kt]
end
end
section
variable {N : C9} {R : Type} {P : GN} {C : List (SV N.T)} {S : Nat -> SV N.T} {Rr : Nat -> Option (SR N.T)} {nk : Nat} {o : K7} {k : Bx N.T -> Nat -> Option R} {r : R}
section
variable{t:Gq}{x y:DQ}
def KM:Ty->Option Nat
 | .bool=>Ac 1
 | .st t=>KM t
 | .pr a b=>match KM a,KM b with
  |some x,Ac y=>Ac (x+y)
  |_,_=>C7
 |_=>C7
def FM:(t:Ty)->t.den N.T->List Bool
 | .bool,x=>[x]
 | .st t,x=>FM t x
 | .pr a b,x=>FM a x.1++FM b x.2
 |_,_=>[]
theorem E9{H:Hp} :∀ {t:Ty} {x:t.den N.T} {n:Nat} {cs:List BZ},KM t=Ac n->(N.c t).BP H x cs->cs=(FM t x).map BZ.bool/\(FM t x).length=n
 | .bool,x,_,cs,h,d=>by cases h;trivial
 | .st t,x,_,cs,h,d=>E9 (t:=t) h d
 | .pr a b,x,_,cs,h,d=>by
  unfold KM at h;split at h;· rename_i p q s u;obtain⟨v,w,rfl,l,m⟩:=d;obtain⟨f,g⟩:=E9 s l;obtain⟨i,j⟩:=E9 u m;grind[FM]
  grind
def ji(P:GN)(t:Gq):Bool:=match P.underlying t with
 |some (.array _ e)=>match P.underlying e with
  |some .bool=>Bp
  |_=>Aj
 |_=>Aj
def iD(P:GN)(C:List (SV N.T))(S:Nat->SV N.T)(nk:Nat)(ne:Bool)(t:Gq)(x y:DQ)(k:Bx N.T->Nat->Option R):Option R:=match P.underlying t,L_ N P t with
 |some (.array n e),Ac (.st u)=>match P.underlying e,Pw P e 1,P.eqGuardType P.depth t with
  |some .bool,Bp,Aj=>match KM u,two C (.st u) (Ax S x) (Ax S y)with
   |some m,Ac (a,b)=>match Hh m n with
    |true=>k ⟨.d .bool (match ne with|true=> !decide (FM u a=FM u b)|false=>Dl (FM u a=FM u b)),[],[]⟩ nk
    |false=>C7
   |_,_=>C7
  |_,_,_=>C7
 |_,_=>C7
theorem Z9{ne:Bool}{u:Gq}(i:o.op= .binOp (match ne with|true=> .neq|false=> .eql) t x y u)(h:iD P C S nk ne t x y k=Ac r):A1 P C S Rr nk o k r:=by
 have j:∀ {η:Nat->BZ} {H:Hp} {a:Act},(∀x∈o.op.operands,(Ax S x).is C η H (a.eval x))->(Ax S x).is C η H (a.eval x):=λd=>d x (by simp_all[af]);have l:∀ {η:Nat->BZ} {H:Hp} {a:Act},(∀x∈o.op.operands,(Ax S x).is C η H (a.eval x))->(Ax S y).is C η H (a.eval y):=λd=>d y (by rw[i];simp[af]);unfold iD at h;split at h;case h_2=>cases h
 rename_i n e s G T;split at h;case h_2=>cases h
 rename_i E I F;split at h;case h_2=>cases h
 rename_i m a b q B;split at h;case h_2=>cases h
 rename_i D;have v:=AI D;subst v;obtain⟨bytes,z,p⟩:=Dq I;refine .y h (Abu λη H O L d _=>?_) λ_ _=>trivial;obtain⟨⟨M,f,w⟩,Q,g,A⟩:=Pr B (j d) (l d);obtain⟨f,J⟩:=E9 (t:=s) q f;obtain⟨g,K⟩:=E9 (t:=s) q g;subst f;subst g;exact⟨_,by rw[i];exact Akp (ne:=ne) F G E p (congrArg Ac w) (congrArg Ac A) J K,CS⟩
def iI(c:Ty):Nat->(t:Ty)->t.den N.T->Option (List (c.den N.T))
 |n+2, .pr a b,x=>match Qp N.T a c,iI c (n+1) b x.2 with
  |some f,Ac l=>Ac (f x.1::l)
  |_,_=>C7
 |1,t,x=>(Qp N.T t c).map λf=>[f x]
 |_,_,_=>C7
theorem SJ{c:Ty}{H:Hp} :∀ {n:Nat} {t:Ty} {x:t.den N.T} {l:List (c.den N.T)} {cs:List BZ},iI c n t x=Ac l->(N.c t).BP H x cs->A2 (N.c c) H l cs/\l.length=n
 |n+2, .pr a b,x,l,cs,h,i=>by
  unfold iI at h;split at h;· rename_i f y g u;cases h;obtain⟨d,rfl⟩:=BB g;have e:=Adn d;subst e;obtain⟨m,p,rfl,q,s⟩:=i;obtain⟨v,w⟩:=SJ u s;exact⟨⟨m,p,rfl,q,v⟩,by grind⟩
  grind
 |1,t,x,l,cs,h,i=>by obtain⟨f,g,rfl⟩:=Pd.1 h;obtain⟨d,rfl⟩:=BB g;have e:=Adn d;subst e;exact⟨⟨cs,[],by simp,i,rfl⟩,rfl⟩
def rX(P:GN)(S:Nat->SV N.T)(nk:Nat)(t:Gq)(x y:DQ)(k:Bx N.T->Nat->Option R):Option R:=match P.underlying t,intOf (Ax S y),Ax S x with
 |some (.array n e),Ac (_,j), .d (.st u) z=>match P.underlying e,L_ N P e with
  |some d,Ac a=>match a.agg&&DL d&&Pw P e (a.sz N),iI a n u z with
   |true,Ac l=>Ag (0<=j/\j<(n:Int)) (Ab (idx l j) λz=>k ⟨.d a z,[],[]⟩ nk)
   |_,_=>C7
  |_,_=>C7
 |_,_,_=>C7
theorem P6{c:Ty}{H:Hp} :∀ {l:List (c.den N.T)} {cs:List BZ} {i:Nat} {z:c.den N.T},A2 (N.c c) H l cs->l[i]?=Ac z->(N.c c).BP H z ((cs.drop (i*c.sz N)).take (c.sz N))
 | [],_,_,_,_,h=>by grind
 |a::l,_,0,z,⟨j,m,e,b,d⟩,h=>by cases h;subst e;rw[Aeh,Aff,Ach (by grind[Bg]),Abm (by grind[Bg])];omega
 |a::l,_,i+1,z,⟨j,m,e,b,d⟩,h=>by have:=P6 (i:=i) d (by trivial);grind[Nat.succ_mul,Nat.add_comm,Bg,xe,List.drop_left]
theorem pE(g:o.op= .index t x y)(h:rX P S nk t x y k=Ac r):A1 P C S Rr nk o k r:=by
 have i:∀ {η:Nat->BZ} {H:Hp} {a:Act},(∀x∈o.op.operands,(Ax S x).is C η H (a.eval x))->(Ax S x).is C η H (a.eval x):=λb=>b x (by rw[g];simp[af]);have m:∀ {η:Nat->BZ} {H:Hp} {a:Act},(∀x∈o.op.operands,(Ax S x).is C η H (a.eval x))->(Ax S y).is C η H (a.eval y):=λb=>b y (by rw[g];simp[af]);unfold rX at h;split at h;case h_2=>cases h
 rename_i n e W j u U M K L;split at h;case h_2=>cases h
 rename_i d B I Q;split at h;case h_2=>cases h
 rename_i l w J;simp only[AT]at w;obtain⟨⟨D,E⟩,F⟩:=w;obtain⟨bytes,X,p⟩:=Dq F;obtain⟨hc,h⟩:=AE h;obtain⟨z,q,h⟩:=Bi h;refine .y h (Abu λη H O a b _=>?_) λ_ _=>trivial;obtain⟨v,G,f⟩:(SV.d (.st u) U:SV N.T).is C η H (a.eval x):=by rw[<-L];exact i b
 have f:a.eval x= .agg v.toArray:=f;obtain⟨T,V⟩:=SJ J G;have s:l[j.toNat]?=Ac z:=by unfold idx at q;rw[if_pos hc.1]at q;exact q
 refine⟨_,by rw[g];exact Au.qH M I E p (congrArg Ac f) (congrArg Ac (AV K (m b))) hc,(v.drop (j.toNat*B.sz N)).take (B.sz N),P6 T s,?_⟩;simp_all[CL]
end
end
section
variable {N : C9} {R : Type} {P : GN} {C : List (SV N.T)} {S : Nat -> SV N.T} {Rr : Nat -> Option (SR N.T)} {nk : Nat} {o : K7} {k : Bx N.T -> Nat -> Option R} {r : R}
section
variable{x:DQ}{t T:Gq}{E:DQ->Option BZ}{H:Hp}{O:List Aw}{y z:DQ}
theorem fA(s:Aq)(i j:Nat):(⟨⟨s⟩⟩:ByteArray).extract i j=⟨⟨(s.drop i).take (j-i)⟩⟩:=by apply ByteArray.ext;simp
theorem Akv{s:Aq}{k d:Lo}{i j:Int}(ht:P.underlying t=Ac .string)(g:E x=Ac (sv s))(l:E y=Ac (.int k i))(m:E z=Ac (.int d j))(h0:0<=i)(h1:i<=j)(h2:j<=(s.length:Nat)):
  Au P (.slice t x (Ac y) (Ac z) C7) T E H O (sv ((s.drop i.toNat).take (j.toNat-i.toNat))):= .Ao λa w o f _ c _=>by
 have:=run_slice_string (P:=P) w t ⟨⟨s⟩⟩ k d i j ht h0 h1 h2;simp_all[sv,Kt,fA,run_sliceAt_string]
def oJ(P:GN)(S:Nat->SV N.T)(nk:Nat)(t:Gq)(x y z:DQ)(k:Bx N.T->Nat->Option R):Option R:=match P.underlying t,Th (Ax S x),intOf (Ax S y),intOf (Ax S z)with
 |some .string,Ac s,Ac (_,i),Ac (_,j)=>Ag ((0<=i/\i<=j)/\j<=((s.length:Nat):Int)) (k ⟨.d .str ((s.drop i.toNat).take (j.toNat-i.toNat)),[],[]⟩ nk)
 |_,_,_,_=>C7
theorem oU(c:o.op= .slice t x (Ac y) (Ac z) C7)(h:oJ P S nk t x y z k=Ac r):A1 P C S Rr nk o k r:=by
 have d:∀ {η:Nat->BZ} {H:Hp} {a:Act},(∀x∈o.op.operands,(Ax S x).is C η H (a.eval x))->(Ax S x).is C η H (a.eval x):=λb=>b x (by grind[af]);have e:∀ {η:Nat->BZ} {H:Hp} {a:Act},(∀x∈o.op.operands,(Ax S x).is C η H (a.eval x))->(Ax S y).is C η H (a.eval y):=λb=>b y (by grind[af]);have f:∀ {η:Nat->BZ} {H:Hp} {a:Act},(∀x∈o.op.operands,(Ax S x).is C η H (a.eval x))->(Ax S z).is C η H (a.eval z):=λb=>b z (by grind[af]);unfold oJ at h;split at h;case h_2=>grind
 rename_i s w i A j v u p q;obtain⟨⟨⟨g,l⟩,m⟩,h⟩:=AE h;exact .y h (Abu λη H O a b _=>⟨_,by rw[c];exact Akv v (congrArg Ac (I3 u (d b))) (congrArg Ac (AV p (e b))) (congrArg Ac (AV q (f b))) g l m,[_],rfl,rfl⟩) λ_ _=>trivial
theorem wT(n:Int):UE .u64 (n %18446744073709551616):=by show(0:Int)<=_/\_<=(18446744073709551615:Int);omega
def cwK(P:GN)(S:Nat->SV N.T)(nk:Nat)(s d:Gq)(x:DQ)(k:Bx N.T->Nat->Option R):Option R:=match P.underlying s,P.underlying d,intOf (Ax S x)with
 |some (.int .i64),Ac (.int .u64),Ac (.i64,n)=>k ⟨.d (.int .u64) (n %18446744073709551616),[],[]⟩ nk
 |_,_,_=>C7
theorem vY{s d:Gq}(c:o.op= .convert s d x)(h:cwK P S nk s d x k=Ac r):A1 P C S Rr nk o k r:=by
 have b:∀ {η:Nat->BZ} {H:Hp} {a:Act},(∀x∈o.op.operands,(Ax S x).is C η H (a.eval x))->(Ax S x).is C η H (a.eval x):=λl=>l x (by grind[af]);unfold cwK at h;split at h;case h_2=>grind
 rename_i n j f i;exact .y h (Abu λη H O a g _=>⟨_,by rw[c];exact Ajb j f (congrArg Ac (AV i (b g))),by exact D6 (wT n)⟩) λ_ _=>trivial
theorem Aik{Tx:Gq}{c:Lo}{n:Int}(f:E x=Ac (.int c n)):Au P (.unOp .neg Tx x) T E H O (.int c (c.wrap (-n))):= .Ao λa w o e _ d _=>by simp_all[Kt,Op.unary,Op.intArith]
def pR(S:Nat->SV N.T)(nk:Nat)(x:DQ)(k:Bx N.T->Nat->Option R):Option R:=match intOf (Ax S x)with
 |some (.u64,n)=>k ⟨.d (.int .u64) ((-n) %18446744073709551616),[],[]⟩ nk
 |_=>pS S nk x k
theorem oY(b:o.op= .unOp .neg t x)(h:pR S nk x k=Ac r):A1 P C S Rr nk o k r:=by
 have c:∀ {η:Nat->BZ} {H:Hp} {a:Act},(∀x∈o.op.operands,(Ax S x).is C η H (a.eval x))->(Ax S x).is C η H (a.eval x):=λe=>e x (by grind[af]);unfold pR at h;split at h;· rename_i n d;exact .y h (Abu λη H O a g _=>⟨_,by rw[b];exact Aik (congrArg Ac (AV d (c g))),by exact D6 (wT _)⟩) λ_ _=>trivial
 grind[oZ]
end
end
end Go.GV

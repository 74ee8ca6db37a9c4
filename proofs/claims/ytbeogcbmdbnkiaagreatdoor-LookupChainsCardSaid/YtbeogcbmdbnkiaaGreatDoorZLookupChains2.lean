/- Part 2 of the texts of this claim: what its theorem leans on. -/
import Derived.Test.YtbeogcbmdbnkiaaGreatDoorZLookupChains1
import Derived.Lib.AppendZerosOnto
import Derived.Laws.Runes
import Derived.ArgAppend
import Derived.Laws.IdiomStrings
import Derived.Laws.CopyRow
import Derived.RangeFuncRecord
import Derived.Laws.Strings2
set_option linter.all false
open Option renaming some→Ac,none→C7
open Bool renaming false→Ap,true→Br
open Go renaming Value→BU,Operand→Dc,TypeId→Ee,Program→Ge,World→GD,execOp→ID,Oper→J5,IntKind→Kj
namespace Go.GV
open Go Go.GK
section
variable {N : C6} {R : Type} {P : Ge} {C : List (SV N.T)} {S : Nat -> SV N.T} {Rr : Nat -> Option (SR N.T)} {nk : Nat} {o : J5} {k : Bq N.T -> Nat -> Option R} {r : R}
def Oy(k:Kj)(m n:Int):Int:=k.wrap ((BitVec.ofInt k.bits m&&&BitVec.ofInt k.bits n).toNat:Int)
def Xc(k:Kj)(m n:Int):Int:=k.wrap ((BitVec.ofInt k.bits m|||BitVec.ofInt k.bits n).toNat:Int)
def Tt(k:Kj)(m n:Int):Int:=m.fdiv (2^min n.toNat k.bits)
def NG(k:Kj)(m n:Int):Int:=m*2^min n.toNat k.bits
def qe(b:BinOp)(a:Kj)(m n:Int)(nk:Nat)(k:Bq N.T->Nat->Option R):Option R:=match b with
 | .add=>Aa a (m+n) (k ⟨.d (.int a) (m+n),[],[]⟩ nk)
 | .sub=>Aa a (m-n) (k ⟨.d (.int a) (m-n),[],[]⟩ nk)
 | .mul=>Aa a (m*n) (k ⟨.d (.int a) (m*n),[],[]⟩ nk)
 | .lss=>k ⟨.d .bool (decide (m<n)),[],[]⟩ nk
 | .leq=>k ⟨.d .bool (decide (m<=n)),[],[]⟩ nk
 | .gtr=>k ⟨.d .bool (decide (n<m)),[],[]⟩ nk
 | .geq=>k ⟨.d .bool (decide (n<=m)),[],[]⟩ nk
 | .eql=>k ⟨.d .bool (decide (m=n)),[],[]⟩ nk
 | .neq=>k ⟨.d .bool (decide (m≠n)),[],[]⟩ nk
 | .quo=>Af (n≠0) (Aa a (m.tdiv n) (k ⟨.d (.int a) (m.tdiv n),[],[]⟩ nk))
 | .rem=>Af (n≠0) (Aa a (m.tmod n) (k ⟨.d (.int a) (m.tmod n),[],[]⟩ nk))
 | .and=>Aa a (Oy a m n) (k ⟨.d (.int a) (Oy a m n),[],[]⟩ nk)
 | .or=>Aa a (Xc a m n) (k ⟨.d (.int a) (Xc a m n),[],[]⟩ nk)
 | .shr=>Af (0<=n) (Aa a (Tt a m n) (k ⟨.d (.int a) (Tt a m n),[],[]⟩ nk))
 | .shl=>Af (0<=n) (Aa a (NG a m n) (k ⟨.d (.int a) (NG a m n),[],[]⟩ nk))
 |_=>C7
section
variable {H : Hp} {O : List Av} {E : Dc -> Option BU} {T Tx Ty : Ee} {x y : Dc} {kk : Kj} {m n : Int}
section
variable{a b:Au}
theorem Air(e:E x=Ac (.int kk m))(f:E y=Ac (.int kk n))(h0:n≠0)(h:kk.min<=m.tdiv n/\m.tdiv n<=kk.max):Aq P (.binOp .quo Tx x y Ty) T E H O (.int kk (m.tdiv n)):= .Am λa w o d _ c _=>by simp_all[ID,eqGuard,binOp,Op.intDiv,DH]
theorem Aiq(e:E x=Ac (.int kk m))(f:E y=Ac (.int kk n))(h0:n≠0):Aq P (.binOp .rem Tx x y Ty) T E H O (.int kk (m.tmod n)):= .Am λa w o d _ c _=>by simp_all[ID,eqGuard,binOp,Op.intDiv]
theorem Aq.Oy(e:E x=Ac (.int kk m))(f:E y=Ac (.int kk n)):Aq P (.binOp .and Tx x y Ty) T E H O (.int kk (Oy kk m n)):= .Am λa w o d _ c _=>by simp_all[ID,eqGuard,binOp,Op.intBits,GV.Oy]
theorem Aq.Xc(e:E x=Ac (.int kk m))(f:E y=Ac (.int kk n)):Aq P (.binOp .or Tx x y Ty) T E H O (.int kk (Xc kk m n)):= .Am λa w o d _ c _=>by simp_all[ID,eqGuard,binOp,Op.intBits,GV.Xc]
theorem Aq.Tt(e:E x=Ac (.int kk m))(f:E y=Ac (.int kk n))(h0:0<=n):Aq P (.binOp .shr Tx x y Ty) T E H O (.int kk (Tt kk m n)):= .Am λa w o d _ c _=>by simp[ID,d,c x _ e,c y _ f,eqGuard,binOp,Op.shift,GV.Tt,Ahb.2 h0]
theorem Aq.NG(e:E x=Ac (.int kk m))(f:E y=Ac (.int kk n))(h0:0<=n)(h:kk.min<=NG kk m n/\NG kk m n<=kk.max):Aq P (.binOp .shl Tx x y Ty) T E H O (.int kk (NG kk m n)):= .Am λa w o d _ c _=>by have:=DH h;unfold GV.NG at this;simp[ID,d,c x _ e,c y _ f,eqGuard,binOp,Op.shift,GV.NG,Ahb.2 h0,this]
theorem Akq(f:E x=Ac (sv a))(g:E y=Ac (sv b)):Aq P (.binOp .leq Tx x y Ty) T E H O (.bool (Op.bytesLess a b||decide (a=b))):= .Am λi w o e _ d _=>by
 have h:(a==b)=decide (a=b):=by grind
 simp_all[sv,ID,eqGuard,binOp,Op.stringOp]
theorem Aku(f:E x=Ac (sv a))(g:E y=Ac (sv b)):Aq P (.binOp .gtr Tx x y Ty) T E H O (.bool (!(Op.bytesLess a b||decide (a=b)))):= .Am λi w o e _ d _=>by
 have h:(a==b)=decide (a=b):=by grind
 simp_all[sv,ID,eqGuard,binOp,Op.stringOp]
theorem Akt(f:E x=Ac (sv a))(g:E y=Ac (sv b)):Aq P (.binOp .geq Tx x y Ty) T E H O (.bool (!Op.bytesLess a b)):= .Am λh w o e _ d _=>by simp_all[sv,ID,eqGuard,binOp,Op.stringOp]
theorem Aq.neg(f:E x=Ac (.int kk n))(h:kk.min<=0-n/\0-n<=kk.max):Aq P (.unOp .neg Tx x) T E H O (.int kk (0-n)):= .Am λa w o e _ d _=>by simp_all[ID,Op.unary,Op.intArith,DH]
end
end
section
variable{s:SV N.T}{η:Nat->BU}{H:Hp}{v:BU}{x:Dc}{t:Ee}
def uI(b:BinOp)(m n:Au)(nk:Nat)(k:Bq N.T->Nat->Option R):Option R:=match b with
 | .eql=>k ⟨.d .bool (decide (m=n)),[],[]⟩ nk
 | .neq=>k ⟨.d .bool (!decide (m=n)),[],[]⟩ nk
 | .lss=>k ⟨.d .bool (Op.bytesLess m n),[],[]⟩ nk
 | .leq=>k ⟨.d .bool (Op.bytesLess m n||decide (m=n)),[],[]⟩ nk
 | .gtr=>k ⟨.d .bool (!(Op.bytesLess m n||decide (m=n))),[],[]⟩ nk
 | .geq=>k ⟨.d .bool (!Op.bytesLess m n),[],[]⟩ nk
 | .add=>Af (m.length+n.length<=Ag) (k ⟨.d .str (m++n),[],[]⟩ nk)
 |_=>C7
def iz(s:SV N.T):Option Bool:=dP N .bool s
def Um(s:SV N.T):Option Au:=dP N .str s
theorem Un{b:Bool}(h:iz s=Ac b)(a:s.is C η H v):v= .bool b:=Qj (IP (t:= .bool) h a)
theorem KH{b:Au}(h:Um s=Ac b)(a:s.is C η H v):v=sv b:=kK (IP (t:= .str) h a)
def nK:SV N.T->Option Int
 | .d (.int .u8) x=>Ac x
 |_=>C7
theorem YD{n:Int}(h:nK s=Ac n)(d:s.is C η H v):v= .int .u8 n/\0<=n/\n<=255:=by
 unfold nK at h;split at h;· cases h;obtain⟨e,b,a⟩:=d;obtain⟨rfl,c⟩:=DL.1 b;cases a;trivial
 grind
def ZG:SV N.T->Option Nat
 | .na n| .ct _ n| .cb _ n=>Ac n
 |_=>C7
theorem fA{n:Nat}(h:ZG s=Ac n)(a:s.is C η H v):v= .int .i64 n/\n<=QP:=by
 unfold ZG at h;split at h;· cases h;exact a
 ·cases h;exact a
 ·cases h;exact⟨a.1,Agy a.2⟩
 grind
def IL(b:BinOp)(x y:SV N.T):Option (SV N.T):=match b,x,y with
 | .lss, .ct i n, .na m=>Ac (.lt i n m)
 | .add, .cb _ n, .raw (.int .i64 1)=>Ac (.na (n+1))
 |_,_,_=>C7
theorem g_{b:BinOp}{x y:SV N.T}(h:IL b x y=Ac s):(∃i n m,b= .lss/\x= .ct i n/\y= .na m/\s= .lt i n m)\/(∃i n,b= .add/\x= .cb i n/\y= .raw (.int .i64 1)/\s= .na (n+1)):=by unfold IL at h;grind
def rp(
     P:Ge) (S:Nat->SV N.T) (nk:Nat) (b:BinOp) (t:Ee) (x y:Dc) (k:Bq N.T->Nat->Option R):Option R:=match IL b (Ay S x) (Ay S y)with
 |some s=>k ⟨s,[],[]⟩ nk
 |none=>match intOf (Ay S x),intOf (Ay S y)with
  |some (c,m),Ac (a,n)=>match kb c a with
   |true=>qe b c m n nk k
   |false=>C7
  |_,_=>match P.underlying t with
   |some .string=>match Um (Ay S x),Um (Ay S y)with
    |some m,Ac n=>uI b m n nk k
    |_,_=>C7
   |some .bool=>match iz (Ay S x),iz (Ay S y)with
    |some m,Ac n=>match b with
     | .eql=>k ⟨.d .bool (m==n),[],[]⟩ nk
     | .neq=>k ⟨.d .bool (!(m==n)),[],[]⟩ nk
     |_=>C7
    |_,_=>C7
   |_=>C7
theorem ok_int{b:BinOp}{t u:Ee}{x y:Dc}{i:Kj}{m n:Int}(v:o.op= .binOp b t x y u)(s:intOf (Ay S x)=Ac (i,m))(F:intOf (Ay S y)=Ac (i,n))(h:qe b i m n nk k=Ac r):AW P C S Rr nk o k r:=by
 have w:∀ {η:Nat->BU} {H:Hp} {a:Act},(∀x∈o.op.operands,(Ay S x).is C η H (a.eval x))->EV a x=Ac (.int i m):=λg=>congrArg Ac (AY s (g x (by grind[Op.operands])));have A:∀ {η:Nat->BU} {H:Hp} {a:Act},(∀x∈o.op.operands,(Ay S x).is C η H (a.eval x))->EV a y=Ac (.int i n):=λg=>congrArg Ac (AY F (g y (by grind[Op.operands])));have p:∀ {c:Bool},k ⟨.d .bool c,[],[]⟩ nk=Ac r->(∀(H:Hp) (O:List Av) (a:Act),EV a x=Ac (.int i m)->EV a y=Ac (.int i n)->Aq P o.op o.type (EV a) H O (.bool c))->AW P C S Rr nk o k r:=λh g=>
  .y h (Abw λη H O a s _=>⟨_,g H O a (w s) (A s),CL⟩) λ_ _=>trivial;have l:∀ {z:Int},Aa i z (k ⟨.d (.int i) z,[],[]⟩ nk)=Ac r->(∀(H:Hp) (O:List Av) (a:Act),EV a x=Ac (.int i m)->EV a y=Ac (.int i n)->i.min<=z/\z<=i.max->Aq P o.op o.type (EV a) H O (.int i z))->AW P C S Rr nk o k r:=λh g=>by
  obtain⟨B,D,E⟩:=BR h;exact .y E (Abw λη H O a s _=>⟨_,g H O a (w s) (A s) B,DN D⟩) λ_ _=>trivial
 rw[v]at p l;unfold qe at h;split at h;· grind[Aq.add]
 ·grind[Aq.sub]
 ·grind[Aq.mul]
 ·exact p h λH O a e f=>Aq.lss e f
 ·exact p h λH O a e f=>Aq.leq e f
 ·exact p h λH O a e f=>Aq.gtr e f
 ·exact p h λH O a e f=>Aq.geq e f
 ·exact p h λH O a e f=>Aq.eql e f
 ·exact p h λH O a e f=>Aq.neq e f
 ·obtain⟨q,h⟩:=AQ h;exact l h λH O a e f j=>Air e f q j
 ·obtain⟨q,h⟩:=AQ h;exact l h λH O a e f j=>Aiq e f q
 ·exact l h λH O a e f j=>Aq.Oy e f
 ·exact l h λH O a e f j=>Aq.Xc e f
 ·obtain⟨q,h⟩:=AQ h;exact l h λH O a e f j=>Aq.Tt e f q
 ·obtain⟨q,h⟩:=AQ h;exact l h λH O a e f j=>Aq.NG e f q j
 grind
theorem o0{b:BinOp}{t u:Ee}{x y:Dc}(l:o.op= .binOp b t x y u)(h:rp P S nk b t x y k=Ac r):AW P C S Rr nk o k r:=by
 have p:∀ {η:Nat->BU} {H:Hp} {a:Act},(∀x∈o.op.operands,(Ay S x).is C η H (a.eval x))->(Ay S x).is C η H (a.eval x):=λe=>e x (by grind[Op.operands]);have q:∀ {η:Nat->BU} {H:Hp} {a:Act},(∀x∈o.op.operands,(Ay S x).is C η H (a.eval x))->(Ay S y).is C η H (a.eval y):=λe=>e y (by grind[Op.operands]);unfold rp at h;split at h
 ·rename_i s hc;rcases g_ hc with⟨i,n,m,rfl,f,j,rfl⟩|⟨i,n,rfl,f,j,rfl⟩
  ·refine .y h (Abw λη H O a e _=>?_) λτ F=>?_;· have w:=p e;rw[f]at w;have z:=q e;rw[j]at z;refine⟨_,?_,rf,z.2⟩;rw[l];exact Aq.lss (congrArg Ac w.1) (congrArg Ac z.1)
   ·have:=LW (x:=x) F;rw[f]at this;trivial
  ·refine .y h (Abw λη H O a e _=>?_) λ_ _=>trivial;have w:=p e;rw[f]at w;have z:=q e;rw[j]at z;have G:=w.2;refine⟨.int .i64 ((n:Int)+1),?_,rf,G⟩;rw[l];exact Aq.add (congrArg Ac w.1) (congrArg Ac z) (T8 (by grind))
 ·split at h
  ·grind[OB,ok_int]
  ·split at h
   ·rename_i D;split at h
    ·rename_i m n e E;have A:∀ {η:Nat->BU} {H:Hp} {a:Act},(∀x∈o.op.operands,(Ay S x).is C η H (a.eval x))->EV a x=Ac (sv m):=λg=>congrArg Ac (KH e (p g));have B:∀ {η:Nat->BU} {H:Hp} {a:Act},(∀x∈o.op.operands,(Ay S x).is C η H (a.eval x))->EV a y=Ac (sv n):=λg=>congrArg Ac (KH E (q g));have v:∀ {c:Bool},k ⟨.d .bool c,[],[]⟩ nk=Ac r->(∀(H:Hp) (O:List Av) (a:Act),EV a x=Ac (sv m)->EV a y=Ac (sv n)->Aq P o.op o.type (EV a) H O (.bool c))->AW P C S Rr nk o k r:=λh g=>
      .y h (Abw λη H O a e _=>⟨_,g H O a (A e) (B e),CL⟩) λ_ _=>trivial;rw[l]at v;unfold uI at h;split at h;· exact v h λH O a f j=>Aie D f j
     ·exact v h λH O a f j=>Akr D f j
     ·exact v h λH O a f j=>Aid f j
     ·exact v h λH O a f j=>Akq f j
     ·exact v h λH O a f j=>Aku f j
     ·exact v h λH O a f j=>Akt f j
     ·obtain⟨I,J⟩:=AQ h;exact .y J (Abw λη H O a e _=>⟨sv (m++n),by rw[l];exact Aky (A e) (B e) I,[_],rfl,rfl⟩) λ_ _=>trivial
     trivial
    grind
   ·rename_i D;split at h
    ·rename_i m n e E;have A:∀ {η:Nat->BU} {H:Hp} {a:Act},(∀x∈o.op.operands,(Ay S x).is C η H (a.eval x))->EV a x=Ac (.bool m):=λg=>congrArg Ac (Un e (p g));have B:∀ {η:Nat->BU} {H:Hp} {a:Act},(∀x∈o.op.operands,(Ay S x).is C η H (a.eval x))->EV a y=Ac (.bool n):=λg=>congrArg Ac (Un E (q g));split at h;· exact .y h (Abw λη H O a e _=>⟨_,by rw[l];exact Ajx D (A e) (B e),CL⟩) λ_ _=>trivial
     ·exact .y h (Abw λη H O a e _=>⟨_,by rw[l];exact Ajv D (A e) (B e),CL⟩) λ_ _=>trivial
     ·cases h
    ·cases h
   grind
def pa(S:Nat->SV N.T)(nk:Nat)(x:Dc)(k:Bq N.T->Nat->Option R):Option R:=match Ay S x with
 | .lb b=>k ⟨.lb (!b),[],[]⟩ nk
 |s=>match iz s with
  |some b=>k ⟨.d .bool (!b),[],[]⟩ nk
  |none=>C7
theorem ox(e:o.op= .unOp .not t x)(h:pa S nk x k=Ac r):AW P C S Rr nk o k r:=by
 have c:∀ {η:Nat->BU} {H:Hp} {a:Act},(∀x∈o.op.operands,(Ay S x).is C η H (a.eval x))->(Ay S x).is C η H (a.eval x):=λd=>d x (by grind[Op.operands]);unfold pa at h;split at h;· rename_i b g;refine .y h (Abw λη H O a d _=>⟨.bool (!b),?_,rfl⟩) λ_ _=>trivial;have:=c d;rw[g]at this;rw[e];exact Aq.not (congrArg Ac this)
 ·split at h;· rename_i b f;exact .y h (Abw λη H O a d _=>⟨_,by rw[e];exact Aq.not (congrArg Ac (Un f (c d))),CL⟩) λ_ _=>trivial
  grind
def pn(S:Nat->SV N.T)(nk:Nat)(x:Dc)(k:Bq N.T->Nat->Option R):Option R:=match intOf (Ay S x)with
 |some (a,n)=>Aa a (0-n) (k ⟨.d (.int a) (0-n),[],[]⟩ nk)
 |none=>C7
theorem oB{t:Ee}{x:Dc}(d:o.op= .unOp .neg t x)(h:pn S nk x k=Ac r):AW P C S Rr nk o k r:=by
 have b:∀ {η:Nat->BU} {H:Hp} {a:Act},(∀x∈o.op.operands,(Ay S x).is C η H (a.eval x))->(Ay S x).is C η H (a.eval x):=λc=>c x (by grind[Op.operands]);unfold pn at h;split at h;· rename_i j n i;obtain⟨e,f,g⟩:=BR h;exact .y g (Abw λη H O a c _=>⟨_,by rw[d];exact Aq.neg (congrArg Ac (AY i (b c))) e,DN f⟩) λ_ _=>trivial
 grind
def pJ(P:Ge)(S:Nat->SV N.T)(Rr:Nat->Option (SR N.T))(nk:Nat)(x:Dc)(t:Ee)(k:Bq N.T->Nat->Option R):Option R:=match P.underlying t with
 |some (.slice _)=>match Ay S x with
  | .d (.sl _) l=>k ⟨.na l.length,[],[]⟩ nk
  | .AG b=>match Rr b with
   |some (.row _ _ l)=>k ⟨.na l.length,[b],[]⟩ nk
   |_=>C7
  | .raw (.slice C7 0 0)=>k ⟨.na 0,[],[]⟩ nk
  |_=>C7
 |some .string=>match Um (Ay S x)with
  |some s=>k ⟨.d (.int .i64) ((s.length:Nat):Int),[],[]⟩ nk
  |none=>C7
 |_=>C7
theorem oJ(q:o.op= .call {callee:= .builtin .len,args:= #[x],argTypes:= #[t]})(h:pJ P S Rr nk x t k=Ac r):AW P C S Rr nk o k r:=by
 have c:∀ {η:Nat->BU} {H:Hp} {a:Act},(∀x∈o.op.operands,(Ay S x).is C η H (a.eval x))->(Ay S x).is C η H (a.eval x):=λf=>f x (by grind[Op.operands,Call.operands]);unfold pJ at h;split at h
 ·rename_i e z;split at h
  ·rename_i I l j;refine .y h (Abw λη H O a f _=>?_) λ_ _=>trivial;obtain⟨cs,⟨v,rfl,G⟩,A⟩:(SV.d (.sl I) l:SV N.T).is C η H (a.eval x):=by grind
   have A:[v]=[a.eval x]:=A;cases A;exact⟨_,by rw[q];exact Aq.len z rfl G.sl,rfl,G.le⟩
  ·rename_i b j;split at h
   ·rename_i g I l U;refine .y h (λη H E a w Y p d hi f Z V K Q T=>?_) λ_ _=>trivial;rcases Z b (.inl (by simp)) _ U with e|⟨X,M,xs,L,hL⟩;· grind
    subst L;obtain⟨i,F,_⟩:=Iz E p M;have J:a.eval x=η b:=by
     have:(SV.AG b:SV N.T).is C η H (a.eval x):=by grind
     exact this.1
    have B:Aq P o.op o.type (EV a) H (Y.map (·.2)++E) (.int .i64 l.length):=by rw[q];exact Aq.len z (congrArg Ac J) (d.Mj F).1
    refine Afq (B a w o rfl rfl (λx u e=>by simpa using e) d) d λw' D=>?_;exact T _ w' H η Y (Hp.le.refl H) (λ_ _=>rfl) (λ_ _=>rfl) (λk sr h=>by cases h) p (λk W=> .inl W) D ⟨rfl,d.Mk F⟩
   grind
  ·rename_i j;refine .y h (Abw λη H O a f _=>?_) λ_ _=>trivial;have:=c f;rw[j]at this;exact⟨_,by rw[q];exact Aq.len (n:=0) z rfl (.inl ⟨this,rfl⟩),rfl,Abh _⟩
  grind
 ·rename_i z;split at h;· rename_i s j;exact .y h (Abw λη H O a f _=>⟨_,by rw[q];exact Aiy z (congrArg Ac (KH j (c f))),DN trivial⟩) λ_ _=>trivial
  ·cases h
 grind
def y_(P:Ge)(S:Nat->SV N.T)(nk:Nat)(s d:Ee)(x:Dc)(k:Bq N.T->Nat->Option R):Option R:=match P.underlying s,P.underlying d with
 |some (.int _),Ac (.int a)=>match nK (Ay S x),a with
  |some n, .i64=>k ⟨.d (.int .i64) n,[],[]⟩ nk
  |some n, .u8=>k ⟨.d (.int .u8) n,[],[]⟩ nk
  |_,_=>match ZG (Ay S x),a with
   |some n, .i64=>k ⟨.na n,[],[]⟩ nk
   |_,_=>match intOf (Ay S x)with
    |some (_,n)=>Aa a n (k ⟨.d (.int a) n,[],[]⟩ nk)
    |none=>C7
 |_,_=>C7
theorem mA{s d:Ee}(i:o.op= .convert s d x)(h:y_ P S nk s d x k=Ac r):AW P C S Rr nk o k r:=by
 have b:∀ {η:Nat->BU} {H:Hp} {a:Act},(∀x∈o.op.operands,(Ay S x).is C η H (a.eval x))->(Ay S x).is C η H (a.eval x):=λt=>t x (by grind[Op.operands]);unfold y_ at h;split at h
 ·rename_i w v l j;split at h;· rename_i n c;refine .y h (Abw λη H O a g _=>?_) λ_ _=>trivial;obtain⟨f,e⟩:=YD c (b g);exact⟨.int .i64 n,by rw[i];exact Aq.conv l j (congrArg Ac f) (T8 (by omega)),DN trivial⟩
  ·rename_i n c;refine .y h (Abw λη H O a g _=>?_) λ_ _=>trivial;obtain⟨f,e⟩:=YD c (b g);exact⟨.int .u8 n,by rw[i];exact Aq.conv l j (congrArg Ac f) (qp e),DN e⟩
  ·split at h;· rename_i n c _ _;refine .y h (Abw λη H O a g _=>?_) λ_ _=>trivial;obtain⟨f,e⟩:=fA c (b g);exact⟨.int .i64 n,by rw[i];exact Aq.conv l j (congrArg Ac f) (T8 (by grind)),rfl,e⟩
   ·split at h;· rename_i u n c;obtain⟨m,p,q⟩:=BR h;exact .y q (Abw λη H O a g _=>⟨_,by rw[i];exact Aq.conv l j (congrArg Ac (AY c (b g))) m,DN p⟩) λ_ _=>trivial
    grind
 grind
def qx(S:Nat->SV N.T)(nk:Nat)(x:Dc)(i:Nat)(k:Bq N.T->Nat->Option R):Option R:=match Ay S x,i with
 | .t2 a _,0=>k ⟨a,[],[]⟩ nk
 | .t2 _ b,1=>k ⟨b,[],[]⟩ nk
 | .t3 a _ _,0=>k ⟨a,[],[]⟩ nk
 | .t3 _ b _,1=>k ⟨b,[],[]⟩ nk
 | .t3 _ _ c,2=>k ⟨c,[],[]⟩ nk
 |_,_=>C7
def Ex:SV N.T->Bool
 | .ct _ _| .cb _ _| .lt _ _ _| .DU _ _ _ _ _=>Ap
 |_=>Br
theorem Dr{s:SV N.T}{τ:Nat->Nat}(h:Ex s=Br):DF τ Rr s:=by cases s<;>first|trivial|cases h
theorem oS{i:Nat}(u:o.op= .extract x i)(h:qx S nk x i (λs n=>match Ex s.sv with|true=>k s n|false=>C7)=Ac r):AW P C S Rr nk o k r:=by
 have q:∀ {η:Nat->BU} {H:Hp} {a:Act},(∀x∈o.op.operands,(Ay S x).is C η H (a.eval x))->(Ay S x).is C η H (a.eval x):=λd=>d x (by grind[Op.operands]);have f:∀ {s:SV N.T},(match Ex s with|true=>k ⟨s,[],[]⟩ nk|false=>C7)=Ac r->(∀ {η:Nat->BU} {H:Hp} {a:Act},(Ay S x).is C η H (a.eval x)->∃t v,a.eval x= .tuple t/\t[i]?=Ac v/\s.is C η H v)->AW P C S Rr nk o k r:=λ{s} h g=>by
  split at h;· rename_i D;refine .y h (Abw λη H O a d _=>?_) λ_ _=>Dr D;obtain⟨t,v,w,A,B⟩:=g (q d);exact⟨v,by rw[u];exact Aq.extract (congrArg Ac w) A,B⟩
  grind
 unfold qx at h;split at h;· rename_i a b j;exact f h λd=>by rw[j]at d;obtain⟨x,y,e,l,m⟩:=d;exact⟨_,_,e,rfl,l⟩
 ·rename_i a b j;exact f h λd=>by rw[j]at d;obtain⟨x,y,e,l,m⟩:=d;exact⟨_,_,e,rfl,m⟩
 ·rename_i a b c j;exact f h λd=>by rw[j]at d;obtain⟨x,y,z,e,l,m,p⟩:=d;exact⟨_,_,e,rfl,l⟩
 ·rename_i a b c j;exact f h λd=>by rw[j]at d;obtain⟨x,y,z,e,l,m,p⟩:=d;exact⟨_,_,e,rfl,m⟩
 ·rename_i a b c j;exact f h λd=>by rw[j]at d;obtain⟨x,y,z,e,l,m,p⟩:=d;exact⟨_,_,e,rfl,p⟩
 grind
end
end
section
variable{off:Nat}
theorem Wx(off:Nat)(l:List BU):∀(k:Nat) (acc:Array BU),(l.zipIdx k).foldl (λcs (p:BU×Nat)=>cs.setIfInBounds (off+p.2) p.1) acc=(l.zipIdx (off+k)).foldl (λcs (p:BU×Nat)=>cs.setIfInBounds p.2 p.1) acc:=by
 induction l with
 |nil=>simp
 |cons v l b=>
  grind[List.zipIdx_cons,Nat.add_assoc]
theorem eC{cs:Array BU}{v:Array BU}(h:off+v.size<=cs.size):(v.zipIdx.foldl (λcs (x:BU×Nat)=>match x with|(c,j)=>cs.setIfInBounds (off+j) c) cs)=(CG cs.toList off v.toList).toArray:=by
 have g:(v.zipIdx.foldl (λcs (x:BU×Nat)=>match x with|(c,j)=>cs.setIfInBounds (off+j) c) cs)=((v.toList.zipIdx 0).foldl (λcs (p:BU×Nat)=>cs.setIfInBounds (off+p.2) p.1) cs):=by grind[Array.toList_zipIdx]
 rw[g,Wx];apply Array.ext_getElem?;intro i;rw[Xo];simp only[Aha,Ahs,List.getElem?_toArray];unfold CG;have k:(cs.toList.take off).length=off:=by grind
 by_cases e:i<off;· grind
 ·by_cases f:i<off+v.size;· rw[if_pos ⟨by omega,f,by omega⟩,Aam,Aab (by omega),k,Aaa (by simp;omega)]
  ·rw[if_neg (by omega),Aab (by simp;omega),Afk];have:off+v.toList.length+(i-(cs.toList.take off++v.toList).length)=i:=by simp;omega
   rw[this];simp
theorem Kv{place:Nat->Option (Nat×Nat)}{cells:Array BU}{i size:Nat}{v:BU}{a:List (Nat×BU)}(d:place i=Ac (off,size))(e:v.cells.size=size)(c:off+v.cells.size<=cells.size):Instr.fill place cells ((i,v)::a)=Instr.fill place (CG cells.toList off v.cells.toList).toArray a:=by
 have:(v.cells.size≠size||decide (off+v.cells.size>cells.size))=Ap:=by grind
 simp only[Instr.fill,d];rw[this];simp only[Aee,if_false];rw[eC c]
theorem JA{a:Act} :∀ps:List (Nat×Dc),Yo (EV a) ps=Ac (ps.map λp=>(p.1,a.eval p.2))
 | []=>rfl
 |(i,x)::r=>by simp only[Yo,EV,JA r,Aap]
end
section
variable {N : C6} {R : Type} {P : Ge} {C : List (SV N.T)} {S : Nat -> SV N.T} {Rr : Nat -> Option (SR N.T)} {nk : Nat} {o : J5} {k : Bq N.T -> Nat -> Option R} {r : R}
section
variable{η:Nat->BU}{H:Hp}{t:Ee}
def R_(P:Ge)(C:List (SV N.T))(S:Nat->SV N.T)(place:Nat->Option (Nat×Nat×Ee)):List (Nat×Dc)->SV N.T->Option (SV N.T)
 | [],l=>Ac l
 |(i,x)::b,l=>match place i with
  |some (off,size,t)=>match Nat.ble off (RI l),eQ C l off (ve P t (Ay S x))with
   |true,Ac (a,n)=>match Nat.beq n size with
    |true=>R_ P C S place b a
    |false=>C7
   |_,_=>C7
  |none=>C7
theorem MU{place:Nat->Option (Nat×Nat×Ee)}{η:Nat->BU}{H:Hp}{a:Act} :∀ {ps:List (Nat×Dc)} {l d:SV N.T} {cs:List BU},R_ P C S place ps l=Ac d->l.is C η H (.agg cs.toArray)->(∀p∈ps,(Ay S p.2).is C η H (a.eval p.2))->
  ∃cs':List BU,Instr.fill (λi=>(place i).map λq=>(q.1,q.2.1)) cs.toArray (ps.map λp=>(p.1,a.eval p.2))=Ac cs'.toArray/\d.is C η H (.agg cs'.toArray)
 | [],l,d,cs,h,c,_=>by cases h;exact⟨cs,rfl,c⟩
 |(i,x)::ps,l,d,cs,h,c,m=>by
  unfold R_ at h;split at h
  ·rename_i off size t j;split at h
   ·rename_i A n f b;split at h;· rename_i v;have e:=AI v;subst e;obtain⟨w,y,z,B⟩:=U' b (Aar (Aba f) (RH c)) (TO (m (i,x) (by simp))) c;subst z;obtain⟨cs',s,u⟩:=MU h w λp g=>m p (by simp[g]);refine⟨cs',?_,u⟩;rw[Aap,Kv (off:=off) (size:=(a.eval x).cells.toList.length) (by simp[j]) (by simp) (by simpa using y)];omega
    grind
   grind
  grind
def vh:SV N.T->Bool
 | .lf _ a l=>match a with
  | .raw (.slice C7 0 0)=>Br
  | .AG _=>Br
  |_=>vh l
 |_=>Ap
def ue(P:Ge)(C:List (SV N.T))(t:Ee)(l:SV N.T):SV N.T:=match Lz N P t with
 |some a=>match a.agg with
  |true=>match vh l,JS N C 64 a l with
   |false,Ac (x, .nl)=> .d a x
   |_,_=>l
  |false=>l
 |none=>l
theorem b_{l:SV N.T}{cs:List BU}(h:l.is C η H (.agg cs.toArray)):(ue P C t l).is C η H (.agg cs.toArray):=by
 unfold ue;split
 ·split
  ·rename_i d;split
   ·rename_i x _ f;obtain⟨g,b,e,c,a⟩:=DW f h;have a:BU.agg b.toArray= .agg #[]:=a;have a:b=[]:=by simpa using a
    subst a;rw[Adc]at e;subst e;refine⟨cs,c,?_⟩;unfold Cu;rw[d]
   trivial
  omega
 omega
def tY(P:Ge)(fs:List Field)(i:Nat):Option (Nat×Nat×Ee):=match fs[i]? with
 |some f=>match P.info? f.type with
  |some a=>Ac (f.offset,a.size,f.type)
  |none=>C7
 |none=>C7
def rn(
     P:Ge) (C:List (SV N.T)) (S:Nat->SV N.T) (nk:Nat) (t:Ee) (ps:List (Nat×Dc)) (k:Bq N.T->Nat->Option R):Option R:=match P.info? t with
 |some c=>
       match c.zero with
  |some z=>match dT N P 64 [t] z.cells.toList with
   |some d=>match P.underlying t with
    |some (.struct f)=>match(placesOf P t).isSome,R_ P C S (tY P f.toList) ps d with
     |true,Ac l=>match Ex (ue P C t l)with
      |true=>k ⟨ue P C t l,[],[]⟩ nk
      |false=>C7
     |_,_=>C7
    |some (.array _ e)=>match P.info? e with
     |some b=>match b.zero.isSome,R_ P C S (λi=>Ac (i*b.size,b.size,e)) ps d with
      |true,Ac l=>match Ex (ue P C t l)with
       |true=>k ⟨ue P C t l,[],[]⟩ nk
       |false=>C7
      |_,_=>C7
     |none=>C7
    |_=>C7
   |none=>C7
  |none=>C7
 |none=>C7
theorem Mu:∀(l:List Field) (ps:List (Nat×Nat)),(l.mapM λf=>(P.info? f.type).map λi=>(f.offset,i.size))=Ac ps->∀i,ps[i]?=(tY P l i).map λq=>(q.1,q.2.1)
 | [],ps,h,i=>by grind[tY]
 |f::l,ps,h,i=>by
  cases a:P.info? f.type with
  |none=>grind
  |some c=>
   cases b:(l.mapM λf=>(P.info? f.type).map λi=>(f.offset,i.size))with
   |none=>grind
   |some d=>
    simp[a,b]at h;subst h;cases i with
    |zero=>grind[tY]
    |succ i=>
     have:=Mu l d b i;simpa [tY]using this
theorem oZ{ps:List (Nat×Dc)}(D:o.op= .build t ps.toArray)(h:rn P C S nk t ps k=Ac r):AW P C S Rr nk o k r:=by
 have m:∀ {η:Nat->BU} {H:Hp} {a:Act},(∀x∈o.op.operands,(Ay S x).is C η H (a.eval x))->∀p∈ps,(Ay S p.2).is C η H (a.eval p.2):=λs p I=>s p.2 (by grind[Op.operands]);unfold rn at h;split at h
 ·rename_i g G;split at h
  ·rename_i z J;split at h
   ·rename_i Q j;have n:TI P t g.size g.bytes z:=⟨g,G,rfl,rfl,J⟩;split at h
    ·rename_i F E;split at h
     ·rename_i l b B;split at h;· rename_i d;refine .y h (Abw λη H O a s _=>?_) λ_ _=>Dr d;have f:=J0 (C:=C) (η:=η) (H:=H) j;obtain⟨u,v,w⟩:=MU (a:=a) B f (m s);obtain⟨L,b⟩:=Abr.1 b;refine⟨.agg u.toArray,?_,b_ w⟩;rw[D];refine Ald (vcs:=_) (zs:=z.cells) b n rfl (JA ps) rfl ?_;rw[<-fill_eq];unfold placesOf at b;rw[E]at b;have e:(λi=>L[i]?)=λi=>(tY P F.toList i).map λq=>(q.1,q.2.1):=funext λi=>Mu _ _ b i;rw[e];simpa using v
      ·cases h
     ·cases h
    ·rename_i len e E;split at h
     ·rename_i K A;split at h
      ·rename_i l c B;split at h;· rename_i d;refine .y h (Abw λη H O a s _=>?_) λ_ _=>Dr d;have f:=J0 (C:=C) (η:=η) (H:=H) j;obtain⟨u,v,w⟩:=MU (a:=a) B f (m s);obtain⟨M,c⟩:=Abr.1 c;refine⟨.agg u.toArray,?_,b_ w⟩;rw[D];refine Aq.ra (zs:=z.cells) E n ⟨K,A,rfl,rfl,c⟩ rfl (JA ps) ?_;simpa using v
       ·cases h
      ·cases h
     ·cases h
    trivial
   grind
  grind
 grind
def eb(C:List (SV N.T)):Nat->SV N.T->Nat->Option (SV N.T)
 |0,_,_=>C7
 |b+1,l,n=>match Nat.beq n 0 with
  |true=>Ac .nl
  |false=>match l with
   | .lf s a r=>match Nat.ble s n with
    |true=>(eb C b r (n-s)).map (.lf s (res C a))
    |false=>C7
   |_=>C7
theorem UU{η:Nat->BU}{H:Hp} :∀ {fu:Nat} {l r:SV N.T} {n:Nat} {cs:List BU},eb C fu l n=Ac r->l.is C η H (.agg cs.toArray)->r.is C η H (.agg (cs.take n).toArray)/\n<=cs.length
 |0,_,_,_,_,h,_=>by cases h
 |fu+1,l,r,n,cs,h,m=>by
  unfold eb at h;split at h;· rename_i c;have:=AI c;cases h;simp_all[Aep,ZE,Abh]
  ·split at h
   ·split at h;· rename_i c;obtain⟨x,f,rfl⟩:=Pe.1 h;have c:=Aba c;obtain⟨t,v,u,rfl,e,g,d,i,j⟩:=Fj m;obtain⟨p,w⟩:=UU f j;grind[K1,Eu,List.take_append,List.take_of_length_le]
    grind
   grind
def wv(P:Ge)(t:Ee):Bool:=match P.underlying t with
 |some d=>DC d
 |none=>Ap
def pK(P:Ge)(C:List (SV N.T))(nk:Nat)(b off:Nat)(l:SV N.T)(t:Ee)(k:Bq N.T->Nat->Option R):Option R:=match P.underlying t,P.info? t with
 |some d,Ac c=>match DC d&&c.zero.isSome,Sh N 64 l off with
  |true,Ac e=>match eb C 64 e c.size with
   |some (.lf s a f)=>k ⟨.lf s a f,[b],[]⟩ nk
   |_=>C7
  |_,_=>C7
 |_,_=>C7
def fQ(P:Ge)(C:List (SV N.T))(S:Nat->SV N.T)(Rr:Nat->Option (SR N.T))(nk:Nat)(t:Ee)(x:Dc)(k:Bq N.T->Nat->Option R):Option R:=match Ay S x with
 | .loc b off=>match Rr b with
  |some (.Ah _ l)=>match wv P t with
   |false=>vv P C S Rr nk t x k
   |true=>match Ez N C l off (Lz N P t)with
    |some (.d _ _)=>vv P C S Rr nk t x k
    |_=>pK P C nk b off l t k
  |_=>C7
 |_=>vv P C S Rr nk t x k
theorem Zs{x:Dc}(j:o.op= .load t x)(v:∃τ,Nl Rr S τ)(h:fQ P C S Rr nk t x k=Ac r):AW P C S Rr nk o k r:=by
 have D:∀ {η:Nat->BU} {H:Hp} {a:Act},(∀x∈o.op.operands,(Ay S x).is C η H (a.eval x))->(Ay S x).is C η H (a.eval x):=λE=>E x (by grind[Op.operands]);unfold fQ at h;split at h
 ·rename_i b off Z;split at h
  ·rename_i g l U;have u:pK P C nk b off l t k=Ac r->AW P C S Rr nk o k r:=λh=>by
    unfold pK at h;split at h
    ·rename_i d c V W;split at h
     ·rename_i l1 F w;split at h
      ·rename_i s a l2 A;rw[AS]at F;obtain⟨z,G⟩:=Abr.1 F.2;refine .y h (Abw λη H O J E Y=>?_) λ_ _=>trivial;obtain⟨B,K,L⟩:(SV.loc b off:SV N.T).is C η H (J.eval x):=by rw[<-Z];exact D E
       rcases Y b (by simp) _ U with e|⟨X,i,Q,I,cs,p,M,T⟩;· cases e
       rw[K]at p;have p:B=I:=by simpa [ptr]using p
       subst p;subst M;obtain⟨k1,k2⟩:=MY (cs:=cs.toList) w T;obtain⟨k3,k4⟩:=UU A k1;have f:((cs.toList.drop off).take c.size).length=c.size:=by rw[Aas];exact Adl k4
       refine⟨.agg ((cs.toList.drop off).take c.size).toArray,?_,k3⟩;rw[j];exact Ajs V F.1 (by rw[f];exact⟨c,W,rf,rf,G⟩) (congrArg Ac L) Q (by rw[f])
      trivial
     grind
    grind
   grind[my]
  grind
 grind[my]
end
end
section
variable{Y:List (Nat×Av)}{k:Nat}{r:Av}{b j a:Nat}
def Ji(Y:List (Nat×Av))(k a:Nat)(r:Av):List (Nat×Av):=Y.map λp=>match Nat.beq p.1 k with
 |true=>(a,r)
 |false=>p
theorem ZH(Y:List (Nat×Av))(k a:Nat)(r:Av):(Ji Y k a r).map (·.2)=(H7 Y k r).map (·.2):=by grind[Ji,H7,List.map_map,List.map_congr_left]
theorem Ob(h:j∈keys (Ji Y k b r)):j=b\/(j∈keys Y/\j≠k):=by
 unfold keys Ji at h;rw[Aao]at h;obtain⟨p,c,e⟩:=By.1 h;simp only[Function.comp]at e;cases a:Nat.beq p.1 k with
 |true=>grind
 |false=>rw[a]at e;subst e;exact .inr ⟨By.2 ⟨p,c,rfl⟩,Abe a⟩
theorem fE(c:(keys Y).Nodup)(i:b∉keys Y):(keys (Ji Y k b r)).Nodup:=by
 induction Y with
 |nil=>exact c
 |cons p Y d=>
  obtain⟨q,y⟩:=p;simp only[keys,Aap,Abl,Aay,not_or]at c i;have d:=d c.2 i.2;have tail:∀j,j∈keys (Ji Y k b r)->j=b->k∈keys Y:=λj g e=>by
   unfold keys Ji at g;rw[Aao]at g;obtain⟨p,l,m⟩:=By.1 g;cases f:Nat.beq p.1 k with
   |true=>rw[<-AI f];exact By.2 ⟨p,l,rfl⟩
   |false=>grind
  show(keys ((match Nat.beq q k with|true=>(b,r)|false=>(q,y))::Ji Y k b r)).Nodup;cases f:Nat.beq q k with
  |true=>
   have:=AI f;subst this;exact Abl.2 ⟨λh=>c.1 (tail _ h rfl),d⟩
  |false=>
   refine Abl.2 ⟨λh=>?_,d⟩;rcases Ob h with e|⟨e,_⟩;· grind
   ·exact c.1 e
theorem ZI{x:Av}(h:Ax Y k=Ac x)(b:a∉keys Y):Ax (Ji Y k a r) a=Ac r:=by
 induction Y with
 |nil=>cases h
 |cons p Y d=>
  obtain⟨q,y⟩:=p;simp only[keys,Aap,Aay,not_or]at b;simp only[Ax]at h;show Ax ((match Nat.beq q k with|true=>(a,r)|false=>(q,y))::Ji Y k a r) a=Ac r;cases c:Nat.beq q k with
  |true=>grind[DV]
  |false=>
   rw[c]at h;rw[A6 (λe=>b.1 e.symm)];exact d h b.2
theorem fD(h1:j≠k)(h2:j≠a):Ax (Ji Y k a r) j=Ax Y j:=by
 induction Y with
 |nil=>rfl
 |cons p Y c=>
  obtain⟨q,y⟩:=p;show Ax ((match Nat.beq q k with|true=>(a,r)|false=>(q,y))::Ji Y k a r) j=Ax ((q,y)::Y) j;cases b:Nat.beq q k with
  |true=>
   have:=AI b;subst this;simp_all[A6,Ne.symm]
  |false=>
   grind[Ax,Ji,Nat.beq]
end
section
variable {N : C6} {R : Type} {P : Ge} {C : List (SV N.T)} {S : Nat -> SV N.T} {Rr : Nat -> Option (SR N.T)} {nk : Nat} {o : J5} {k : Bq N.T -> Nat -> Option R} {r : R}
section
variable{H:Hp}{t:Ee}{O:List Av}{a:Act}{T:Ee}{x:Dc}{e:Ee}{E:Dc->Option BU}{q:Dc}{n:Nat}{op:Op}{X:BU->Hp->List Av->Prop}{s:Dc}{η:Nat->BU}{p:Dc}
theorem Aih{sv:SV N.T}{E:List Nat}{k f:Nat}{q F:SR N.T}(X:Rr k=Ac q)(h0:q≠ .gone)(l:Rr f=C7)
  (h:∀(η:Nat->BU) (H:Hp) (O:List Av) (a:Act) (x:Av) (i:Nat),(∀x∈o.op.operands,(Ay S x).is C η H (a.eval x))->O[i]?=Ac x->q.is C η H k x->(∀k∈E,∀g,Rr k=Ac g->g= .gone\/∃(x:Av) (i:Nat),O[i]?=Ac x/\g.is C η H k x)->
   BJ P o.op o.type (EV a) H O (λv s A=>s=H/\∃p b,A=O.set i p/\F.is C (El η f b) H f p/\sv.is C (El η f b) H v)):
  Ao P C S Rr o ⟨sv,E,[(f,F),(k, .gone)]⟩:=by
 intro η H t a w Y y hs hi hx D d K Q V;have m:=d f (by simp[keys]) l;rcases D k (.inr (by simp[keys])) q X with e|⟨x,B,M⟩;· grind
 obtain⟨i,T,U⟩:=Iz t y B;refine h η H (Y.map (·.2)++t) a x i hx T M (λj c g z=>(D j (.inl c) g z).imp id λ⟨x,q1,q2⟩=>by obtain⟨i,q3,_⟩:=Iz t y q1;grind) a w o K Q rfl rfl (λx u e=>by grind) hs λv w' s A Z ⟨G,p,b,I,J,L⟩ n=>?_;subst G;subst I;rw[U,<-ZH Y k f]at n;refine V v w' s (El η f b) (Ji Y k f p) (Hp.le.refl _) (λj c=>Gw λe=>?_) (λj c=>fD (λe=>c (by subst e;simp[keys])) (λe=>c (by subst e;simp[keys]))) (λj g c=>?_) (fE y m) (λj c=>?_) n L;· subst e;exact c l (by simp[keys])
 ·simp only[Ax]at c;split at c;· rename_i W;have:=AI W;subst this;cases c;exact .inr ⟨p,ZI B m,J⟩
  ·split at c;· cases c;exact .inl rfl
   trivial
 ·rcases Ob c with e|⟨e,_⟩;· subst e;exact .inr (by simp[keys])
  ·exact .inl e
theorem AW.mov{sv:SV N.T}{a:List Nat}{b:Nat}{f c:SR N.T}(h:k ⟨sv,a,[(nk,c),(b, .gone)]⟩ (nk+1)=Ac r)(h0:Rr b=Ac f)(d:Ao P C S Rr o ⟨sv,a,[(nk,c),(b, .gone)]⟩)(e:∀τ Rr,DF τ Rr sv):AW P C S Rr nk o k r:=
 ⟨_,nk+1,h,d,Akb _,λj g i=>(by grind[keys]),λτ _=>e τ _⟩
def M7(P:Ge)(e:Ee):Nat:=match P.info? e with
 |some a=>match Nat.ble a.bytes 64 with
  |true=>Ag
  |false=>4294967296
 |none=>4294967296
def C9(P:Ge)(e:Ee)(n:Nat):Bool:=match P.info? e with
 |some a=>match a.zero with
  |some z=>(Nat.beq a.size n&&Nat.beq z.cells.size n)&&(Nat.ble a.bytes 16384&&(Nat.blt 0 n&&Nat.ble n 16777216))
  |none=>Ap
 |none=>Ap
theorem DT{e:Nat}(h:C9 P e n=Br):∃bytes z,TI P e n bytes z/\z.cells.size=n/\0<n/\(∀m,m<=M7 P e->m<=Ag/\m*bytes<=70368744177664)/\n<=16777216:=by
 unfold C9 at h;split at h
 ·rename_i a d;split at h
  ·rename_i z j;simp only[AS]at h;obtain⟨⟨f,g⟩,c,l,p⟩:=h;refine⟨a.bytes,z,⟨a,d,AI f,rfl,j⟩,AI g,by simp_all,λm b=>?_,by simp_all⟩;unfold M7 at b;rw[d]at b;simp only at b;have c:a.bytes<=16384:=Aba c;split at b;· rename_i i;have:=Aci b (Aba i);grind
   ·have:=Aci b c;grind
  grind
 grind
theorem BJ.G'{size:Nat}(h:BJ P op T E H (.row (.slice C7 0 0) e size 0 []::O) X):BJ P op T E H O X:=
 λa w o next Q d b c f k=>h a w o next Q d b c (f.G' e size) k
theorem BJ.emp(h:BJ P op T E H (.emp::O) X):BJ P op T E H O X:=
 λa w o next Q f c e g k=>h a w o next Q f c e (g.push (GD.grownBy.refl w C7) trivial (λb d=>by cases d)) k
def WQ(S:Nat->SV N.T)(Rr:Nat->Option (SR N.T))(b:Ty)(x:Dc):Option (List (b.den N.T)×List Nat):=match Ay S x with
 | .AG j=>match Rr j with
  |some (.row _ t2 a)=>(P6 N.T (.sl t2) (.sl b)).map λf=>(f a,[j])
  |_=>C7
 | .d (.sl t2) a=>(P6 N.T (.sl t2) (.sl b)).map λf=>(f a,[])
 |_=>C7
theorem LA{d:Ty}{s:List (d.den N.T)}{y:List Nat}(h:WQ S Rr d x=Ac (s,y))(m:(Ay S x).is C η H (a.eval x))(G:∀k∈y,∀t,Rr k=Ac t->t= .gone\/∃(x:Av) (i:Nat),O[i]?=Ac x/\t.is C η H k x):
  ∃ys,AZ (N.c d) H s ys/\∀w,SH w H O->GK.Src w (a.eval x) (d.sz N) s.length ys:=by
 unfold WQ at h;split at h
 ·rename_i j b;rw[b]at m;split at h
  ·rename_i g t2 l F;obtain⟨f,q,e⟩:=Pe.1 h;cases e;obtain⟨p,rfl⟩:=Bw q;have A:=Adx p;have n:t2=d:=by grind
   subst n;rcases G j (by simp) _ F with e|⟨X,i,c,ys,z,E⟩;· grind
   subst z;rw[<-m.1]at c;exact⟨ys,E,λw b=>b.nX c⟩
  grind
 ·rename_i t2 l b;rw[b]at m;obtain⟨f,q,e⟩:=Pe.1 h;cases e;obtain⟨p,rfl⟩:=Bw q;have A:=Adx p;have n:t2=d:=by grind
  subst n;obtain⟨J,c,D⟩:=m;subst D;obtain⟨v,I,c⟩:∃v,[a.eval x]=[v]/\GI (N.c t2) H l v:=c;cases I;obtain⟨⟨ys,u,B⟩,_⟩:=c;rw[Bk]at u;exact⟨ys,B,λw b=>b.To u⟩
 grind
def rG(P:Ge)(S:Nat->SV N.T)(Rr:Nat->Option (SR N.T))(nk:Nat)(s x:Dc)(t:Ee)(k:Bq N.T->Nat->Option R):Option R:=match P.underlying t with
 |some (.slice e)=>match Ay S s with
  | .AG b=>match Rr b with
   |some (.row g a l)=>match Nat.beq g e&&C9 P e (a.sz N),WQ S Rr a x with
    |true,Ac (c,f)=>Af (l.length+c.length<=M7 P e) (k ⟨.AG nk,f,[(nk, .row g a (l++c)),(b, .gone)]⟩ (nk+1))
    |_,_=>C7
   |_=>C7
  | .raw (.slice C7 0 0)=>match Lz N P e with
   |some a=>match C9 P e (a.sz N),WQ S Rr a x with
    |true,Ac (c,f)=>Af (([]:List (a.den N.T)).length+c.length<=M7 P e) (k ⟨.AG nk,f,[(nk, .row e a ([]++c))]⟩ (nk+1))
    |_,_=>C7
   |none=>C7
  |_=>C7
 |_=>C7
theorem Qs{b:Ty}{l f:List (b.den N.T)}{xs ys:List BU}{i:Nat}{v:BU}(ht:P.underlying t=Ac (.slice e))(p:C9 P e (b.sz N)=Br)(y:a.eval s=v)
  (hi:O[i]?=Ac (.row v e (b.sz N) l.length xs)) (D:AZ (N.c b) H l xs) (A:AZ (N.c b) H f ys) (d:∀w,SH w H O->GK.Src w (a.eval x) (b.sz N) f.length ys) (hc:l.length+f.length<=M7 P e):
  BJ P (.call {callee:= .builtin .append,args:= #[s,x],argTypes:= #[t,t]}) T (EV a) H O (λv' j m=>(j=H/\m=O.set i (.row v' e (b.sz N) (l++f).length (xs++ys)))/\v'.oneCell'=Br):=by
 obtain⟨bytes,z,B,h,n,q,_⟩:=DT p;obtain⟨hc,u⟩:=q _ hc;refine Agq i ((BJ.append ht B h n (congrArg Ac y) rfl hi d A.one (by omega) (by grind)).mono ?_) ?_;all_goals grind
theorem o8(I:o.op= .call {callee:= .builtin .append,args:= #[s,x],argTypes:= #[t,t]})(G:∀j,nk<=j->Rr j=C7)(h:rG P S Rr nk s x t k=Ac r):AW P C S Rr nk o k r:=by
 have q:∀ {η:Nat->BU} {H:Hp} {a:Act},(∀x∈o.op.operands,(Ay S x).is C η H (a.eval x))->(Ay S s).is C η H (a.eval s):=λf=>f s (by grind[Op.operands,Call.operands]);have u:∀ {η:Nat->BU} {H:Hp} {a:Act},(∀x∈o.op.operands,(Ay S x).is C η H (a.eval x))->(Ay S x).is C η H (a.eval x):=λf=>f x (by simp_all[Op.operands,Call.operands]);unfold rG at h;split at h
 ·rename_i e J;split at h
  ·rename_i b v;split at h
   ·rename_i g K l F;split at h;· rename_i Z rd p d;replace h:=AQ h;obtain⟨hc,h⟩:=h;rw[AS]at p;have T:=AI p.1;subst T;refine .mov h F (Aih F (by simp) (G nk (Aad _)) λη H O a X i f V W B=>?_) λ_ _=>trivial;obtain⟨xs,U,E⟩:=W;subst U;have y:=q f;rw[v]at y;obtain⟨L,z,m⟩:=LA d (u f) B;rw[I];refine(Qs J p.2 y.1 V E z m hc).mono ?_;rintro D M Q ⟨⟨rfl,rfl⟩,A⟩;exact⟨rfl,_,D,rfl,⟨_,by rw[AB],E.app z⟩,by rw[AB],A⟩
    grind
   grind
  ·rename_i v;split at h
   ·rename_i K Y;split at h
    ·rename_i Z rd p d;replace h:=AQ h;obtain⟨hc,h⟩:=h;refine .new h (Afv (G nk (Aad _)) λη H O a f B=>?_) λ_ _=>trivial;have y:=q f;rw[v]at y;obtain⟨L,z,m⟩:=LA d (u f) B;rw[I];refine BJ.G' ((Qs (i:=0) (l:=[]) (xs:=[]) J p y rfl rfl z (λw v=>m w ?_) hc).mono ?_);· have:=v.aW 1;simpa using this
     ·rintro D M Q ⟨⟨rfl,rfl⟩,A⟩;exact⟨rfl,_,D,rfl,⟨[]++L,by rw[AB],AZ.app (c:=N.c K) (l:=[]) (xs:=[]) rfl z⟩,by rw[AB],A⟩
    ·cases h
   trivial
  grind
 grind
theorem ZJ{c:Ty}{x:c.den N.T}{kl n:Kj}{m bytes:Nat}{z:BU}(ht:P.underlying t=Ac (.slice e))(I:TI P e (c.sz N) bytes z)(h:∀m,m<=M7 P e->m<=Ag/\m*bytes<=70368744177664)(h0:0<c.sz N)(V:a.eval p= .int kl (m:Int))(hc:a.eval q= .int n (m:Int))
  (l:m<=M7 P e) (j:(N.c c).BI H x z.cells.toList):
  BJ P (.makeSlice t p q) T (EV a) H O (λv s y=>(s=H/\∃xs,y= .row v e (c.sz N) (List.replicate m x).length xs::O/\AZ (N.c c) H (List.replicate m x) xs)/\v.oneCell'=Br):=by
 refine Agq 0 (.Am λM w o W _ U G=>?_) ?_
 ·obtain⟨i,F,A,Q,B⟩:=I.ex;obtain⟨l,E⟩:=h _ l;obtain⟨L,X,J,K⟩:=run_make_full (P:=P) (w:=w) 0 t e i z (c.sz N) ht F B A kl n m (by grind) (by simp only[maxLen,Ag]at*;omega) (Abh _);have D:AZ (N.c c) H (List.replicate m x) (madeCells z.cells (m*c.sz N)).toList:=by
   grind[Aii,Bk]
  refine⟨_,L,H,_,?_,Hp.le.refl H,⟨rf,_,by rw[Acq],D⟩,G.push (r:= .row (.slice (Ac ⟨w.heap.size,0,C7⟩) m m) e (c.sz N) m (madeCells z.cells (m*c.sz N)).toList) K J (λb h=>by grind[Av.has,BU.ownBlock])⟩;simp_all[ID]
 grind
def natI(y:Int)(k:Nat->Option R):Option R:=Af (0<=y) (k y.toNat)
def fB(s:SV N.T)(k:Nat->Option R):Option R:=match s with
 | .na n| .ct _ n| .cb _ n=>k n
 | .raw (.int _ (.ofNat n))=>k n
 | .d (.int _) y=>natI y k
 |_=>C7
theorem Oa{s:SV N.T}{c:Nat->Option R}(h:fB s c=Ac r):∃n,c n=Ac r/\∀ {η:Nat->BU} {H:Hp} {v:BU},s.is C η H v->∃b,v= .int b (n:Int):=by
 unfold fB at h;split at h;· exact⟨_,h,λa=>⟨_,a.1⟩⟩
 ·exact⟨_,h,λa=>⟨_,a.1⟩⟩
 ·exact⟨_,h,λa=>⟨_,a.1⟩⟩
 ·exact⟨_,h,λa=>⟨_,a⟩⟩
 ·rename_i b y;obtain⟨g,f⟩:=AQ (p:=(0:Int)<=(show Int from y)) h;refine⟨_,f,λa=>⟨b,?_⟩⟩;have e:=AY (C:=C) (s:= .d (.int b) y) rfl a;grind
 grind
def yK(P:Ge)(S:Nat->SV N.T)(nk:Nat)(t:Ee)(p q:Dc)(k:Bq N.T->Nat->Option R):Option R:=match P.underlying t with
 |some (.slice e)=>match Lz N P e,P.info? e with
  |some b,Ac a=>match a.zero with
   |some z=>match parse N 16 b z.cells.toList,C9 P e (b.sz N),sameO p q with
    |some (x,[]),Br,Br=>fB (Ay S p) λm=>Af (m<=M7 P e) (k ⟨.AG nk,[],[(nk, .row e b (List.replicate m x))]⟩ (nk+1))
    |_,_,_=>C7
   |none=>C7
  |_,_=>C7
 |_=>C7
 where
 sameO:Dc->Dc->Bool
  | .tmp i, .tmp j=>Nat.beq i j
  | .const (.int _ i), .const (.int _ j)=>match i,j with
   | .ofNat i, .ofNat j=>Nat.beq i j
   |_,_=>Ap
  |_,_=>Ap
theorem u5(T:o.op= .makeSlice t p q)(L:∀j,nk<=j->Rr j=C7)(h:yK P S nk t p q k=Ac r):AW P C S Rr nk o k r:=by
 have i:∀ {η:Nat->BU} {H:Hp} {a:Act},(∀x∈o.op.operands,(Ay S x).is C η H (a.eval x))->(Ay S p).is C η H (a.eval p):=λs=>s p (by grind[Op.operands]);unfold yK at h;split at h
 ·rename_i e U;split at h
  ·rename_i te u V M;split at h
   ·rename_i z W;split at h
    ·rename_i x l I b;obtain⟨m,h,Q⟩:=Oa (C:=C) h;replace h:=AQ h;obtain⟨hc,h⟩:=h;obtain⟨bytes,z',f,_,E,K,_⟩:=DT I;refine .new h (Afv (L nk (Aad _)) λη H O a s hr=>?_) λ_ _=>trivial;obtain⟨Y,n⟩:=Q (i s);have c:∃g,a.eval q= .int g (m:Int):=by
      unfold yK.sameO at b;split at b;· have:=AI b;subst this;exact⟨Y,n⟩
      ·split at b;· have:=AI b;subst this;injection n with h1 F;exact⟨_,by show BU.int _ _=_;rw[F]⟩
       ·cases b
      grind
     obtain⟨g,c⟩:=c;obtain⟨X,y,g1,g2,A⟩:=f.ex;have B:X=u:=by rw[M]at y;exact(Abo y).symm
     subst B;have D:z'=z:=by rw[W]at A;exact(Abo A).symm
     subst D;obtain⟨pre,w,d⟩:=CD (H:=H) l;rw[Adc]at w;rw[T];refine(ZJ U f K E n c hc (by rw[w];exact d)).mono ?_;rintro v H' O' ⟨⟨rfl,Z,rfl,J⟩,G⟩;exact⟨rfl,_,v,rfl,⟨Z,by rw[AB],J⟩,by rw[AB],G⟩
    grind
   grind
  grind
 grind
def gN(C:List (SV N.T))(S:Nat->SV N.T)(a:Ty):Nat->List (Nat×Dc)->Option (List (a.den N.T))
 |_,[]=>Ac []
 |i,(j,x)::ps=>match Nat.beq i j,Ta C a (Ay S x),gN C S a (i+1) ps with
  |true,Ac y,Ac l=>Ac (y::l)
  |_,_,_=>C7
theorem VX{f:Ty}{n:Nat}(g:f.sz N=n){η:Nat->BU}{H:Hp}{a:Act} :∀ {ps:List (Nat×Dc)} {i:Nat} {l:List (f.den N.T)} {cs:List BU},gN C S f i ps=Ac l->(∀p∈ps,(Ay S p.2).is C η H (a.eval p.2))->cs.length=(i+ps.length)*n->
  ∃xs,Instr.fill (λi=>Ac (i*n,n)) cs.toArray (ps.map λp=>(p.1,a.eval p.2))=Ac (cs.take (i*n)++xs).toArray/\AZ (N.c f) H l xs/\l.length=ps.length
 | [],i,l,cs,h,_,hc=>by cases h;refine⟨[],?_,rfl,rfl⟩;grind[Instr.fill]
 |(j,x)::ps,i,l,cs,h,m,hc=>by
  unfold gN at h;split at h
  ·rename_i y F v D w;cases h;have e:=AI v;subst e;obtain⟨q,E⟩:=C3 (Dm D (m (i,x) (by simp)));have b:=Bb q;rw[g]at b;simp only[Aav]at hc;have z:i*n+n<=cs.length:=by grind
   have B:(CG cs (i*n) (a.eval x).cells.toList).length=(i+1+ps.length)*n:=by grind[CG]
   obtain⟨xs,s,t,u⟩:=VX g w (λp A=>m p (by grind)) B;refine⟨(a.eval x).cells.toList++xs,?_,⟨_,xs,rfl,q,t⟩,by simp[u]⟩;rw[Aap,Kv (off:=i*n) (size:=n) rfl (by simpa using b) (by simp at b⊢;omega)];rw[s];rw[<-Aam];unfold CG;rw[Ack (by simp[b,Aej];omega),Abm (by simp[b,Aej];omega)]
  grind
def bsK(P:Ge)(C:List (SV N.T))(S:Nat->SV N.T)(nk:Nat)(t:Ee)(len:Nat)(ps:List (Nat×Dc))(k:Bq N.T->Nat->Option R):Option R:=match P.underlying t with
 |some (.slice e)=>match Lz N P e with
  |some a=>match C9 P e (a.sz N),Nat.beq ps.length len&&(Nat.blt 0 len&&Nat.ble (len*a.sz N) 16777216),gN C S a 0 ps with
   |true,Br,Ac l=>k ⟨.AG nk,[],[(nk, .row e a l)]⟩ (nk+1)
   |_,_,_=>C7
  |none=>C7
 |_=>C7
theorem u9{len:Nat}{ps:List (Nat×Dc)}(U:o.op= .buildSlice t len ps.toArray)(Q:∀j,nk<=j->Rr j=C7)(h:bsK P C S nk t len ps k=Ac r):AW P C S Rr nk o k r:=by
 have n:∀ {η:Nat->BU} {H:Hp} {a:Act},(∀x∈o.op.operands,(Ay S x).is C η H (a.eval x))->∀p∈ps,(Ay S p.2).is C η H (a.eval p.2):=λs p Y=>s p.2 (by grind[Op.operands]);unfold bsK at h;split at h
 ·rename_i e V;split at h
  ·rename_i w W;split at h
   ·rename_i l L f T;simp only[AS]at f;obtain⟨g,m,M⟩:=f;have I:=AI g;subst I;obtain⟨bytes,z,q,X,J,f,_⟩:=DT L;refine .new h (Afv (Q nk (Aad _)) λη H O a s Z=>?_) λ_ _=>trivial;have b:(((Array.range (ps.length*w.sz N)).map (z.cells[· %z.cells.size]!)).toList:List BU).length=(0+ps.length)*w.sz N:=by simp
    obtain⟨E,y,A,B⟩:=VX (C:=C) (η:=η) (H:=H) (a:=a) rfl T (n s) b;rw[Aet,Aep,Abp,Array.toArray_toList]at y;have u:=A.len;rw[Bk,B]at u;rw[U];refine BJ.emp ((Agq 0 (Aki (ρ:=λ_=>undef) (i:=0) 0 V q rfl (by omega) (by simpa using Nat.mul_pos (by simpa using m) J) (JA ps) y (by omega) rfl) ?_).mono ?_);· rintro v F G ⟨rfl,rfl,D⟩;refine⟨e,w.sz N,ps.length,E,?_⟩;rfl
    ·rintro v F G ⟨⟨rfl,rfl,D⟩,K⟩;rw[D];exact⟨rfl,_,v,rfl,⟨E,by rw[AB,B],A⟩,by rw[AB],K⟩
   grind
  grind
 grind
def qM(P:Ge)(S:Nat->SV N.T)(Rr:Nat->Option (SR N.T))(nk:Nat)(t:Ee)(x y:Dc)(k:Bq N.T->Nat->Option R):Option R:=match P.underlying t,Ay S x with
 |some (.slice e), .AG b=>match Rr b,intOf (Ay S y)with
  |some (.row g a l),Ac (_,h)=>match Nat.beq g e&&C9 P e (a.sz N)with
   |true=>Af (0<=h/\h<=((l.length:Nat):Int)) (k ⟨.AG nk,[],[(nk, .row g a (l.take h.toNat)),(b, .gone)]⟩ (nk+1))
   |false=>C7
  |_,_=>C7
 |_,_=>C7
theorem oT{y:Dc}(Q:o.op= .slice t x C7 (Ac y) C7)(K:∀j,nk<=j->Rr j=C7)(h:qM P S Rr nk t x y k=Ac r):AW P C S Rr nk o k r:=by
 have p:∀ {η:Nat->BU} {H:Hp} {a:Act},(∀x∈o.op.operands,(Ay S x).is C η H (a.eval x))->(Ay S x).is C η H (a.eval x):=λd=>d x (by grind[Op.operands]);have q:∀ {η:Nat->BU} {H:Hp} {a:Act},(∀x∈o.op.operands,(Ay S x).is C η H (a.eval x))->(Ay S y).is C η H (a.eval y):=λd=>d y (by grind[Op.operands]);unfold qM at h;split at h
 ·rename_i e b U T;split at h
  ·rename_i g te l ik L u M;split at h
   ·rename_i m;replace h:=AQ h;obtain⟨hc,h⟩:=h;rw[AS]at m;have D:=AI m.1;subst D;obtain⟨bytes,z,V,Y,h0,J,_⟩:=DT m.2;refine .mov h u (Aih u (by simp) (K nk (Aad _)) λη H O a X i d f F hr=>?_) λ_ _=>trivial;obtain⟨xs,E,I⟩:=F;subst E;have v:=p d;rw[T]at v;have W:=AY (C:=C) M (q d);rw[<-v.1,<-Bk]at f;have n:i<O.length:=(No.1 f).1;rw[Q];refine(Agq i (Akj (c:=N.c te) (l:=l) U (by rw[Bk];omega) rfl (congrArg Ac W) f hc) ?_).mono ?_;· rintro w A B ⟨rfl,rfl⟩;exact⟨_,_,_,_,by rw[List.getElem?_set_self n]⟩
    ·rintro w A B ⟨⟨rfl,rfl⟩,G⟩;have s:=I.take L.toNat;refine⟨rfl,_,w,rfl,⟨_,by rw[AB,Bk,Aas,Adl (by omega)],?_⟩,by rw[AB],G⟩;rw[Bk]at s;exact s
   grind
  grind
 grind
end
end
section
variable {N : C6} {R : Type} {P : Ge} {C : List (SV N.T)} {S : Nat -> SV N.T} {Rr : Nat -> Option (SR N.T)} {nk : Nat} {o : J5} {k : Bq N.T -> Nat -> Option R} {r : R}
section
variable{t tn:Ee}{x p q:Dc}
theorem bZ{e:Ee}{T:Ee}{a:Act}{d:Ty}{x:d.den N.T}{kn A:Kj}{m bytes:Nat}{z:BU}{H:Hp}{O:List Av}(ht:P.underlying t=Ac (.slice e))(y:P.underlying tn=Ac (.int kn))(hz:TI P e (d.sz N) bytes z)(j:z.cells.size=d.sz N)(Z:m+1<=Ag)(G:(m+1)*bytes<=140737488355328)
  (h0:0<d.sz N) (hp:a.eval p= .slice C7 0 0) (hq:a.eval q= .int A ((m+1:Nat):Int)) (h:(N.c d).BI H x z.cells.toList):
  BJ P (.call {callee:= .builtin .append,args:= #[p,q],argTypes:= #[t,tn]}) T (EV a) H O (λv B D=>(B=H/\∃xs,D= .row v e (d.sz N) (List.replicate (m+1) x).length xs::O/\AZ (N.c d) H (List.replicate (m+1) x) xs)/\v.oneCell'=Br):=by
 refine Agq 0 (.Am λE w o ho W I hs=>?_) ?_
 ·obtain⟨i,Y,g1,F,M⟩:=hz.ex;have J:=Go.Lib.run_append_grow_zeros (P:=P) w t tn T e i z A kn ht y Y M C7 0 0 [] (by rfl) (m+1) (by omega) (by omega) (by omega) (by grind) (by grind) (by grind[Builtin.nextslicecap]);have V:AZ (N.c d) H (List.replicate (m+1) x) (madeCells z.cells ((m+1)*d.sz N)).toList:=by
   grind[Aii,Bk]
  have L:Builtin.zeroCells z.cells (m+1)=madeCells z.cells ((m+1)*d.sz N):=by simp_all[Builtin.zeroCells,madeCells]
  have s:=grownCap_ge w (0+(m+1)) 0 e;have u:=grownCap_le_maxLen w (0+(m+1)) 0 e (by simp only[maxLen,Ag]at*;omega);have X:w.grownBy (w.drew.alloc (.cells (([]:List BU).toArray++Builtin.zeroCells z.cells (m+1)++Builtin.zeroCells z.cells (grownCap w (0+(m+1)) 0 e-(0+(m+1)))) e)) C7:=by have:=GD.grownBy_alloc w.drew (.cells (([]:List BU).toArray++Builtin.zeroCells z.cells (m+1)++Builtin.zeroCells z.cells (grownCap w (0+(m+1)) 0 e-(0+(m+1)))) e) C7;exact⟨this.os,this.tape,this.output,this.size,this.block⟩
  refine⟨.slice (Ac ⟨w.heap.size,0,C7⟩) (0+(m+1)) (grownCap w (0+(m+1)) 0 e),_,H,_,?_,Hp.le.refl H,⟨rf,_,by rw[Acq],V⟩,hs.push (r:= .row (.slice (Ac ⟨w.heap.size,0,C7⟩) (0+(m+1)) (grownCap w (0+(m+1)) 0 e)) e (d.sz N) (m+1) (madeCells z.cells ((m+1)*d.sz N)).toList) X ?_ (λb G=>by simp[Av.has,BU.ownBlock]at G;omega)⟩;· have Q:E.eval p= .slice C7 0 0:=I p _ (congrArg Ac hp);have U:E.eval q= .int A ((m+1:Nat):Int):=I q _ (congrArg Ac hq);simp only[ID,ho,resolve,invoke,builtin];simp[Q,U,resolve,invoke,builtin,W]at J⊢;rw[J];rfl
  ·refine⟨by simp[size_madeCells], .inr ⟨w.heap.size,grownCap w (0+(m+1)) 0 e,([]:List BU).toArray++Builtin.zeroCells z.cells (m+1)++Builtin.zeroCells z.cells (grownCap w (0+(m+1)) 0 e-(0+(m+1))),by rw[Abi],Abh _,(by show(w.heap.push _)[w.heap.size]?=_;simp),by omega,u,?_,?_⟩⟩;· simp[size_zeroCells,j];rw[<-Adm];congr 1;rw[Abi]at s;omega
   ·rw[L];simp[Aed,size_madeCells]
 grind
def rD(
     P:Ge) (S:Nat->SV N.T) (nk:Nat) (p q:Dc) (t tn:Ee) (k:Bq N.T->Nat->Option R):Option R:=match P.underlying t,P.underlying tn,Ay S p with
 |some (
     .slice e),Ac (.int _), .raw (.slice C7 0 0)=>match Lz N P e,P.info? e with
  |some b,Ac a=>match a.zero with
   |some z=>match parse N 16 b z.cells.toList,C9 P e (b.sz N)with
    |some (x,[]),Br=>fB (Ay S q) λm=>match m with
     |0=>C7
     |m+1=>Af (m+1<=M7 P e) (k ⟨.AG nk,[],[(nk, .row e b (List.replicate (m+1) x))]⟩ (nk+1))
    |_,_=>C7
   |none=>C7
  |_,_=>C7
 |_,_,_=>C7
theorem o5(l:o.op= .call {callee:= .builtin .append,args:= #[p,q],argTypes:= #[t,tn]})(T:∀j,nk<=j->Rr j=C7)(h:rD P S nk p q t tn k=Ac r):AW P C S Rr nk o k r:=by
 have n:∀ {η:Nat->BU} {H:Hp} {a:Act},(∀x∈o.op.operands,(Ay S x).is C η H (a.eval x))->(Ay S p).is C η H (a.eval p):=λd=>d p (by grind[Op.operands,Call.operands]);have s:∀ {η:Nat->BU} {H:Hp} {a:Act},(∀x∈o.op.operands,(Ay S x).is C η H (a.eval x))->(Ay S q).is C η H (a.eval q):=λd=>d q (by simp_all[Op.operands,Call.operands]);unfold rD at h;split at h
 ·rename_i e kn X w W;split at h
  ·rename_i te A Y U;split at h
   ·rename_i z hz;split at h
    ·rename_i x u K;obtain⟨m,h,V⟩:=Oa (C:=C) h;split at h;· cases h
     ·replace h:=AQ h;obtain⟨hc,h⟩:=h;obtain⟨bytes,z',g,y,I,M,_⟩:=DT K;obtain⟨i,Q⟩:=M _ hc;refine .new h (Afv (T nk (Aad _)) λη H O a d hr=>?_) λ_ _=>trivial;obtain⟨ik,Z⟩:=V (s d);have b:=n d;rw[W]at b;obtain⟨i',D,g1,g2,E⟩:=g.ex;have F:i'=A:=by rw[U]at D;exact(Abo D).symm
      subst F;have G:z'=z:=by rw[hz]at E;exact(Abo E).symm
      subst G;obtain⟨pre,B,f⟩:=CD (H:=H) u;rw[Adc]at B;rw[l];refine(bZ X w g y i (by omega) I b Z (by rw[B];exact f)).mono ?_;rintro v H' O' ⟨⟨rfl,xs,rfl,L⟩,J⟩;exact⟨rfl,_,v,rfl,⟨xs,by rw[AB],L⟩,by rw[AB],J⟩
    trivial
   grind
  grind
 grind
def qN(P:Ge)(S:Nat->SV N.T)(nk:Nat)(x:Dc)(t:Ee)(k:Bq N.T->Nat->Option R):Option R:=match P.underlying t,Ay S x with
 |some (.slice _), .raw (.slice C7 0 0)=>k ⟨.na 0,[],[]⟩ nk
 |_,_=>C7
theorem oU(f:o.op= .call {callee:= .builtin .cap,args:= #[x],argTypes:= #[t]})(h:qN P S nk x t k=Ac r):AW P C S Rr nk o k r:=by
 unfold qN at h;split at h;· rename_i e j i;refine .y h (Abw λη H O a l _=>?_) λ_ _=>trivial;have c:=l x (by grind[Op.operands,Call.operands]);rw[i]at c;refine⟨.int .i64 ((0:Nat):Int),?_,rfl,Abh _⟩;rw[f];refine Aq.Am λm w n d _ g _=>?_;have:=g x _ (congrArg Ac c);simp[ID,d,this,resolve,invoke,builtin,Builtin.cap_,AU j,goInt]
 grind
def qL(P:Ge)(S:Nat->SV N.T)(nk:Nat)(t:Ee)(x y:Dc)(k:Bq N.T->Nat->Option R):Option R:=match P.underlying t,Ay S x,Ay S y with
 |some (.slice e), .raw (.slice C7 0 0), .na 0=>match(P.info? e).isSome with
  |true=>k ⟨.raw (.slice C7 0 0),[],[]⟩ nk
  |false=>C7
 |_,_,_=>C7
theorem ff{y:Dc}(f:o.op= .slice t x C7 (Ac y) C7)(h:qL P S nk t x y k=Ac r):AW P C S Rr nk o k r:=by
 unfold qL at h;split at h
 ·rename_i e p n q;split at h;· rename_i d;obtain⟨s,d⟩:=Abr.1 d;refine .y h (Abw λη H O a j _=>?_) λ_ _=>trivial;have b:=j x (by grind[Op.operands]);have c:=j y (by rw[f];simp[Op.operands]);rw[n]at b;rw[q]at c;have c:a.eval y= .int .i64 ((0:Nat):Int):=c.1;refine⟨.slice C7 0 0,?_,rfl⟩;rw[f];refine Aq.Am λu w v g _ i _=>?_;have l:=i x _ (congrArg Ac b);have m:=i y _ (congrArg Ac c);simp[ID,g,l,m,Instr.sliceAt,Instr.slice,Instr.sliceBounds,Instr.sliceBound,AU p,sizeOf,typeInfo,d,asIntOf,asInt]
  grind
 grind
end
end
section
variable {N : C6} {R : Type} {P : Ge} {C : List (SV N.T)} {S : Nat -> SV N.T} {Rr : Nat -> Option (SR N.T)} {nk : Nat} {o : J5} {k : Bq N.T -> Nat -> Option R} {r : R}
section
variable{t:Ee}{x:Dc}{e:Ee}{H:Hp}{a:Option Addr}{n:Nat}{T:Ee}{O:List Av}{size bytes:Nat}{z:BU}{cap:Nat}{kh km:Kj}{h m:Int}{s:Dc}{d:Ee}{E:Dc->Option BU}
theorem eE{kl:Kj}{l:Int}(ht:P.underlying t=Ac (.slice e))(d:TI P e size bytes z)(h0:0<=l)(h1:l<=h)(h2:h<=m)(h3:m<=(cap:Nat))(w:GD):
  (Instr.sliceAt t (.slice a n cap) (Ac (.int kl l)) (Ac (.int kh h)) (Ac (.int km m))).run P w= .ok (sliced a l.toNat h.toNat m.toNat size) w:=by
 have b:=P7 ht;have c:(Go.sizeOf (P.elem t)).run P w= .ok size w:=by rw[P8 ht];exact d.sizeOf
 grind[Result.andThen,run_sliceAt_slice,run_slice_lhm]
theorem eF(ht:P.underlying t=Ac (.slice e))(d:TI P e size bytes z)(h0:0<=h)(h2:h<=m)(h3:m<=(cap:Nat))(w:GD):
  (Instr.sliceAt t (.slice a n cap) C7 (Ac (.int kh h)) (Ac (.int km m))).run P w= .ok (sliced a 0 h.toNat m.toNat size) w:=by
 have b:=P7 ht;have c:(Go.sizeOf (P.elem t)).run P w= .ok size w:=by rw[P8 ht];exact d.sizeOf
 grind[Result.andThen,run_sliceAt_slice,run_slice_hm]
def ba(P:Ge)(S:Nat->SV N.T)(Rr:Nat->Option (SR N.T))(nk:Nat)(t:Ee)(x:Dc)(lo:Option Dc)(hi f:Dc)(k:Bq N.T->Nat->Option R):Option R:=match P.underlying t,intOf (Ay S hi),intOf (Ay S f)with
 |some (.slice e),Ac (_,h),Ac (_,m)=>match lo,Ay S x with
  |some lo, .AG b=>match Rr b,intOf (Ay S lo)with
   |some (.row g c l),Ac (_,a)=>match Nat.beq g e&&C9 P e (c.sz N)with
    |true=>Af ((0<=a/\a<h)/\(h=m/\m<=((l.length:Nat):Int))) (k ⟨.px [b] (.sub a.toNat (h-a).toNat c),[b],[]⟩ nk)
    |false=>C7
   |_,_=>C7
  |none, .d (.sl c) l=>match C9 P e (c.sz N)with
   |true=>Af (h=((List.length (show List (c.den N.T)from l):Nat):Int)/\m=h) (k ⟨.px [] (.dx c l),[],[]⟩ nk)
   |false=>C7
  |_,_=>C7
 |_,_,_=>C7
theorem fg{lo:Option Dc}{hi V:Dc}(ho:o.op= .slice t x lo (Ac hi) (Ac V))(h:ba P S Rr nk t x lo hi V k=Ac r):AW P C S Rr nk o k r:=by
 have f:∀ {η:Nat->BU} {H:Hp} {a:Act} {y:Dc},y=x\/y=hi\/y=V\/Ac y=lo->(∀x∈o.op.operands,(Ay S x).is C η H (a.eval x))->(Ay S y).is C η H (a.eval y):=λ{η H a y} Z s=>s y (by
  rw[ho];cases lo with
  |none=>rcases Z with rfl|rfl|rfl|Z<;>first|(cases Z)|simp[Op.operands]
  |some z=>rcases Z with rfl|rfl|rfl|Z<;>first|grind[Op.operands]|simp[Op.operands]);unfold ba at h;split at h;case h_2=>grind
 rename_i e kh q km mm ht hhi hmx;split at h
 ·rename_i lo b hs;split at h
  ·rename_i g J l ka A hb hlo;split at h
   ·rename_i hI;obtain⟨⟨⟨W,c2⟩,c3,c4⟩,h⟩:=AQ h;rw[AS]at hI;obtain⟨bytes,z,U,hzs,M,hbb,_⟩:=DT hI.2;refine .y h (λη H Of a w Y hn' T hinv s G hfr K Q hK=>?_) λτ _=>trivial;rcases G b (.inl (by simp)) _ hb with e|⟨X,h1,xs,e3,hL⟩;· grind
    subst e3;obtain⟨i,h2,_⟩:=Iz Of hn' h1;have e1:a.eval x=η b:=by
     have:(SV.AG b:SV N.T).is C η H (a.eval x):=by grind
     exact this.1
    have L:=AY hhi (f (.inr (.inl rfl)) s);have e3:=AY hmx (f (.inr (.inr (.inl rfl))) s);have e4:=AY hlo (f (.inr (.inr (.inr rfl))) s);obtain⟨d,c,e5,hle⟩:∃d c,η b= .slice (Ac d) l.length c/\l.length<=c:=by
     rcases(T.Mj h2).1 with⟨_,M⟩|⟨d,c,e,hc⟩;· omega
     grind
    have hop:Aq P o.op o.type (EV a) H (Y.map (·.2)++Of) (.slice (Ac (d.add (A.toNat*J.sz N))) (q-A).toNat (q-A).toNat):= .Am λE w o B _ F _=>by
     have G:=eE (a:=Ac d) (n:=l.length) (cap:=c) (kl:=ka) (kh:=kh) (km:=km) ht U W (by omega:A<=q) (by omega:q<=mm) (by omega) w;have hsl:sliced (Ac d) A.toNat q.toNat mm.toNat (J.sz N)= .slice (Ac (d.add (A.toNat*J.sz N))) (q-A).toNat (q-A).toNat:=by unfold sliced;rw[if_neg (by omega)];simp only[Adk,BU.slice.injEq,true_and];omega
     rw[hsl]at G;have I:E.eval x= .slice (Ac d) l.length c:=F x _ (congrArg Ac (e1.trans e5));have q2:E.eval hi= .int kh q:=F hi _ (congrArg Ac L);have q3:E.eval V= .int km mm:=F V _ (congrArg Ac e3);have q4:E.eval lo= .int ka A:=F lo _ (congrArg Ac e4);rw[ho]at B;simp[ID,B,I,q2,q3,q4,G]
    refine Afq (hop a w o rfl rfl (λx u e=>by simpa using e) T) T λw' hw'=>?_;refine hK _ w' H η Y (Hp.le.refl H) (λ_ _=>rfl) (λ_ _=>rfl) (λk sr h=>by cases h) hn' (λk hk=> .inl hk) hw' ⟨d,l.length,c,?_,by omega,rfl⟩;grind
   grind
  grind
 ·rename_i J l hs;split at h
  ·rename_i hI;obtain⟨⟨W,c2⟩,h⟩:=AQ h;obtain⟨bytes,z,U,hzs,M,hbb,_⟩:=DT hI;refine .y h (Abw λη H O a s _=>?_) λ_ _=>trivial;obtain⟨cs,⟨v,rfl,hv⟩,L⟩:(SV.d (.sl J) l:SV N.T).is C η H (a.eval x):=by rw[<-hs];exact f (.inl rfl) s
   have L:[v]=[a.eval x]:=L;cases L;have L:=AY hhi (f (.inr (.inl rfl)) s);have e3:=AY hmx (f (.inr (.inr (.inl rfl))) s);obtain⟨d,c,e5,hle⟩:∃d c,a.eval x= .slice d l.length c/\l.length<=c:=by
    rcases hv.sl with⟨e,M⟩|⟨d,c,e,hc⟩;· exact⟨C7,0,by rw[e,M],by omega⟩
    ·exact⟨Ac d,c,e,hc⟩
   obtain⟨p,hv',e6⟩:∃p,GI (N.c J) H l (.slice p l.length l.length)/\sliced d 0 l.length l.length (J.sz N)= .slice p l.length l.length:=by
    obtain⟨⟨xs,I,q2⟩,q3⟩:=hv;rw[e5]at I;refine⟨d,⟨⟨xs,⟨I.len,?_,?_⟩,q2⟩,q3⟩,?_⟩
    ·rcases I.sl with⟨e,M⟩|⟨a',c',e,hc⟩;· left;injection e with e _ _;exact⟨by rw[e,M],M⟩
     ·right;injection e with e _ e';exact⟨a',l.length,by rw[e],Aad _⟩
    ·intro j u hj;have:=I.cells j u hj;cases d<;>exact this
    ·unfold sliced;cases d with
     |none=>simp
     |some d=>
      simp only[Adk,Aet,Nat.sub_zero];have:d.add 0=d:=Ir d;rw[this];simp
   refine⟨.slice p l.length l.length,?_,⟨p,rf⟩,[_],⟨_,rf,hv'⟩,rf⟩;rw[ho];refine .Am λE w o B _ F _=>?_;have G:=eF (a:=d) (n:=l.length) (cap:=c) (kh:=kh) (km:=km) (h:=q) (m:=mm) ht U (by omega) (by omega) (by rw[c2,W];exact_mod_cast hle) w;rw[c2,W]at G;rw[show((l.length:Nat):Int).toNat=l.length from rfl,e6]at G;have I:E.eval x= .slice d l.length c:=F x _ (congrArg Ac e5);have q2:E.eval hi= .int kh q:=F hi _ (congrArg Ac L);have q3:E.eval V= .int km mm:=F V _ (congrArg Ac e3);rw[W]at q2;rw[c2,W]at q3;simp[ID,B,I,q2,q3,G]
  ·cases h
 grind
def p_(P:Ge)(S:Nat->SV N.T)(Rr:Nat->Option (SR N.T))(nk:Nat)(t:Ee)(x y:Dc)(k:Bq N.T->Nat->Option R):Option R:=match P.underlying t,intOf (Ay S y),Ay S x with
 |some (.slice e),Ac (_,j), .px [b] (.sub i m c)=>match Rr b with
  |some (.row _ a l)=>match S8 P e (c.sz N)&&c.Kw a with
   |true=>Af (0<=j/\j<(m:Int)) (Ab (idx l ((i:Int)+j)) λz=>k ⟨.DU b ((i:Int)+j) 0 a z,[b],[]⟩ nk)
   |false=>C7
  |_=>C7
 |_,_,_=>C7
theorem oN{y:Dc}(u:o.op= .indexAddr t x y)(h:p_ P S Rr nk t x y k=Ac r):AW P C S Rr nk o k r:=by
 have v:∀ {η:Nat->BU} {H:Hp} {a:Act},(∀x∈o.op.operands,(Ay S x).is C η H (a.eval x))->(Ay S x).is C η H (a.eval x):=λd=>d x (by grind[Op.operands]);have w:∀ {η:Nat->BU} {H:Hp} {a:Act},(∀x∈o.op.operands,(Ay S x).is C η H (a.eval x))->(Ay S y).is C η H (a.eval y):=λd=>d y (by grind[Op.operands]);unfold p_ at h;split at h;case h_2=>grind
 rename_i e X j b i m B Q L M;split at h;case h_2=>grind
 rename_i g U l K;split at h;case h_2=>grind
 rename_i s;rw[AS]at s;have I:=Adx s.2;subst I;obtain⟨bytes,zv,A⟩:=Eb s.1;obtain⟨⟨F,G⟩,h⟩:=AQ h;obtain⟨z,T,h⟩:=Bp h;refine .y h (Abw λη H O a d _=>?_) λτ _ W Z Y p=>?_
 ·obtain⟨D,n,c,q,V,E⟩:(SV.px [b] (.sub i m B):SV N.T).is C η H (a.eval x):=by rw[<-M];exact v d
  have q:η b= .slice (Ac D) n c:=by simpa using q
  have J:=AY L (w d);refine⟨AO (a.eval x) (j.toNat*B.sz N),?_,?_,D,n,c,q⟩;· rw[u];exact Ahp Q A rfl (.inr ⟨_,_,E,Aad _⟩) (congrArg Ac J) ⟨F,G⟩
  ·rw[E,q];simp only[AO,BU.pointer.injEq,Aei,Aha];rw[C5,<-Adm];congr 2;omega
 ·rw[K]at p;cases p;exact⟨Ty.Se B,by rw[T];rfl⟩
theorem iA{a:Act}{f:Ty}{l d:List (f.den N.T)}{ys:List BU}{u:Option Addr}(ht:P.underlying t=Ac (.slice e))(hI:C9 P e (f.sz N)=Br)(A:a.eval s= .slice u l.length l.length)(hv:GI (N.c f) H l (.slice u l.length l.length))
  (W:AZ (N.c f) H d ys) (n:∀w,SH w H O->GK.Src w (a.eval x) (f.sz N) d.length ys) (hc:l.length+d.length<=M7 P e) (h2:d≠ []):
  BJ P (.call {callee:= .builtin .append,args:= #[s,x],argTypes:= #[t,t]}) T (EV a) H O (λv' D E=>(D=H/\∃xs,E= .row v' e (f.sz N) (l++d).length xs::O/\AZ (N.c f) H (l++d) xs)/\v'.oneCell'=Br):=by
 obtain⟨bytes,z,hz,X,G,J,_⟩:=DT hI;obtain⟨xs,q,V⟩:=hv.ex;rw[Bk]at q;cases u with
 |none=>
  have hl:l=[]:=by rcases q.sl with⟨_,G⟩|⟨F,c',e,hc⟩;all_goals grind
  subst hl;refine BJ.G' ((Qs (i:=0) (l:=[]) (xs:=[]) ht hI A rfl rfl W (λw A=>n w ?_) hc).mono ?_);· have:=A.aW 1;grind
  grind
 |some u=>
  obtain⟨hc,hbm⟩:=J _ hc;refine Agq 0 (.Am λF w o ho hT he U=>?_) ?_
  ·obtain⟨ii,K,g1,g2,g3⟩:=hz.ex;obtain⟨y,Q⟩:=n w U;have hpos:0<d.length:=by grind
   rcases Q with⟨_,h0'⟩|⟨Z,cx,I,j⟩;· omega
   obtain⟨L,M⟩:=U.To q;rcases M with⟨e,_⟩|⟨ad',c',e,p⟩;· grind
   injection e with e _ _;injection e with e;subst e;obtain⟨v',w',hr,Y,k2⟩:=run_append_arg_grows (P:=P) w t o.type e ii z (f.sz N) bytes ht K g3 g1 g2 X G u l.length l.length xs L p Z d.length cx ys y j (by omega) (by simp only[maxLen,Ag]at*;omega) (by omega);refine⟨v',w',H,_,?_,Hp.le.refl H,⟨rfl,xs++ys,rfl,V.app W⟩,U.push (r:= .row v' e (f.sz N) (l++d).length (xs++ys)) k2 ?_ (λb J=>?_)⟩;· have q1:F.eval s= .slice (Ac u) l.length l.length:=he s _ (congrArg Ac A);have q2:F.eval x= .slice (Ac Z) d.length cx:=he x _ (congrArg Ac I);simp[ID,ho,resolve,invoke,builtin,q1,q2,hr,Result.andThen]
   ·rw[Pd];exact⟨Y.1,Y.2.imp id λ⟨g,cap,cur,e,_,h⟩=>⟨g,cap,cur,e,Abh _,h⟩⟩
   ·exact(GD.ownsRow.lt Y b J).1
  grind
def rE(P:Ge)(S:Nat->SV N.T)(Rr:Nat->Option (SR N.T))(nk:Nat)(s x:Dc)(t:Ee)(k:Bq N.T->Nat->Option R):Option R:=match P.underlying t,Ay S s with
 |some (.slice e), .px _ (.dx b l)=>match C9 P e (b.sz N),WQ S Rr b x with
  |true,Ac (a,c)=>Af (l.length+a.length<=M7 P e/\0<a.length) (k ⟨.AG nk,c,[(nk, .row e b (l++a))]⟩ (nk+1))
  |_,_=>C7
 |_,_=>C7
theorem o6(i:o.op= .call {callee:= .builtin .append,args:= #[s,x],argTypes:= #[t,t]})(B:∀j,nk<=j->Rr j=C7)(h:rE P S Rr nk s x t k=Ac r):AW P C S Rr nk o k r:=by
 have m:∀ {η:Nat->BU} {H:Hp} {a:Act},(∀x∈o.op.operands,(Ay S x).is C η H (a.eval x))->(Ay S s).is C η H (a.eval s):=λc=>c s (by grind[Op.operands,Call.operands]);have n:∀ {η:Nat->BU} {H:Hp} {a:Act},(∀x∈o.op.operands,(Ay S x).is C η H (a.eval x))->(Ay S x).is C η H (a.eval x):=λc=>c x (by simp_all[Op.operands,Call.operands]);unfold rE at h;split at h;case h_2=>grind
 rename_i e I J l F E;split at h;case h_2=>grind
 rename_i V W z d;obtain⟨⟨hc,u⟩,h⟩:=AQ h;refine .new h (Afv (B nk (Aad _)) λη H O a c D=>?_) λ_ _=>trivial;obtain⟨⟨T,q⟩,U,⟨v,rfl,w⟩,f⟩:(SV.px I (.dx J l):SV N.T).is C η H (a.eval s):=by rw[<-E];exact m c
 have f:[v]=[a.eval s]:=f;cases f;obtain⟨X,G,p⟩:=LA d (n c) D;rw[i];rw[q]at w;refine(iA F z q w G p hc (λe=>by rw[e]at u;simp at u)).mono ?_;rintro K M Q ⟨⟨rfl,L,rfl,A⟩,y⟩;exact⟨rfl,_,K,rfl,⟨L,by rw[AB],A⟩,by rw[AB],y⟩
def ph(P:Ge)(S:Nat->SV N.T)(nk:Nat)(t:Ee)(x:Dc)(k:Bq N.T->Nat->Option R):Option R:=match P.underlying t,Ay S x with
 |some (.slice _), .d (.sl a) l=>match(show List (a.den N.T)from l)with
  | []=>k ⟨.px [] .ub,[],[]⟩ nk
  |_::_=>k ⟨.lb Ap,[],[]⟩ nk
 |_,_=>C7
theorem Vn{b:BinOp}(j:b= .eql){Ty:Ee}{c:Nat}(ht:P.underlying t=Ac (.slice e))(m:E x=Ac (.slice a n c)):Aq P (.binOp b t x (.const (.slice C7 0 0)) Ty) T E H O (.bool a.isNone):= .Am λg w o l _ i p=>by
 have h:(binOp .eql t (.slice a n c) (.slice C7 0 0)).run P w= .ok (.bool a.isNone) w:=by
  have h:∀d:Nat,(Op.equalIn (d+1) t (.slice a n c) (.slice C7 0 0)).run P w= .ok a.isNone w:=λd=>by cases a<;>simp[Op.equalIn,AU ht]
  simp_all[binOp,pure,bool,Op.equal,Op.maxDepth]
 have hc:g.eval (.const (.slice C7 0 0))= .slice C7 0 0:=rfl;simp_all[ID,eqGuard]
theorem oy{Ty:Ee}(m:o.op= .binOp .eql t x (.const (.slice C7 0 0)) Ty)(h:ph P S nk t x k=Ac r):AW P C S Rr nk o k r:=by
 have p:∀ {η:Nat->BU} {H:Hp} {a:Act},(∀x∈o.op.operands,(Ay S x).is C η H (a.eval x))->(Ay S x).is C η H (a.eval x):=λd=>d x (by grind[Op.operands]);unfold ph at h;split at h;case h_2=>grind
 rename_i e q l u B;have key:∀ {η:Nat->BU} {H:Hp} {a:Act},(∀x∈o.op.operands,(Ay S x).is C η H (a.eval x))->∃b n c,a.eval x= .slice b n c/\(b=C7->n=0)/\n=(show List (q.den N.T)from l).length:=λ{η H a} d=>by
  obtain⟨F,⟨v,rfl,D⟩,f⟩:(SV.d (.sl q) l:SV N.T).is C η H (a.eval x):=by grind
  have f:[v]=[a.eval x]:=f;rcases D.sl with⟨e,w⟩|⟨b,c,e,_⟩;all_goals grind
 split at h;· refine .y h (Abw λη H O a d _=>?_) λ_ _=>trivial;obtain⟨b,n,c,i,_,_⟩:=key d;exact⟨_,by rw[m];exact Vn rfl u (congrArg Ac i),_,rfl⟩
 ·refine .y h (Abw λη H O a d _=>?_) λ_ _=>trivial;obtain⟨b,n,c,i,f,s⟩:=key d;refine⟨_,by rw[m];exact Vn rfl u (congrArg Ac i),?_⟩;cases b with
  |some b=>rfl
  |none=>
   grind
def XQ:List Int->Au:=λl=>l.map λn=>UInt8.ofNat n.toNat
theorem Z7{H:Hp} :∀ {l:List Int} {xs:List BU},AZ (N.c (.int .u8)) H l xs->xs=(XQ l).map λb=>BU.int .u8 (b.toNat:Int)
 | [],_,h=>h
 |n::l,_,⟨g,xs,e,a,f⟩=>by
  obtain⟨a,c⟩:=DL.1 a;have c:0<=n/\n<=255:=c;subst e;subst a;have d:((UInt8.ofNat n.toNat).toNat:Int)=n:=by grind[UInt8.toNat_ofNat']
  rw[Z7 f];show [BU.int .u8 n]++_=BU.int .u8 ((UInt8.ofNat n.toNat).toNat:Int)::_;rw[d];rfl
def rh(P:Ge)(S:Nat->SV N.T)(nk:Nat)(s d:Ee)(x:Dc)(k:Bq N.T->Nat->Option R):Option R:=match P.underlying s,P.underlying d,Ay S x with
 |some (.slice e),Ac .string, .d (.sl (.int .u8)) l=>match P.underlying e with
  |some (.int .u8)=>k ⟨.d .str (XQ l),[],[]⟩ nk
  |_=>C7
 |some (.slice e),Ac .string, .raw (.slice C7 0 0)=>match P.underlying e with
  |some (.int .u8)=>k ⟨.d .str [],[],[]⟩ nk
  |_=>C7
 |some (.int _),Ac .string,s=>match intOf s with
  |some (_,n)=>Af (0<=n/\n<128) (k ⟨.d .str [UInt8.ofNat n.toNat],[],[]⟩ nk)
  |none=>C7
 |_,_,_=>C7
theorem Xw{n:Int}(h0:0<=n)(h1:n<128):Utf8.encode n=⟨⟨[UInt8.ofNat n.toNat]⟩⟩:=by grind[Utf8.valid,validRune,Utf8.encode]
theorem Wf{s:Ee}{l:List Int}{v:BU}(u:P.underlying s=Ac (.slice e))(n:P.underlying d=Ac .string)(p:P.underlying e=Ac (.int .u8))(y:E x=Ac v)(G:GI (N.c (.int .u8)) H l v):Aq P (.convert s d x) T E H O (sv (XQ l)):= .Am λJ w o t _ m I=>by
 obtain⟨K,B,g⟩:=G.ex;have i:=Z7 g;obtain⟨q,hc⟩:=I.To B;rcases hc with⟨rfl,A⟩|⟨z,c,rfl,a⟩
 ·have F:l=[]:=Aae.1 A;subst F;have:=run_convert_bytes_string (P:=P) w s d e C7 0 0 u p n;have g:(Conv.bytesToString (.slice C7 0 0)).run P w= .ok (.string ByteArray.empty) w:=by rfl
  rw[g]at this;simp[ID,t,m x _ y,this];rfl
 ·have h:(XQ l).length=l.length:=by simp[XQ]
  have:=run_convert_bytes_back (P:=P) w s d e z c (XQ l) u p n (λj D=>a j _ (by grind));rw[h]at this;simp only[ID,t,m x _ y];simp;erw [this];rfl
theorem oW{s:Ee}(g:o.op= .convert s d x)(h:rh P S nk s d x k=Ac r):AW P C S Rr nk o k r:=by
 have b:∀ {η:Nat->BU} {H:Hp} {a:Act},(∀x∈o.op.operands,(Ay S x).is C η H (a.eval x))->(Ay S x).is C η H (a.eval x):=λc=>c x (by grind[Op.operands]);unfold rh at h;split at h
 ·rename_i e l j i f;split at h
  ·rename_i u;refine .y h (Abw λη H O a c _=>?_) λ_ _=>trivial;obtain⟨E,⟨v,rfl,m⟩,t⟩:(SV.d (.sl (.int .u8)) l:SV N.T).is C η H (a.eval x):=by grind
   have t:[v]=[a.eval x]:=t;cases t;exact⟨_,by rw[g];exact Wf j i u rfl m,[_],rfl,rfl⟩
  grind
 ·rename_i e j i f;split at h
  ·rename_i u;refine .y h (Abw λη H O a c _=>?_) λ_ _=>trivial;have m:a.eval x= .slice C7 0 0:=by
    have:(SV.raw (.slice C7 0 0):SV N.T).is C η H (a.eval x):=by grind
    trivial
   exact⟨_,by rw[g];exact Wf (N:=N) (l:=[]) j i u (congrArg Ac m) GI.nil,[_],rf,rf⟩
  grind
 ·rename_i q j i;split at h;· rename_i B n A;obtain⟨hc,h⟩:=AQ h;refine .y h (Abw λη H O a c _=>?_) λ_ _=>trivial;have m:=AY A (b c);refine⟨sv [UInt8.ofNat n.toNat],?_,[_],rfl,rfl⟩;rw[g];refine .Am λD w o g _ z F=>?_;have:=run_convert_int_string (P:=P) w s d B n (by rw[j];rfl) i;rw[Xw hc.1 hc.2]at this;simp[ID,g,z x _ (congrArg Ac m),this];rfl
  trivial
 grind
end
end
section
variable {P : Ge} {T : Ee} {E : Dc -> Option BU} {H : Hp} {O : List Av}
theorem Akl{s x:Dc}{t u e:Ee}{v:BU}{i m:Nat}{str:Au}{xs:List BU}(ht:P.underlying t=Ac (.slice e))(y:P.underlying u=Ac .string)(Z:TI P e 1 1 (.int .u8 0))(Y:E s=Ac v)(L:E x=Ac (sv str))
  (hi:O[i]?=Ac (.row v e 1 m xs)) (hb:m+str.length<=Ag):
  BJ P (.call {callee:= .builtin .append,args:= #[s,x],argTypes:= #[t,u]}) T E H O (λv' N R=>N=H/\R=O.set i (.row v' e 1 (m+str.length) (xs++Lib.byteCells str))):=by
 intro a w o next Q X hT J K k;have c:=K.ok i _ hi;obtain⟨ii,j,q,A,B⟩:=Z.ex;have d:(ByteArray.mk (Array.mk str)).size=str.length:=rfl;have F:Lib.strCells (ByteArray.mk (Array.mk str))=Lib.byteCells str:=rfl;obtain⟨v',w',r,M,k2,k3⟩:=Lib.run_append_own_string (P:=P) w 0 t u o.type e ii ht y j B q A v m xs c ⟨⟨str⟩⟩ (by simp only[maxLen,Ag]at*;omega) (by grind) (Abh _);unfold J5.wp;simp only[sv]at L;simp[ID,X,resolve,invoke,builtin,J s _ Y,J x _ L,r,Result.andThen];refine k v' w' H _ (Hp.le.refl H) ⟨rfl,rfl⟩ (K.set hi k2 M (λb h=>?_));rcases c.2 with⟨rfl,D⟩|⟨g,cap,cur,rfl,_,V,W,U,C,G⟩;· right;subst D;have I:xs=[]:=Abc (by rw[c.1,Aet]);obtain⟨v2,w2,f,q1,_,_⟩:=Lib.run_append_own_string (P:=P) w w.heap.size t u o.type e ii ht y j B q A (.slice C7 0 0) 0 [] (GD.ownsRow_nil w _ e _) ⟨⟨str⟩⟩ (by simp only[maxLen,Ag]at*;omega) (by grind) (Aad _);rw[r]at f;injection f with p z;subst p;exact(GD.ownsRow.lt q1 b h).1
 ·by_cases l:m+str.length<=cap;· left;have f:=Lib.run_append_room_string (P:=P) w t u o.type e ii ht y j q g m cap cur V ⟨⟨str⟩⟩ l (by omega);rw[r]at f;injection f with p z;rw[p]at h;exact h
  ·have f:=Lib.run_append_grow_string (P:=P) w t u o.type e ii (.int .u8 0) ht y j B ⟨g,0,C7⟩ m cap xs (by rw[c.1,q]) (c.cells (g:=g) rfl) ⟨⟨str⟩⟩ (by omega) (by simp only[Ag]at*;omega) (by rw[A,d];exact growslice_fits (by omega) (by simp only[Ag]at*;omega));grind[Av.has,BU.ownBlock]
end
section
variable {N : C6} {R : Type} {P : Ge} {C : List (SV N.T)} {S : Nat -> SV N.T} {Rr : Nat -> Option (SR N.T)} {nk : Nat} {o : J5} {k : Bq N.T -> Nat -> Option R} {r : R}
section
variable{t:Ee}{x:Dc}{H:Hp}{e:Ee}
def bK:Au->List Int:=λl=>l.map λb=>(b.toNat:Int)
theorem Vx{H:Hp} :∀l:Au,AZ (N.c (.int .u8)) H (bK l) (Lib.byteCells l)
 | []=>rfl
 |b::l=>⟨[.int .u8 (b.toNat:Int)],Lib.byteCells l,rfl,DL.2 ⟨rfl,by have:=b.toNat_lt;show(0:Int)<=b.toNat/\(b.toNat:Int)<=255;omega⟩,Vx l⟩
def u8I(P:Ge)(e:Ee):Bool:=match P.info? e with
 |some a=>Nat.beq a.size 1&&(Nat.beq a.bytes 1&&match a.zero with
  |some (.int .u8 0)=>Br
  |_=>Ap)
 |none=>Ap
theorem nL(h:u8I P e=Br):TI P e 1 1 (.int .u8 0):=by
 unfold u8I at h;split at h
 ·rename_i a f;simp only[AS]at h;obtain⟨c,d,b⟩:=h;split at b;· rename_i g;exact⟨a,f,AI c,AI d,g⟩
  grind
 grind
def rF(P:Ge)(S:Nat->SV N.T)(Rr:Nat->Option (SR N.T))(nk:Nat)(s x:Dc)(t u:Ee)(k:Bq N.T->Nat->Option R):Option R:=match P.underlying t,P.underlying u,Ay S s,Um (Ay S x)with
 |some (.slice e),Ac .string, .AG b,Ac str=>match Rr b with
  |some (.row g (.int .u8) l)=>match Nat.beq g e&&u8I P e with
   |true=>Af (List.length (show List Int from l)+str.length<=Ag) (k ⟨.AG nk,[],[(nk, .row g (.int .u8) (show List Int from(show List Int from l)++bK str)),(b, .gone)]⟩ (nk+1))
   |false=>C7
  |_=>C7
 |_,_,_,_=>C7
theorem o7{s:Dc}{u:Ee}(w:o.op= .call {callee:= .builtin .append,args:= #[s,x],argTypes:= #[t,u]})(Q:∀j,nk<=j->Rr j=C7)(h:rF P S Rr nk s x t u k=Ac r):AW P C S Rr nk o k r:=by
 have y:∀ {η:Nat->BU} {H:Hp} {a:Act},(∀x∈o.op.operands,(Ay S x).is C η H (a.eval x))->(Ay S s).is C η H (a.eval s):=λd=>d s (by grind[Op.operands,Call.operands]);have z:∀ {η:Nat->BU} {H:Hp} {a:Act},(∀x∈o.op.operands,(Ay S x).is C η H (a.eval x))->(Ay S x).is C η H (a.eval x):=λd=>d x (by simp_all[Op.operands,Call.operands]);unfold rF at h;split at h;case h_2=>grind
 rename_i e b str U V T n;split at h;case h_2=>cases h
 rename_i g l A;split at h;case h_2=>cases h
 rename_i q;rw[AS]at q;have F:=AI q.1;subst F;obtain⟨hc,h⟩:=AQ h;change List Int at l;refine .mov h A (Aih A (by simp) (Q nk (Aad _)) λη H O a X i d f K Z=>?_) λ_ _=>trivial;obtain⟨Y,G,M⟩:=K;subst G;have B:=y d;rw[T]at B;have I:a.eval x=sv str:=KH n (z d);rw[<-B.1]at f;have v:i<O.length:=(No.1 f).1;rw[w];refine(Agq i (Akl U V (nL q.2) rfl (congrArg Ac I) f hc) ?_).mono ?_;· rintro p D E ⟨rfl,rfl⟩;exact⟨_,_,_,_,by rw[List.getElem?_set_self v]⟩
 ·rintro p D E ⟨⟨rfl,rfl⟩,L⟩;refine⟨rfl,_,p,rfl,⟨_,?_,M.app (Vx str)⟩,by rw[AB],L⟩;rw[AB];have J:List.length (l++bK str)=l.length+str.length:=by simp[bK]
  show Av.row p g 1 (l.length+str.length) _=Av.row p g 1 (List.length (l++bK str)) _;rw[J]
def ri(P:Ge)(nk:Nat)(t:Ee)(k:Bq N.T->Nat->Option R):Option R:=match P.underlying t with
 |some (.slice e)=>match Lz N P e with
  |some a=>match C9 P e (a.sz N)with
   |true=>k ⟨.AG nk,[],[(nk, .row e a [])]⟩ (nk+1)
   |false=>C7
  |none=>C7
 |_=>C7
theorem iq{size bytes:Nat}{z:BU}{T:Ee}{E:Dc->Option BU}{O:List Av}(ht:P.underlying t=Ac (.slice e))(l:TI P e size bytes z):
  BJ P (.buildSlice t 0 #[]) T E H O (λv d f=>d=H/\v.oneCell'=Br/\f= .row v e size 0 []::O):= .Am λa w o i _ m j=>by
 refine⟨.slice (Ac ⟨w.heap.size,0,C7⟩) 0 0,w.alloc (.cells #[] e),H,_,?_,Hp.le.refl H,⟨rf,rf,rf⟩,j.push (GD.grownBy_alloc w _ C7) ?_ (λb h=>by grind[Av.has,BU.ownBlock])⟩;· simp[ID,i,Instr.buildSlice,AU ht,l.sizeOf,Instr.fill,newRow];grind
 ·exact⟨by simp, .inr ⟨w.heap.size,0, #[],rf,Abh _,heap_alloc_new w _,Aad _,Abh _,by simp,by simp⟩⟩
theorem oX(i:o.op= .buildSlice t 0 #[])(g:∀j,nk<=j->Rr j=C7)(h:ri P nk t k=Ac r):AW P C S Rr nk o k r:=by
 unfold ri at h;split at h;case h_2=>grind
 rename_i e l;split at h;case h_2=>grind
 rename_i u m;split at h;case h_2=>grind
 rename_i f;obtain⟨bytes,z,c,_⟩:=DT f;refine .new h (Afv (g nk (Aad _)) λη H O a s q=>?_) λ_ _=>trivial;rw[i];refine(iq l c).mono ?_;rintro v n p ⟨rfl,d,rfl⟩;exact⟨rfl,_,v,rfl,⟨[],by grind[AB],rfl⟩,by rw[AB],d⟩
def nJ(P:Ge)(S:Nat->SV N.T)(Rr:Nat->Option (SR N.T))(nk:Nat)(x:Dc)(T:Ee)(k:Bq N.T->Nat->Option R):Option R:=match Ay S x,P.underlying T with
 | .AG b,Ac (.pointer _)=>match Rr b with
  |some (.row _ (.int .u8) l)=>k ⟨.px [b] (.sd (List.length (show List Int from l))),[b],[]⟩ nk
  |_=>C7
 |_,_=>C7
theorem oq(A:o.op= .call {callee:= .builtin .unsafeSliceData,args:= #[x],argTypes:= #[t]})(h:nJ P S Rr nk x o.type k=Ac r):AW P C S Rr nk o k r:=by
 have E:∀ {η:Nat->BU} {H:Hp} {a:Act},(∀x∈o.op.operands,(Ay S x).is C η H (a.eval x))->(Ay S x).is C η H (a.eval x):=λI=>I x (by grind[Op.operands,Call.operands]);unfold nJ at h;split at h;case h_2=>grind
 rename_i b J hs W;split at h;case h_2=>grind
 rename_i g l Z;refine .y h (λη H L a w Y q d M I hr hfr K Q V=>?_) λτ _=>trivial;rcases hr b (.inl (by simp)) _ Z with e|⟨X,T,xs,O,hL⟩;· grind
 subst O;obtain⟨i,U,_⟩:=Iz L q T;have m:a.eval x=η b:=by
  have:(SV.AG b:SV N.T).is C η H (a.eval x):=by grind
  exact this.1
 have c:=d.ok i _ U;have f:∀v B,SH B H (Y.map (·.2)++L)->(∃p,v= .pointer p)->(0<l.length->v=AO (η b) 0)->(ID a.eval o).run P w= .ok (.value v) B->o.wp P a w K Q:=λv B G q1 q2 s=>by unfold J5.wp;rw[s];exact V v B H η Y (Hp.le.refl H) (λ_ _=>rfl) (λ_ _=>rfl) (λk sr h=>by cases h) q (λk hk=> .inl hk) G ⟨q1,λh=>⟨η b,rfl,q2 h⟩⟩
 rcases c.2 with⟨u,h0⟩|⟨z,cap,cur,u,_,hg,hnc,hcm,hcs,F⟩;· refine f (.pointer C7) w d ⟨C7,rfl⟩ (λh=>by omega) ?_;have h:=Lib.run_unsafeSliceData_nil (P:=P) w #[t] o.type 0 0;rw[u]at m;simp[ID,A,resolve,invoke,builtin,m,h]
 ·by_cases n:cap=0
  ·subst n;refine f (.pointer (Ac ⟨w.heap.size,0,C7⟩)) (w.alloc (.view ⟨z,0,C7⟩ J)) ?_ ⟨_,rfl⟩ (λh=>by omega) ?_;· have:=(d.alloc (.view ⟨z,0,C7⟩ J)).drop 0;simpa using this
   ·have h:=Lib.run_unsafeSliceData_zero (P:=P) w #[t] o.type J W ⟨z,0,C7⟩ l.length (sh:=(g,cur.size)) (by simp[GD.shape?,hg]);rw[u]at m;simp[ID,A,resolve,invoke,builtin,m,h]
  ·refine f (AO (η b) 0) w d ⟨_,by rw[u];rfl⟩ (λ_=>rfl) ?_;have h:=Lib.run_unsafeSliceData_row (P:=P) w #[t] o.type ⟨z,0,C7⟩ l.length cap n;rw[u]at m⊢;simp[ID,A,resolve,invoke,builtin,m,h,AO,Addr.add]
def nI(P:Ge)(S:Nat->SV N.T)(Rr:Nat->Option (SR N.T))(nk:Nat)(x y:Dc)(pt:Ee)(k:Bq N.T->Nat->Option R):Option R:=match Ay S x,intOf (Ay S y),P.underlying pt with
 | .px [b] (.sd m),Ac (.i64,n),Ac (.pointer e)=>match Rr b,Nat.beq (P.cellsOf e) 1 with
  |some (.row g (.int .u8) l),Br=>match Nat.beq g e with
   |true=>Af (n=((List.length (show List Int from l):Nat):Int)/\m=List.length (show List Int from l)) (k ⟨.d .str (XQ l),[],[(b, .gone)]⟩ nk)
   |false=>C7
  |_,_=>C7
 |_,_,_=>C7
theorem oo{y:Dc}{pt it:Ee}(U:o.op= .call {callee:= .builtin .unsafeString,args:= #[x,y],argTypes:= #[pt,it]})(h:nI P S Rr nk x y pt k=Ac r):AW P C S Rr nk o k r:=by
 have hox:∀ {η:Nat->BU} {H:Hp} {a:Act},(∀x∈o.op.operands,(Ay S x).is C η H (a.eval x))->(Ay S x).is C η H (a.eval x):=λD=>D x (by grind[Op.operands,Call.operands]);have hoy:∀ {η:Nat->BU} {H:Hp} {a:Act},(∀x∈o.op.operands,(Ay S x).is C η H (a.eval x))->(Ay S y).is C η H (a.eval y):=λD=>D y (by simp_all[Op.operands,Call.operands]);unfold nI at h;split at h;case h_2=>grind
 rename_i b m n e hs hn hpt;split at h;case h_2=>grind
 rename_i g l O hce;split at h;case h_2=>grind
 rename_i hge;have:=AI hge;subst this;change List Int at l;obtain⟨⟨V,W⟩,h⟩:=AQ h;have t:(XQ l).length=l.length:=by simp[XQ]
 refine⟨_,nk,h,λη H L a w Y I A hinv D hr hfr K Q hK=>?_,Aad _,λj d f=>?_,λτ _=>trivial⟩
 ·rcases hr b (.inr (by simp[keys])) _ O with e|⟨X,h1,xs,e3,hL⟩;· grind
  subst e3;obtain⟨i,M,h3⟩:=Iz L I h1;obtain⟨⟨p,hp⟩,hsd⟩:(SV.px [b] (.sd m):SV N.T).is C η H (a.eval x):=by rw[<-hs];exact hox D
  have ey:=AY hn (hoy D);rw[V,<-t]at ey;have F:∀s,SH s H ((H7 Y b .emp).map (·.2)++L)->K (a.put o.dst (sv (XQ l))) s:=λs c=>
   hK _ s H η (H7 Y b .emp) (Hp.le.refl H) (λ_ _=>rfl) (λj d=>Pa λe=>d (by subst e;simp[keys])) (λj sr d=>by
    simp only[Ax]at d;split at d;· cases d;exact .inl rfl
    ·cases d) (by rw[En];exact I) (λj d=> .inl (by rw[En]at d;exact d)) c ⟨[_],rfl,rfl⟩;by_cases h0:l=[]
  ·subst h0;have z:Aq P o.op o.type (EV a) H (Y.map (·.2)++L) (sv (XQ [])):=by
    rw[U];exact Alm (congrArg Ac hp) (congrArg Ac ey)
   refine Afq (z a w o rfl rfl (λx u e=>by simpa using e) A) A λs c=>F s ?_;rw[<-h3];exact c.set M ⟨rfl,rfl,rfl,Aad _,λ_ _ _=>rfl⟩ trivial (λb O=>by cases O)
  ·have J:0<m:=by rw[W];exact Aeo.2 h0
   obtain⟨u,Z,e6⟩:=hsd J;have Z:u=η b:=by simpa using Z.symm
   subst Z;have hLB:AZ cBy H (XQ l) xs:=Vy.2 (Z7 hL);have M:(Y.map (·.2)++L)[i]?=Ac (.row (η b) g 1 (XQ l).length xs):=by rw[t];exact M
   have z:=BJ.unsafeString (P:=P) (T:=o.type) (E:=EV a) (x:=x) (y:=y) (pt:=pt) (it:=it) (e:=g) hpt (AI hce) (congrArg Ac e6) (congrArg Ac ey) M hLB (λe=>h0 (by have:=congrArg List.length e;rw[t]at this;exact Aae.1 this));refine z a w o K Q U rfl (λx u e=>by simpa using e) A λv s H' O' hle ⟨e7,e8,e9⟩ c=>?_;subst e7;subst e8;subst e9;rw[h3]at c;exact F s c
 grind[keys]
end
end
section
variable {P : Ge} {H : Hp} {O : List Av} {E : Dc -> Option BU} {T : Ee} {x y : Dc} {kk : Kj} {m n : Int} {tys : Array Ee}
theorem Aq.max2(f:E x=Ac (.int kk m))(g:E y=Ac (.int kk n)):Aq P (.call {callee:= .builtin .max,args:= #[x,y],argTypes:=tys}) T E H O (.int kk (if n>m then n else m)):= .Am λa w o e _ d _=>by simp[ID,e,d x _ f,d y _ g,resolve,invoke,builtin,Builtin.max_,Builtin.max2]
theorem Aq.min2(f:E x=Ac (.int kk m))(g:E y=Ac (.int kk n)):Aq P (.call {callee:= .builtin .min,args:= #[x,y],argTypes:=tys}) T E H O (.int kk (if n<m then n else m)):= .Am λa w o e _ d _=>by simp[ID,e,d x _ f,d y _ g,resolve,invoke,builtin,Builtin.min_,Builtin.min2]
theorem Akm{t e:Ee}{size:Nat}{ii:TypeInfo}{v z:BU}{i m f:Nat}{xs d:List BU}(ht:P.underlying t=Ac (.slice e))(B:P.info? e=Ac ii)(Y:ii.size=size)(C:tys[0]?=Ac t)(hx:E x=Ac v)(hy:E y=Ac z)
  (hi:O[i]?=Ac (.row v e size m xs)) (q:∀w,SH w H O->GK.Src w z size f d) (h1:∀u∈d,u.oneCell'=Br):
  BJ P (.call {callee:= .builtin .copy,args:= #[x,y],argTypes:=tys}) T E H O (λv' H' O'=>H'=H/\O'=O.set i (.row v e size m (d.take (min f m*size)++xs.drop (min f m*size)))/\v'= .int .i64 (min f m:Nat)):=by
 intro a w o next Q ho hT he N k;have r:=N.ok i _ hi;obtain⟨J,q⟩:=q w N;have Z:=r.1;have sx:=he x _ hx;have sy:=he y _ hy;have s:min f m=0->(Builtin.copy_ tys o.type #[v,z]).run P w= .ok (goInt 0) w->o.wp P a w next Q:=λh0 X=>by
  unfold J5.wp;simp[ID,ho,resolve,invoke,builtin,sx,sy,X,Result.andThen];refine k _ w H _ (Hp.le.refl H) ⟨rfl,rfl,?_⟩ ?_;· rw[h0];rfl
  ·rw[h0];simp_all[Aet,Aep,Afi,Abp,Q8]
 rcases r.2 with⟨rfl,rfl⟩|⟨g,cap,cur,rfl,U,hg,W,G,S,D⟩
 ·refine s (by simp) ?_;rcases q with⟨rfl,rfl⟩|⟨L,c,rfl,p⟩;· simp[Builtin.copy_,C,run_underlying ht,Builtin.lenOf,Builtin.firstCells,sizeOf,typeInfo,B]
  ·have:=run_loadCells_list (P:=P) w L [] (λj v h=>by grind);simp at this;simp[Builtin.copy_,C,run_underlying ht,Builtin.lenOf,Builtin.firstCells,sizeOf,typeInfo,B,this]
 ·rcases q with⟨rfl,rfl⟩|⟨L,c,rfl,p⟩;· refine s (by simp) ?_;simp[Builtin.copy_,C,run_underlying ht,Builtin.lenOf,Builtin.firstCells,sizeOf,typeInfo,B,storeCells]
  ·have hle:min f m*size<=d.length:=by rw[J];exact Abj _ (Nat.min_le_left _ _)
   have l:(d.take (min f m*size)).length=min f m*size:=by rw[Aas];omega
   have hl:=run_loadCells_list (P:=P) w L (d.take (min f m*size)) (λj u M=>p j u (by
    rw[Aez]at M;split at M;· exact M
    ·cases M));rw[l]at hl;have I:min f m*size<=cur.size:=by rw[S];exact Abj _ (by omega)
   have K:=run_storeCells_at P g 0 e (d.take (min f m*size)) 0 cur w hg (by simpa [l]using I) (λu hu=>h1 u (Ach hu));simp only[Abi,Aep,Abp,l]at K;have X:(Builtin.copy_ tys o.type #[.slice (Ac ⟨g,0,C7⟩) m cap, .slice (Ac L) f c]).run P w= .ok (goInt (Nat.min f m:Nat)) (w.setRow g (d.take (min f m*size)++cur.toList.drop (min f m*size)).toArray):=by simp[Builtin.copy_,C,run_underlying ht,Builtin.lenOf,Builtin.firstCells,sizeOf,typeInfo,B,Y,hl,K]
   unfold J5.wp;simp[ID,ho,resolve,invoke,builtin,sx,sy,X,Result.andThen];refine k _ _ H _ (Hp.le.refl H) ⟨rfl,rfl,by simp[goInt,Nat.min_def]⟩ (N.set hi (ED w g _) ?_ (λb hb=> .inl hb));refine⟨?_, .inr ⟨g,cap,(d.take (min f m*size)++cur.toList.drop (min f m*size)).toArray,rfl,U,setRow_heap w g cur _ e _ hg,W,G,?_,?_⟩⟩;· rw[Pd,l,Aka,Z];have:min f m*size<=m*size:=Abj _ (Nat.min_le_right _ _);omega
   ·simp[l];omega
   ·have V:min f m*size<=m*size:=Abj _ (Nat.min_le_right _ _);simp only[Aed,l];rw[Abm (by rw[l];exact V),<-D,Ahl]
end
section
variable {N : C6} {R : Type} {P : Ge} {C : List (SV N.T)} {S : Nat -> SV N.T} {Rr : Nat -> Option (SR N.T)} {nk : Nat} {o : J5} {k : Bq N.T -> Nat -> Option R} {r : R}
section
variable{x y:Dc}{tys:Array Ee}{α:Type}{t:Ee}
def pD(S:Nat->SV N.T)(nk:Nat)(x y:Dc)(k:Bq N.T->Nat->Option R):Option R:=match intOf (Ay S x),intOf (Ay S y)with
 |some (a,m),Ac (b,n)=>match kb a b with
  |true=>Aa a (if n>m then n else m) (k ⟨.d (.int a) (if n>m then n else m),[],[]⟩ nk)
  |false=>C7
 |_,_=>C7
def pB(S:Nat->SV N.T)(nk:Nat)(x y:Dc)(k:Bq N.T->Nat->Option R):Option R:=match intOf (Ay S x),intOf (Ay S y)with
 |some (a,m),Ac (b,n)=>match kb a b with
  |true=>Aa a (if n<m then n else m) (k ⟨.d (.int a) (if n<m then n else m),[],[]⟩ nk)
  |false=>C7
 |_,_=>C7
theorem oF(c:o.op= .call {callee:= .builtin .max,args:= #[x,y],argTypes:=tys})(h:pD S nk x y k=Ac r):AW P C S Rr nk o k r:=by
 unfold pD at h;split at h
 ·rename_i q m p n j l;split at h;· rename_i i;have e:=OB i;subst e;obtain⟨_,d,f⟩:=BR h;refine .y f (Abw λη H O a g _=>⟨_,?_,DN d⟩) λ_ _=>trivial;rw[c];exact Aq.max2 (congrArg Ac (AY j (g x (by simp_all[Op.operands,Call.operands])))) (congrArg Ac (AY l (g y (by rw[c];simp[Op.operands,Call.operands]))))
  grind
 grind
theorem oE(c:o.op= .call {callee:= .builtin .min,args:= #[x,y],argTypes:=tys})(h:pB S nk x y k=Ac r):AW P C S Rr nk o k r:=by
 unfold pB at h;split at h
 ·rename_i q m p n j l;split at h;· rename_i i;have e:=OB i;subst e;obtain⟨_,d,f⟩:=BR h;refine .y f (Abw λη H O a g _=>⟨_,?_,DN d⟩) λ_ _=>trivial;rw[c];exact Aq.min2 (congrArg Ac (AY j (g x (by simp_all[Op.operands,Call.operands])))) (congrArg Ac (AY l (g y (by rw[c];simp[Op.operands,Call.operands]))))
  grind
 grind
def gS{α:Type}(l a:List α):List α:=a.take (min a.length l.length)++l.drop (min a.length l.length)
theorem bg(l b:List α):(gS l b).length=l.length:=by grind[gS]
theorem Ou{α:Type}{c:Cd α}{H:Hp} :∀ {l:List α} {xs:List BU} (m:Nat),AZ c H l xs->AZ c H (l.drop m) (xs.drop (m*c.sz))
 |l,xs,0,h=>by grind
 | [],xs,m+1,h=>by grind[AZ]
 |a::l,_,m+1,⟨b,d,e,g,i⟩=>by
  have:=Ou m i;have e:(b++d).drop ((m+1)*c.sz)=d.drop (m*c.sz):=by
   have j:=c.len g;have f:(m+1)*c.sz=b.length+m*c.sz:=by grind
   grind[List.drop_drop,List.drop_left]
  grind
def bh(P:Ge)(S:Nat->SV N.T)(Rr:Nat->Option (SR N.T))(nk:Nat)(x y:Dc)(t:Ee)(k:Bq N.T->Nat->Option R):Option R:=match P.underlying t,Ay S x with
 |some (.slice e), .AG b=>match Rr b with
  |some (.row g c l)=>match Nat.beq g e&&C9 P e (c.sz N),WQ S Rr c y with
   |true,Ac (a,d)=>Af (min a.length l.length<=Ag) (k ⟨.na (min a.length l.length),d,[(b, .row g c (gS l a))]⟩ nk)
   |_,_=>C7
  |_=>C7
 |_,_=>C7
theorem fh{t2:Ee}(q:o.op= .call {callee:= .builtin .copy,args:= #[x,y],argTypes:= #[t,t2]})(h:bh P S Rr nk x y t k=Ac r):AW P C S Rr nk o k r:=by
 unfold bh at h;split at h
 ·rename_i e b U T;split at h
  ·rename_i g f l A;split at h
   ·rename_i c rd n m;obtain⟨hc,h⟩:=AQ h;refine .set h A (Agr A (by simp) λη H O a X i D w L Q=>?_) λ_ _=>trivial;rw[AS]at n;have I:=AI n.1;subst I;obtain⟨F,J,M⟩:=L;subst J;have B:(SV.AG b:SV N.T).is C η H (a.eval x):=by rw[<-T];exact D x (by rw[q];simp[Op.operands,Call.operands])
    obtain⟨G,E,s⟩:=LA m (D y (by rw[q];simp[Op.operands,Call.operands])) Q;obtain⟨bytes,z,V,W,_,_,_⟩:=DT n.2;obtain⟨ii,p,K,_,_⟩:=V.ex;have j:AZ (N.c f) H (gS l c) (G.take (min c.length l.length*f.sz N)++F.drop (min c.length l.length*f.sz N)):=by have u:=AZ.take (min c.length l.length) E;have v:=Ou (min c.length l.length) M;rw[Bk]at u v;exact u.app v
    refine⟨.row (η b) g (f.sz N) l.length (G.take (min c.length l.length*f.sz N)++F.drop (min c.length l.length*f.sz N)),⟨_,by rw[bg],j⟩,?_⟩;rw[q];rw[<-B.1]at w;refine(Akm (tys:= #[t,t2]) U p K rfl rfl rfl w s E.one).mono ?_;rintro v' Y Z ⟨rfl,rfl,rfl⟩;refine⟨rfl,by rw[B.1],rfl,?_⟩;grind
   grind
  grind
 grind
theorem YE{b:Ty}(a:b.agg=Ap):b.sz N=1:=by unfold Ty.agg at a;grind[Ty.sz]
def fdK(P:Ge)(S:Nat->SV N.T)(nk:Nat)(t:Ee)(x:Dc)(i:Nat)(k:Bq N.T->Nat->Option R):Option R:=match gC P t i with
 |some (off,c,m+1)=>match Lz N P c,Ay S x with
  |some b, .d a y=>match a.agg,EW N 16 a y off b with
   |true,Ac z=>k ⟨.d b z,[],[]⟩ nk
   |_,_=>C7
  |_,_=>C7
 |_=>C7
theorem u6{i:Nat}(A:o.op= .field t x i)(h:fdK P S nk t x i k=Ac r):AW P C S Rr nk o k r:=by
 unfold fdK at h;split at h
 ·rename_i off ft m U;obtain⟨Z,f,F,G,I,J,_⟩:=(iN.of U).ex;split at h
  ·rename_i E L y B V;split at h
   ·rename_i z s n;refine .y h (Abw λη H O a W _=>?_) λ_ _=>trivial;obtain⟨c,Q,e⟩:(SV.d L y:SV N.T).is C η H (a.eval x):=by grind[Op.operands]
    have e:(match L.agg with|true=>a.eval x= .agg c.toArray|false=>c=[a.eval x]):=e;rw[s]at e;obtain⟨d,K,j,bytes,zz,D⟩:=Iv B;obtain⟨q,v⟩:=C1 n Q;cases b:E.agg with
    |true=>
     refine⟨.agg (c.toArray.extract off (off+E.sz N)),?_,(c.drop off).take (E.sz N),q,?_⟩;· rw[A];refine Aq.Am λM w X g _ u _=>?_;have:=u x _ rf;simp[ID,g,this,e,Instr.field,AU F,G,asAgg,part,J,I,Cc K,j,b,D.sizeOf]
     ·unfold Cu;rw[b];simp only[BU.agg.injEq];simp[List.extract_eq_take_drop]
    |false=>
     have T:=YE (N:=N) b;rw[T]at q v;have l:off<c.length:=by omega
     have hc:(c.drop off).take 1=[c[off]]:=by rw[Aaw l];rfl
     rw[hc]at q;refine⟨c[off],?_,[c[off]],q,?_⟩;· rw[A];refine Aq.Am λM w X g _ u _=>?_;have:=u x _ rfl;simp[ID,g,this,e,Instr.field,AU F,G,asAgg,part,J,I,Cc K,j,b,l]
     ·unfold Cu;rw[b]
   grind
  grind
 grind
end
end
section
variable {N : C6} {R : Type} {P : Ge} {C : List (SV N.T)} {S : Nat -> SV N.T} {Rr : Nat -> Option (SR N.T)} {nk : Nat} {o : J5} {k : Bq N.T -> Nat -> Option R} {r : R}
section
variable{H:Hp}{u t:Ee}{x y:Dc}
def K3:Ty->Option (List Kj)
 | .int k=>Ac [k]
 | .st t=>K3 t
 | .pr a b=>match K3 a,K3 b with
  |some x,Ac y=>Ac (x++y)
  |_,_=>C7
 |_=>C7
def Dt:(t:Ty)->t.den N.T->List Int
 | .int _,x=>[x]
 | .st t,x=>Dt t x
 | .pr a b,x=>Dt a x.1++Dt b x.2
 |_,_=>[]
theorem CE:∀ {t:Ty} {x:t.den N.T} {d:List Kj},K3 t=Ac d->(Dt t x).length=d.length
 | .int _,_,_,h=>by cases h;rfl
 | .st t,x,_,h=>CE (t:=t) h
 | .pr a b,x,d,h=>by
  unfold K3 at h;split at h;· rename_i p q e f;cases h;show(Dt a x.1++Dt b x.2).length=_;rw[Pd,Pd,CE e,CE f]
  grind
theorem Yt:∀ {b:List Kj} {xs:List Int} {a:List Kj} {ys:List Int},xs.length=b.length->CM (b++a) (xs++ys)=CM b xs++CM a ys
 | [],[],_,_,_=>rfl
 |k::b,x::xs,_,_,h=>by grind[CM]
 | [],_::_,_,_,h=>by grind
 |_::_,[],_,_,h=>by grind
theorem DM{H:Hp} :∀ {t:Ty} {x:t.den N.T} {d:List Kj} {cs:List BU},K3 t=Ac d->(N.c t).BI H x cs->cs=CM d (Dt t x)
 | .int k,x,_,cs,h,c=>by cases h;exact(DL.1 c).1
 | .st t,x,_,cs,h,c=>DM (t:=t) h c
 | .pr a b,x,d,cs,h,c=>by
  unfold K3 at h;split at h;· rename_i p q e j;cases h;obtain⟨l,m,rfl,g,i⟩:=c;show _=CM (p++q) (Dt a x.1++Dt b x.2);rw[Yt (CE e),<-DM e g,<-DM j i]
  grind
def two(C:List (SV N.T))(t:Ty)(x y:SV N.T):Option (t.den N.T×t.den N.T):=match Ta C t x,Ta C t y with
 |some a,Ac b=>Ac (a,b)
 |_,_=>C7
def rC(P:Ge)(t:Ee)(a:List Kj):Bool:=match P.underlying t with
 |some (.array n e)=>match P.underlying e with
  |some (.int k)=>(S8 P e 1&& !P.eqGuardType P.depth t)&&(Nat.beq a.length n&&a.all λj=>kb j k)
  |_=>Ap
 |_=>Ap
theorem LQ{k:Kj} :∀ {a:List Kj} {xs:List Int},(∀j∈a,j=k)->xs.length=a.length->CM a xs=xs.map (BU.int k)
 | [],[],_,_=>rfl
 |j::a,x::xs,h,c=>by simp only[CM,List.zipWith_cons_cons,Aap,h j (by simp)];congr 1;exact LQ (λj b=>h j (by grind)) (by grind)
 | [],_::_,_,h=>by grind
 |_::_,[],_,h=>by rfl
theorem Ala{O:List Av}{E:Dc->Option BU}{T:Ee}{ne:Bool}{d:List Kj}{xs ys:List Int}(b:rC P t d=Br)(g:E x=Ac (.agg (CM d xs).toArray))(h:E y=Ac (.agg (CM d ys).toArray))(h1:xs.length=d.length)(h2:ys.length=d.length):
  Aq P (.binOp (match ne with|true=> .neq|false=> .eql) t x y u) T E H O (.bool (match ne with|true=> !decide (xs=ys)|false=>decide (xs=ys))):=by
 unfold rC at b;split at b
 ·rename_i n e p;split at b;· rename_i k l;simp only[AS,Aff]at b;obtain⟨⟨q,i⟩,c,s⟩:=b;have c:=AI c;have m:∀j∈d,j=k:=λj v=>OB (OF.1 s j v);obtain⟨bytes,z,f⟩:=Eb q;rw[LQ m h1]at g;rw[LQ m h2]at h;cases ne with
   |true=>grind[Ajr]
   |false=>exact Ajq i p l f g h (h1.trans c) (h2.trans c)
  grind
 grind
def yY(P:Ge)(C:List (SV N.T))(S:Nat->SV N.T)(nk:Nat)(ne:Bool)(t:Ee)(x y:Dc)(k:Bq N.T->Nat->Option R):Option R:=match Lz N P t with
 |some .bs=>match P.underlying t with
  |some (.array 4 e)=>match P.underlying e,S8 P e 1,P.eqGuardType P.depth t,two C .bs (Ay S x) (Ay S y)with
   |some (.int .u64),Br,Ap,Ac (a,b)=>match ne with
    |false=>k ⟨.d .bool (dO a b),[],[]⟩ nk
    |true=>k ⟨.d .bool (!dO a b),[],[]⟩ nk
   |_,_,_,_=>C7
  |_=>C7
 |some (.st u)=>match K3 u,two C (.st u) (Ay S x) (Ay S y)with
  |some c,Ac (a,b)=>match RV P t c with
   |true=>match ne with
    |false=>k ⟨.d .bool (decide (Dt u a=Dt u b)),[],[]⟩ nk
    |true=>k ⟨.d .bool (!decide (Dt u a=Dt u b)),[],[]⟩ nk
   |false=>match rC P t c with
    |true=>k ⟨.d .bool (match ne with|true=> !decide (Dt u a=Dt u b)|false=>decide (Dt u a=Dt u b)),[],[]⟩ nk
    |false=>C7
  |_,_=>C7
 |_=>C7
theorem Pb{t:Ty}{x y:SV N.T}{a b:t.den N.T}{η:Nat->BU}{v w:BU}(h:two C t x y=Ac (a,b))(e:x.is C η H v)(f:y.is C η H w):(SV.d t a).is C η H v/\(SV.d t b).is C η H w:=by grind[two,Dm]
theorem ok_eq{ne:Bool}(s:o.op= .binOp (match ne with|true=> .neq|false=> .eql) t x y u)(h:yY P C S nk ne t x y k=Ac r):AW P C S Rr nk o k r:=by
 have v:∀ {η:Nat->BU} {H:Hp} {a:Act},(∀x∈o.op.operands,(Ay S x).is C η H (a.eval x))->(Ay S x).is C η H (a.eval x):=λc=>c x (by grind[Op.operands]);have A:∀ {η:Nat->BU} {H:Hp} {a:Act},(∀x∈o.op.operands,(Ay S x).is C η H (a.eval x))->(Ay S y).is C η H (a.eval y):=λc=>c y (by grind[Op.operands]);unfold yY at h;split at h
 ·split at h
  ·rename_i e K;split at h
   ·rename_i a b I Q J D;obtain⟨bytes,z,B⟩:=Eb Q;have val:∀ {η:Nat->BU} {H:Hp} {f:Act},(∀x∈o.op.operands,(Ay S x).is C η H (f.eval x))->f.eval x= .agg (NN a)/\f.eval y= .agg (NN b):=λc=>by
     obtain⟨⟨F,g,m⟩,G,i,n⟩:=Pb D (v c) (A c);subst g;subst i;have m:_=BU.agg (NN a).toList.toArray:=m;have n:_=BU.agg (NN b).toList.toArray:=n;exact⟨m,n⟩
    split at h;· refine .y h (Abw λη H O f c _=>?_) λ_ _=>trivial;obtain⟨p,q⟩:=val c;exact⟨_,by rw[s];exact Aja J K I B (congrArg Ac p) (congrArg Ac q),CL⟩
    ·refine .y h (Abw λη H O f c _=>?_) λ_ _=>trivial;obtain⟨p,q⟩:=val c;exact⟨_,by rw[s];exact Aiw J K I B (congrArg Ac p) (congrArg Ac q),CL⟩
   grind
  grind
 ·rename_i w M;split at h
  ·rename_i L a b l D;split at h
   ·rename_i E;have val:∀ {η:Nat->BU} {H:Hp} {f:Act},(∀x∈o.op.operands,(Ay S x).is C η H (f.eval x))->f.eval x= .agg (CM L (Dt w a)).toArray/\f.eval y= .agg (CM L (Dt w b)).toArray:=λc=>by
     obtain⟨⟨F,g,m⟩,G,i,n⟩:=Pb D (v c) (A c);have g:=DM (t:=w) l g;have i:=DM (t:=w) l i;subst g;subst i;exact⟨m,n⟩
    split at h;· refine .y h (Abw λη H O f c _=>?_) λ_ _=>trivial;obtain⟨p,q⟩:=val c;exact⟨_,by rw[s];exact Alb E (congrArg Ac p) (congrArg Ac q) (CE l) (CE l),CL⟩
    ·refine .y h (Abw λη H O f c _=>?_) λ_ _=>trivial;obtain⟨p,q⟩:=val c;exact⟨_,by rw[s];exact Ale E (congrArg Ac p) (congrArg Ac q) (CE l) (CE l),CL⟩
   ·split at h;· rename_i E;refine .y h (Abw λη H O f c _=>?_) λ_ _=>trivial;obtain⟨⟨F,g,m⟩,G,i,n⟩:=Pb D (v c) (A c);have g:=DM (t:=w) l g;have i:=DM (t:=w) l i;subst g;subst i;exact⟨_,by rw[s];exact Ala (ne:=ne) E (congrArg Ac m) (congrArg Ac n) (CE l) (CE l),CL⟩
    ·cases h
  ·cases h
 grind
def bR(P:Ge)(C:List (SV N.T))(S:Nat->SV N.T)(nk:Nat)(b:BinOp)(t:Ee)(x y:Dc)(k:Bq N.T->Nat->Option R):Option R:=match wv P t with
 |true=>match b with
  | .eql=>yY P C S nk Ap t x y k
  | .neq=>yY P C S nk Br t x y k
  |_=>C7
 |false=>rp P S nk b t x y k
theorem fk{b:BinOp}(a:o.op= .binOp b t x y u)(h:bR P C S nk b t x y k=Ac r):AW P C S Rr nk o k r:=by
 unfold bR at h;split at h
 ·split at h;· exact ok_eq (ne:=Ap) a h
  ·exact ok_eq (ne:=Br) a h
  grind
 grind[o0]
end
end
section
variable{Y:List (Nat×Av)}{k:Nat}
def GQ(Y:List (Nat×Av))(k:Nat):List (Nat×Av):=Y.filter λp=> !Nat.beq p.1 k
theorem E9{Y:List (Nat×Av)}{k j:Nat}(h:j≠k):Ax (GQ Y k) j=Ax Y j:=by
 induction Y with
 |nil=>rfl
 |cons p Y b=>
  obtain⟨q,y⟩:=p;simp only[GQ,Aer]at b⊢;cases c:Nat.beq q k with
  |true=>
   have:=AI c;simp only[Ahu,Aee,if_false,b,Ax];grind[Nat.beq,absurd,Nat.eq_of_beq_eq_true]
  |false=>
   grind[Ax]
theorem DO{Y:List (Nat×Av)}{k j:Nat}(h:j∈keys (GQ Y k)):j∈keys Y:=by obtain⟨p,a,e⟩:=By.1 h;exact By.2 ⟨p,(Aax.1 a).1,e⟩
theorem JD(h:(keys Y).Nodup):(keys (GQ Y k)).Nodup:=by grind[keys,GQ]
theorem Xx(h:k∉keys Y):GQ Y k=Y:=by
 unfold GQ;rw[List.filter_eq_self];intro p b;cases a:Nat.beq p.1 k with
 |true=>exact absurd (By.2 ⟨p,b,AI a⟩) h
 |false=>rfl
theorem Xv(Of:List Av){x:Av}(d:(keys Y).Nodup)(h:Ax Y k=Ac x):∃i,(Y.map (·.2)++Of)[i]?=Ac x/\(Y.map (·.2)++Of).eraseIdx i=(GQ Y k).map (·.2)++Of:=by
 induction Y with
 |nil=>cases h
 |cons p Y g=>
  obtain⟨q,y⟩:=p;simp only[Ax]at h;simp only[keys,Aap,Abl]at d;cases b:Nat.beq q k with
  |true=>
   rw[b]at h;cases h;have:=AI b;refine⟨0,rfl,?_⟩;have:GQ ((q,x)::Y) q=Y:=by unfold GQ;rw[Aer];simp only[Agz,Ahu,Aee,if_false];exact Xx d.1
   grind
  |false=>
   rw[b]at h;obtain⟨i,e,f⟩:=g d.2 h;refine⟨i+1,by simpa using e,?_⟩;simp_all[GQ]
end
section
variable {N : C6}
def Gv(k:Nat)(t:Ty)(l:List (t.den N.T)):SV N.T->SV N.T
 | .AG j=>match Nat.beq j k with
  |true=> .d (.sl t) l
  |false=> .AG j
 | .DU j i off g x=>match Nat.beq j k with
  |true=> .no
  |false=> .DU j i off g x
 | .lf s a r=> .lf s (Gv k t l a) (Gv k t l r)
 | .t2 a b=> .t2 (Gv k t l a) (Gv k t l b)
 | .t3 a b c=> .t3 (Gv k t l a) (Gv k t l b) (Gv k t l c)
 | .AK f r e=> .AK f (Gv k t l r) e
 | .vc a r=> .vc (Gv k t l a) (Gv k t l r)
 |s=>s
variable {C : List (SV N.T)} {η : Nat -> BU} {H : Hp}
theorem CJ{g:Nat->BU->Prop}{k:Nat}{t:Ty}{l:List (t.den N.T)}(h:GI (N.c t) H l (η k)):∀ {s:SV N.T} {v:BU},s.BN g η H v->(Gv k t l s).BN g η H v
 | .AG j,v,o=>by
  unfold Gv;split;· rename_i E;have:=AI E;subst this;exact⟨[v],⟨v,rfl,by rw[o.1];omega⟩,rfl⟩
  omega
 | .DU j i off I x,v,o=>by unfold Gv;split;all_goals trivial
 | .lf s a r,v,⟨w,A,u,e,m,n,p,B,D⟩=>⟨w,A,u,e,m,CJ h n,p,B,CJ h D⟩
 | .t2 a b,v,⟨x,y,e,m,n⟩=>⟨x,y,e,CJ h m,CJ h n⟩
 | .t3 a b c,v,⟨x,y,z,e,m,n,p⟩=>⟨x,y,z,e,CJ h m,CJ h n,CJ h p⟩
 | .AK f r G,v,⟨q,e,m⟩=>⟨q,e,CJ h m⟩
 | .vn,_,h=>h
 | .vc a r,v,⟨u,q,e,m,n⟩=>⟨u,q,e,CJ h m,CJ h n⟩
 | .d _ _,_,h=>h
 | .na _,_,h=>h
 | .ct _ _,_,h=>h
 | .cb _ _,_,h=>h
 | .lt _ _ _,_,h=>h
 | .lb _,_,h=>h
 | .raw _,_,h=>h
 | .ud,_,h=>h
 | .no,_,h=>h
 | .loc _ _,_,h=>h
 | .pd _ _ _,_,h=>h
 | .mp _,_,h=>h
 | .nl,_,h=>h
 | .px _ _,_,h=>h
 | .Cr _,_,h=>h
end
theorem LI{Y:List (Nat×Av)}(Of:List Av){k:Nat}{x:Av}(h:Ax Y k=Ac x):(Y.map (·.2)++Of)[(keys Y).idxOf k]?=Ac x/\(keys Y).idxOf k<Y.length:=by
 induction Y with
 |nil=>cases h
 |cons p Y f=>
  obtain⟨q,y⟩:=p;simp only[Ax]at h;simp only[keys,Aap];rw[List.idxOf_cons];cases b:Nat.beq q k with
  |true=>
   simp_all
  |false=>
   rw[b]at h;have c:(q==k)=Ap:=by simpa using Abe b
   obtain⟨d,e⟩:=f h;rw[c];unfold keys at d e;exact⟨by simpa using d,by simpa using e⟩
inductive PP where
 |sub (j n:Nat) (t:Ty)
 |sf
 |hc (n:Nat)
inductive SP where
 |v (j:Nat) (t:Ty)
 |AH (j i:Nat)
 |nat (j:Nat)
 |Ak
 |kp (t:Ty)
 |c (j:Nat)
 |AG (k:Nat)
 |loc (k off:Nat)
 |AK (f:Nat) (fs:List (Nat×Ty)) (cs:List Nat)
 |nl
 |sv (ls:List (Nat×Nat×Ty))
 |mp (k:Nat)
 |px (ks:List Nat) (p:PP)
 |pd (j:Nat) (t:Ty) (off:Nat)
inductive RP where
 |row (g:Ee) (j:Nat)
 |Ah (g:Ee) (ls:List (Nat×SP))
 |c (j:Nat)
 |map (g:Ee) (j:Nat)
 |Ep (g e:Ee) (h j:Nat)
inductive HT where
 |Ae (t:Ty)
 |nat
structure A9 where
 hs:List HT
 sl:List (Nat×SP)
 ro:List (Nat×RP)
 nk:Nat
section
variable (N : C6)
section
variable{T:Nat->Type}
def HT.den:HT->Type
 | .Ae t=>t.den N.T
 | .nat=>Nat
def BV:List HT->Type
 | []=>Unit
 | [t]=>t.den N
 |t::u::a=>t.den N×BV (u::a)
def asN:SV T->Option Nat
 | .na n| .ct _ n| .cb _ n=>Ac n
 | .raw (.int .i64 (.ofNat n))=>match Nat.ble n QP with
  |true=>Ac n
  |false=>C7
 |_=>C7
def uc(C:List (SV N.T)):(h:HT)->SV N.T->Option (h.den N)
 | .Ae t,s=>Ta C t s
 | .nat,s=>asN s
def dJ:(h:HT)->h.den N->SV N.T
 | .Ae t,x=> .d t x
 | .nat,n=> .na n
def vM(C:List (SV N.T))(f:Nat->SV N.T):Nat->(a:List HT)->Option (BV N a)
 |_,[]=>Ac ()
 |j,[t]=>uc N C t (f j)
 |j,t::u::b=>match uc N C t (f j),vM C f (j+1) (u::b)with
  |some x,Ac y=>Ac (x,y)
  |_,_=>C7
def Cq:(a:List HT)->BV N a->Nat->SV N.T
 | [],_,_=> .no
 | [t],x,0=>dJ N t x
 | [_],_,_+1=> .no
 |t::_::_,x,0=>dJ N t x.1
 |_::u::b,x,j+1=>Cq (u::b) x.2 j
def uD(a:List HT)(x:BV N a):List (Nat×Ty)->SV N.T
 | []=> .vn
 |(j,_)::l=> .vc (Cq N a x j) (uD a x l)
def nQ(a:List HT)(x:BV N a):List (Nat×Nat×Ty)->SV N.T
 | []=> .nl
 |(s,j,_)::l=> .lf s (Cq N a x j) (nQ a x l)
def inst(a:List HT)(x:BV N a):SP->SV N.T
 | .v j _| .nat j=>Cq N a x j
 | .AH j i=>match Cq N a x j with
  | .na n=> .ct i n
  |s=>s
 | .c j=> .Cr j
 | .AG k=> .AG k
 | .loc k off=> .loc k off
 | .AK f g e=> .AK f (uD N a x g) e
 | .nl=> .raw (.slice C7 0 0)
 | .sv h=>nQ N a x h
 | .mp k=> .mp k
 | .px b (.sub j n t)=>match Cq N a x j,Cq N a x n with
  | .na i, .na m=> .px b (.sub i m t)
  |_,_=> .px b .any
 | .px b .sf=> .px b .sf
 | .px b (.hc n)=> .px b (.hc n)
 | .pd j _ off=>match Cq N a x j with
  | .d t x=> .pd t x off
  |_=> .no
 |_=> .no
def instL(a:List HT)(x:BV N a):List (Nat×SP)->SV N.T
 | []=> .nl
 |(s,p)::b=> .lf s (inst N a x p) (instL a x b)
def instR(a:List HT)(x:BV N a):RP->SR N.T
 | .row g j=>match Cq N a x j with
  | .d (.sl t) l=> .row g t l
  |_=> .gone
 | .Ah g f=> .Ah g (instL N a x f)
 | .c j=> .Cr j
 | .map g j=>match Cq N a x j with
  | .d (.sl (.st (.pr b i))) l=> .map g b i l
  |_=> .gone
 | .Ep g e h j=>match Cq N a x j with
  | .d (.sl (.pr .bool (.sl t))) l=> .Ep g e t h l
  |_=> .gone
def Fl(p:A9)(x:BV N p.hs):St N.T:=⟨p.sl.map λq=>(q.1,inst N p.hs x q.2),p.ro.map λq=>(q.1,instR N p.hs x q.2),p.nk⟩
def RL:SV N.T->Nat->Nat->Option (SV N.T)
 | .lf s a l,off,n=>match Nat.blt off s with
  |true=>match Nat.beq off 0&&Nat.beq s n with
   |true=>Ac a
   |false=>C7
  |false=>RL l (off-s) n
 |_,_,_=>C7
def Tr:SV N.T->Nat
 | .lf s _ l=>s+Tr l
 |_=>0
def whole{T:Nat->Type} :SV T->Bool
 | .lf _ _ r=>whole r
 | .nl=>Br
 |_=>Ap
def WG:SV N.T->Nat
 | .d t _=>t.sz N
 |_=>1
def yD(f:Nat->Nat)(c:Nat):Option (SV N.T)->Bool
 |some (.px [k] .sf)=>Nat.beq (f c) k
 |some (.loc k 0)=>Nat.beq (f c) k
 |some (.raw (.pointer C7))=>Br
 |_=>Ap
def NH:Nat->List (Nat×SP)->List (Nat×Nat×SP)
 |_,[]=>[]
 |off,(s,p)::l=>(off,s,p)::NH (off+s) l
def AV(m:List (Nat×Nat))(c:Nat):Nat:=match Ax m c with
 |some k=>k
 |none=>c
def Pj(l:List (Nat×SP)):Nat:=l.foldr (λq n=>q.1+n) 0
def kmL(C:List (SV N.T))(b:SV N.T)(l:List (Nat×SP)):List (Nat×Nat):=(NH 0 l).flatMap λq=>match q.2.2,Ez N C b q.1 C7 with
 | .AG c,Ac (.AG k)=>[(c,k)]
 | .mp c,Ac (.mp k)=>[(c,k)]
 | .px d .sf,Ac (.px e .sf)=>d.zip e
 | .px [c] .sf,Ac (.loc k _)=>[(c,k)]
 | .AK _ _ d,Ac (.AK _ _ e)=>d.zip e
 |_,_=>[]
def qj(C:List (SV N.T))(b:SV N.T)(l:List (Nat×SP)):List (Nat×SV N.T):=(NH 0 l).flatMap λq=>match q.2.2 with
 | .v j t=>[(j,(Ez N C b q.1 (Ac t)).getD .no)]
 | .nat j=>[(j,(Ez N C b q.1 C7).getD .no)]
 |_=>[]
end
end
section
variable {N : C6} {C : List (SV N.T)} {CR : List (SR N.T)} {n : Nat} {Of : List Av} {bs : List (Nat × BU)} {st : St N.T} {η : Nat -> BU} {H : Hp} {a : Act} {w : GD}
section
variable{s:SV N.T}{v:BU}{C':List (SV N.T)}{m:Nat}{h:HT}{x:h.den N}{η':Nat->BU}{c:List BU}
theorem ry(h:asN s=Ac m)(b:s.is C η H v):(SV.na m:SV N.T).is C η H v:=by
 unfold asN at h;split at h;· grind
 ·cases h;exact b
 ·cases h;exact⟨b.1,Agy b.2⟩
 ·split at h;· rename_i c;cases h;exact⟨b,Aba c⟩
  grind
 grind
theorem rz(c:uc N C h s=Ac x)(b:s.is C η H v):(dJ N h x).is C η H v:=by
 cases h with
 |Ae t=>exact Dm (t:=t) c b
 |nat=>exact ry c b
theorem d'(b:(dJ N h x).is C η H v):(dJ N h x).is C' η' H v:=by cases h<;>exact b
theorem Jv{f:Nat->SV N.T} :∀(b:List HT) (i:Nat) (x:BV N b),vM N C f i b=Ac x->∀j,Cq N b x j= .no\/∃h y,uc N C h (f (i+j))=Ac y/\Cq N b x j=dJ N h y
 | [],_,_,_,_=> .inl rfl
 | [t],i,x,h,j=>by
  cases j with
  |zero=>exact .inr ⟨t,x,h,rfl⟩
  |succ j=>exact .inl rfl
 |t::u::c,i,x,h,j=>by
  have h:(match uc N C t (f i),vM N C f (i+1) (u::c)with
   |some x,Ac y=>Ac (x,y)
   |_,_=>C7)=Ac x:=h;split at h;· rename_i y z d e;cases h;cases j with
   |zero=>exact .inr ⟨t,y,d,rfl⟩
   |succ j=>
    have:=Jv (u::c) (i+1) z e j;rw[show i+1+j=i+(j+1) by omega]at this;trivial
  grind
theorem BF:∀ {l:List Nat},Cf l=Br->l.Nodup
 | [],_=>Agj
 |k::l,h=>by simp only[Cf,AS,Aff]at h;refine Abl.2 ⟨λb=>?_,BF h.2⟩;grind[AP]
theorem PO{α:Type}{f:α->Nat} :∀ {l:List α},(l.map f).Nodup->∀ {a b:α},a∈l->b∈l->f a=f b->a=b
 | [],_,_,_,h,_,_=>by grind
 |x::l,c,a,b,m,o,e=>by
  rw[Aap,Abl]at c;rcases Aay.1 m with g|j<;>rcases Aay.1 o with i|k;· grind
  ·grind
  ·grind
  ·exact PO c.2 j k e
theorem Gu{b:SV N.T}{q:Nat×Nat×SP}{l:List (Nat×SP)}(h:q∈NH 0 l):(∀j t,q.2.2= .v j t->(j,(Ez N C b q.1 (Ac t)).getD .no)∈qj N C b l)/\∀j,q.2.2= .nat j->(j,(Ez N C b q.1 C7).getD .no)∈qj N C b l:=
 ⟨λj t e=>Aac.2 ⟨q,h,by grind⟩,λj e=>Aac.2 ⟨q,h,by grind⟩⟩
theorem J1:∀ {l:SV N.T} {cs:List BU},whole l=Br->l.is C η H (.agg cs.toArray)->∀x∈cs,x.oneCell'=Br:=by
 intro l;induction l with
 |lf s a r _ f=>
  intro cs c h x b;obtain⟨g,i,u,rfl,j,k,m,d,e⟩:=Fj h;rcases AT.1 b with b|b;· grind
  ·exact f c e x b
 |nl=>
  intro cs _ h x b;have:cs=[]:=by have h:BU.agg cs.toArray= .agg #[]:=h;grind
  grind
 |_=>intro cs c _;cases c
theorem HH:∀ {l:SV N.T} {cs:List BU},whole l=Br->l.is C η H (.agg cs.toArray)->Tr N l=cs.length:=by
 intro l;induction l with
 |lf s a r _ d=>
  intro cs b h;obtain⟨e,f,u,rfl,g,i,j,k,c⟩:=Fj h;have:=d b c;grind[Tr]
 |nl=>
  intro cs _ h;have:cs=[]:=by have h:BU.agg cs.toArray= .agg #[]:=h;grind
  subst this;rfl
 |_=>intro cs b _;cases b
theorem ZX:∀ {l s:SV N.T} {off m:Nat} {cs:List BU},RL N l off m=Ac s->l.is C η H (.agg cs.toArray)->∃u,s.is C η H u/\u.cells.toList=(cs.drop off).take m/\u.cells.toList.length=m:=by
 intro l;induction l with
 |lf s a r _ p=>
  intro sv off m cs h o;obtain⟨y,z,u,rfl,c,j,e,A,k⟩:=Fj o;unfold RL at h;split at h
  ·split at h;· rename_i b;cases h;simp only[AS]at b;have g:=AI b.1;have i:=AI b.2;subst g;subst i;exact⟨u,j,by rw[e,Afi,Ack (by omega),<-c,Aau],by rw[e];exact c⟩
   grind
  ·rename_i b;have b:s<=off:=by
    rcases Aak off s with d|d;· rw[show Nat.blt off s=Br by simpa using d]at b;cases b
    ·exact d
   obtain⟨x,q,t,v⟩:=p h k;refine⟨x,q,?_,v⟩;rw[Acu,Abf (by omega),Abp,c];exact t
 |_=>intro sv off m cs h _;simp[RL]at h
structure cC(C:List (SV N.T))(Hs:List (Nat×SV N.T))(P:Nat->SV N.T):Prop where
 ok:∀j s,(j,s)∈Hs->P j= .no\/∃h y,uc N C h s=Ac y/\P j=dJ N h y
theorem cC.is{Hs:List (Nat×SV N.T)}{P:Nat->SV N.T}(h:cC C Hs P){j:Nat}(d:(j,s)∈Hs)(f:s.is C η H v):(P j).is C' η' H v:=by
 rcases h.ok j s d with e|⟨g,y,b,c⟩;· rw[e];trivial
 ·rw[c];exact d' (rz b f)
theorem YP{cs:List BU}{off:Nat}(h:(cs.drop off).take m=c)(d:c.length=m):cs.drop off=c++cs.drop (off+m):=by grind[List.drop_drop,List.take_append_drop]
theorem YU{f:Nat->Nat}{c:Nat}{u:BU}(b:yD N f c (Ac s)=Br)(h:s.is C η H u) :(SV.px [c] .sf:SV N.T).is C' (λc=>η (f c)) H u/\WG N s=1:=by
 unfold yD at b;split at b;· rename_i k e;cases e;have:=AI b;subst this;trivial
 ·rename_i k e;cases e;have:=AI b;obtain⟨B,d,g⟩:=h;exact⟨.inr ⟨B,by grind,g⟩,rfl⟩
 ·rename_i e;cases e;exact⟨.inl h,rfl⟩
 grind
theorem Ct{sv:SV N.T}(h:wC C η H sv c):c.length=WG N sv:=by
 obtain⟨u,i,b,d⟩:=h;rcases d with⟨j,y,rfl,e⟩|⟨g,f⟩;· exact e
 ·rw[<-b,A' g];cases sv<;>first|rfl|grind
end
end
def SV.DA{T:Nat->Type}(ρ:Nat->Nat):SV T->SV T
 | .loc k o=> .loc (ρ k) o
 | .AG k=> .AG (ρ k)
 | .mp k=> .mp (ρ k)
 | .DU _ _ _ _ _=> .no
 | .lf s a l=> .lf s (a.DA ρ) (l.DA ρ)
 | .t2 a b=> .t2 (a.DA ρ) (b.DA ρ)
 | .t3 a b c=> .t3 (a.DA ρ) (b.DA ρ) (c.DA ρ)
 | .AK f l cs=> .AK f (l.DA ρ) (cs.map ρ)
 | .vc a l=> .vc (a.DA ρ) (l.DA ρ)
 | .px e p=> .px (e.map ρ) p
 |s=>s
def SR.DA{T:Nat->Type}(ρ:Nat->Nat):SR T->SR T
 | .Ah g l=> .Ah g (l.DA ρ)
 | .row g t l=> .row g t l
 | .map g a b l=> .map g a b l
 | .Ep g e t h l=> .Ep g e t (ρ h) l
 |_=> .gone
section
variable {N : C6} {C : List (SV N.T)} {η η' : Nat -> BU} {H : Hp}
section
variable{ρ:Nat->Nat}{C':List (SV N.T)}
theorem Afu{g:Nat->BU->Prop}{ρ:Nat->Nat} :∀ {s:SV N.T} {v:BU},(∀k∈s.AJ,η' (ρ k)=η k)->s.BN g η H v->(s.DA ρ).BN g η' H v
 | .d t x,v,_,h=>h
 | .na _,_,_,h=>h
 | .ct _ _,_,_,h=>h
 | .cb _ _,_,_,h=>h
 | .lt _ _ _,_,_,h=>h
 | .lb _,_,_,h=>h
 | .raw _,_,_,h=>h
 | .ud,_,_,h=>h
 | .no,_,_,h=>h
 | .loc k o,_,e,h=>by grind[SV.DA,SV.BN,SV.AJ]
 | .AG k,_,e,h=>by grind[SV.DA,SV.BN,SV.AJ]
 | .DU _ _ _ _ _,_,_,_=>trivial
 | .pd t x off,v,_,h=>h
 | .mp k,_,e,h=>by grind[SV.DA,SV.BN,SV.AJ]
 | .lf s a l,v,e,⟨A,B,u,m,i,n,q,E,F⟩=>⟨A,B,u,m,i,Afu (λk j=>e k (by grind[SV.AJ])) n,q,E,Afu (λk j=>e k (by grind[SV.AJ])) F⟩
 | .nl,_,_,h=>h
 | .t2 a b,v,e,⟨x,y,m,i,n⟩=>⟨x,y,m,Afu (λk j=>e k (by grind[SV.AJ])) i,Afu (λk j=>e k (by grind[SV.AJ])) n⟩
 | .t3 a b c,v,e,⟨x,y,z,m,i,n,q⟩=>⟨x,y,z,m,Afu (λk j=>e k (by grind[SV.AJ])) i,Afu (λk j=>e k (by grind[SV.AJ])) n,Afu (λk j=>e k (by grind[SV.AJ])) q⟩
 | .AK f l I,v,e,⟨w,m,i⟩=>⟨w,by simp_all[SV.AJ],Afu (λk j=>e k (by grind[SV.AJ])) i⟩
 | .vn,_,_,h=>h
 | .vc a l,v,e,⟨u,w,m,i,n⟩=>⟨u,w,m,Afu (λk j=>e k (by grind[SV.AJ])) i,Afu (λk j=>e k (by grind[SV.AJ])) n⟩
 | .px r p,v,e,h=>by
  have D:(r.map ρ).map η'=r.map η:=by simp_all[SV.AJ]
  show p.is ((r.map ρ).map η') H v;rw[D];exact h
 | .Cr _,_,_,h=>h
theorem SR.Mp{k:Nat}{s:SR N.T}{r:Av}(f:η' (ρ k)=η k)(e:∀j∈s.AJ,η' (ρ j)=η j)(h:s.is [] η H k r):(s.DA ρ).is C' η' H (ρ k) r:=by
 cases s with
 |Ah g l=>
  obtain⟨B,i,b,a,c⟩:=h;exact⟨B,i,f.trans b,a,SV.BN.imp (λ_ _ ⟨_,h,_⟩=>by grind) (Afu e c)⟩
 |row g t l=>obtain⟨d,b,a⟩:=h;exact⟨d,by grind,a⟩
 |Cr j=>trivial
 |gone=>trivial
 |map g p q l=>obtain⟨B,b,a⟩:=h;exact⟨B,f.trans b,a⟩
 |Ep g o t m l=>obtain⟨d,n,b,a,c⟩:=h;exact⟨d,n,by grind,(e m (by simp[SR.AJ])).trans a,c⟩
theorem SV.Mp{s:SV N.T}{v:BU}(e:∀k∈s.AJ,η' (ρ k)=η k)(h:s.is [] η H v):(s.DA ρ).is C' η' H v:=
 SV.BN.imp (λ_ _ ⟨_,h,_⟩=>by grind) (Afu e h)
theorem SH.Tm{w:GD}{Y Z:List (Nat×Av)}{Of:List Av}(h:SH w H (Y.map (·.2)++Of))(t:(keys Z).Nodup)(u:∀p∈Z,Ax Y p.1=Ac p.2):SH w H (Z.map (·.2)++Of):=by
 refine h.pick (λi=>match Z[i]? with
  |some p=>(keys Y).idxOf p.1
  |none=>Y.length+(i-Z.length)) (λi r E=>?_) λi j B D e=>?_;· cases s:Z[i]? with
  |some p=>
   grind[List.getElem?_append_left,LI,List.mem_of_getElem?]
  |none=>
   grind
 ·have lt:∀ {i:Nat} {p:Nat×Av},Z[i]?=Ac p->(keys Y).idxOf p.1<Y.length:=λ{i} {p} s=>(LI Of (u p (Aai s))).2;cases b:Z[i]? with
  |some p=>
   cases a:Z[j]? with
   |some q=>
    simp only[b,a]at e;have y:=Dd (u q (Aai a));have n:(keys Y)[(keys Y).idxOf p.1]?=Ac p.1:=by grind
    have x:(keys Y)[(keys Y).idxOf q.1]?=Ac q.1:=by grind
    rw[e,x]at n;have o:=Abo n;have k:(keys Z)[i]?=Ac p.1:=by unfold keys;rw[Abx,b];rfl
    have l:(keys Z)[j]?=Ac q.1:=by unfold keys;rw[Abx,a];rfl
    obtain⟨f,k⟩:=No.1 k;obtain⟨g,l⟩:=No.1 l;rcases Adb i j with d|v|d;· exact(Abd.1 t i j f g d (by rw[k,l];exact o.symm)).elim
    ·exact v
    ·exact(Abd.1 t j i g f d (by rw[k,l];exact o)).elim
   |none=>
    simp only[b,a]at e;have:=lt b;omega
  |none=>
   cases a:Z[j]? with
   |some q=>
    simp only[b,a]at e;have:=lt a;omega
   |none=>
    simp only[b,a]at e;have z:=Agm.1 b;have A:=Agm.1 a;omega
end
end
structure PQ(N:C6)where
 pi:A9
 po:A9
 rk:Nat
 gone:List Nat
 F:BV N pi.hs->Option (BV N po.hs)
def H8:List (Nat×SP)->Nat->SP:=λl i=>match Ax l i with
 |some p=>p
 |none=> .Ak
section
variable {N : C6}
def Ja(q:PQ N)(y:BV N q.po.hs):SV N.T:=match q.rk with
 |0=> .raw (.tuple #[])
 |1=>inst N q.po.hs y (H8 q.po.sl 0)
 |2=> .t2 (inst N q.po.hs y (H8 q.po.sl 0)) (inst N q.po.hs y (H8 q.po.sl 1))
 |_=> .t3 (inst N q.po.hs y (H8 q.po.sl 0)) (inst N q.po.hs y (H8 q.po.sl 1)) (inst N q.po.hs y (H8 q.po.sl 2))
structure PIn(q:PQ N)(x:BV N q.pi.hs)(η:Nat->BU)(H:Hp)(Y:List (Nat×Av))(vs:List BU):Prop where
 len:vs.length=q.pi.sl.length
 sl:∀p∈q.pi.sl,∃v,vs[p.1]?=Ac v/\(inst N q.pi.hs x p.2).is [] η H v
 ks:keys Y=q.pi.ro.map (·.1)
 ro:∀p∈q.pi.ro,∃X,Ax Y p.1=Ac X/\(instR N q.pi.hs x p.2).is [] η H p.1 X
 inv:N.inv H
structure wD(q:PQ N)(y:BV N q.po.hs)(η η':Nat->BU)(H':Hp)(Y Y':List (Nat×Av))(v:BU):Prop where
 env:∀k,k<q.pi.nk->η' k=η k
 nd:(keys Y').Nodup
 ks:∀k∈keys Y',k∈keys Y\/k∈q.po.ro.map (·.1)
 ro:∀p∈q.po.ro,∃X,Ax Y' p.1=Ac X/\(instR N q.po.hs y p.2).is [] η' H' p.1 X
 st:∀k∈keys Y,k∉q.po.ro.map (·.1)->k∉q.gone->Ax Y' k=Ax Y k
 res:(Ja q y).is [] η' H' v
structure Dx(P:Ge)(f:Nat)(q:PQ N):Prop where
 Uc:QF P f
 ok:∀x y,q.F x=Ac y->∀(η:Nat->BU) (H:Hp) (Of:List Av) (Y:List (Nat×Av)) (vs:List BU),(keys Y).Nodup->PIn q x η H Y vs->
  O5 P f vs H (Y.map (·.2)++Of) (λv H' O'=> ∃η' Y',O'=Y'.map (·.2)++Of/\wD q y η η' H' Y Y' v)
def yA(q:PQ N):Bool:=((q.pi.ro.map (·.1)).all λk=>Nat.blt k q.pi.nk)&&(Cf (q.pi.ro.map (·.1))&&(Cf (q.po.ro.map (·.1))&&(Nat.ble q.pi.nk q.po.nk&&(((q.po.ro.map (·.1)).all λk=>BZ (q.pi.ro.map (·.1)) k||(Nat.ble q.pi.nk k&&Nat.blt k q.po.nk))&&(q.gone.all λk=>BZ (q.pi.ro.map (·.1)) k)))))
def qkS(A:Nat->SV N.T)(l:List (Nat×SP)):List (Nat×Nat):=l.flatMap λq=>match q.2,A q.1 with
 | .AG c, .AG k=>[(c,k)]
 | .loc c _, .loc k _=>[(c,k)]
 | .AK _ _ a, .AK _ _ b=>a.zip b
 | .mp c, .mp k=>[(c,k)]
 | .px a _, .px b _=>a.zip b
 |_,_=>[]
def qkR(C:List (SV N.T))(Rr:Nat->Option (SR N.T))(m:List (Nat×Nat))(l:List (Nat×RP)):List (Nat×Nat):=l.flatMap λq=>match q.2,Rr (AV m q.1)with
 | .Ah _ a,Ac (.Ah _ b)=>kmL N C b a
 |_,_=>[]
def uE:List (Nat×Ty)->SV N.T->List (Nat×SV N.T)
 |(j,_)::l, .vc a r=>(j,a)::uE l r
 |_,_=>[]
def vcB:List (Nat×Ty)->SV N.T->Bool
 | [], .vn=>Br
 |_::l, .vc _ r=>vcB l r
 |_,_=>Ap
def tX(ls:List (Nat×Nat×Ty)):List (Nat×SP):=ls.map λq=>(q.1, .v q.2.1 q.2.2)
def dM(C:List (SV N.T))(A:Nat->SV N.T)(l:List (Nat×SP)):List (Nat×SV N.T):=l.flatMap λq=>match q.2,A q.1 with
 | .v j _,s=>[(j,s)]
 | .nat j,s=>[(j,s)]
 | .AK _ a _, .AK _ r _=>uE a r
 | .sv b,s=>qj N C s (tX b)
 | .px _ (.sub j n _), .px _ (.sub i m _)=>[(j, .na i),(n, .na m)]
 | .pd j _ _, .pd t x _=>[(j, .d t x)]
 |_,_=>[]
def dN(C:List (SV N.T))(Rr:Nat->Option (SR N.T))(m:List (Nat×Nat))(l:List (Nat×RP)):List (Nat×SV N.T):=l.flatMap λq=>match q.2,Rr (AV m q.1)with
 | .row _ j,Ac (.row _ t x)=>[(j, .d (.sl t) x)]
 | .map _ j,Ac (.map _ a e x)=>[(j, .d (.sl (.st (.pr a e))) x)]
 | .Ah _ c,Ac (.Ah _ b)=>qj N C b c
 |_,_=>[]
def Nb:List Nat->List Nat->Bool
 | [],[]=>Br
 |a::l,b::m=>Nat.beq a b&&Nb l m
 |_,_=>Ap
theorem Fc:∀ {l m:List Nat},Nb l m=Br->l=m
 | [],[],_=>rfl
 | [],_::_,h=>by cases h
 |_::_,[],h=>by cases h
 |a::l,b::m,h=>by simp only[Nb,AS]at h;rw[AI h.1,Fc h.2]
def yH(C:List (SV N.T))(b:SV N.T)(m:List (Nat×Nat))(q:Nat×Nat×SP):Bool:=match q.2.2 with
 | .v _ t=>match Ez N C b q.1 (Ac t)with
  |some sv=>Nat.beq (WG N sv) q.2.1
  |none=>Ap
 | .nat _=>match Ez N C b q.1 C7 with
  |some sv=>Nat.beq (WG N sv) q.2.1
  |none=>Ap
 | .AG c=>match Ez N C b q.1 C7 with
  |some (.AG k)=>Nat.beq (AV m c) k&&Nat.beq q.2.1 1
  |_=>Ap
 | .AK f [] a=>match Ez N C b q.1 C7 with
  |some (.AK g .vn d)=>Nat.beq f g&&(Nb (a.map (AV m)) d&&Nat.beq q.2.1 1)
  |_=>Ap
 | .mp c=>match Ez N C b q.1 C7 with
  |some (.mp k)=>Nat.beq (AV m c) k&&Nat.beq q.2.1 1
  |_=>Ap
 | .px [c] .sf=>yD N (AV m) c (Ez N C b q.1 C7)&&Nat.beq q.2.1 1
 |_=>Ap
def qcS(C:List (SV N.T))(A:Nat->SV N.T)(m:List (Nat×Nat))(q:Nat×SP):Bool:=match q.2 with
 | .v _ _=>Br
 | .nat _=>Br
 | .Ak=>Br
 | .AG c=>match A q.1 with
  | .AG k=>Nat.beq (AV m c) k
  |_=>Ap
 | .loc c off=>match A q.1 with
  | .loc k o=>Nat.beq (AV m c) k&&Nat.beq off o
  |_=>Ap
 | .AK f e a=>match A q.1 with
  | .AK g r b=>Nat.beq f g&&(vcB e r&&Nb (a.map (AV m)) b)
  |_=>Ap
 | .sv d=>whole (A q.1)&&Nat.beq (Pj (tX d)) (Tr N (A q.1))&&(NH 0 (tX d)).all (yH C (A q.1) m)
 | .nl=>match A q.1 with
  | .raw (.slice C7 0 0)=>Br
  |_=>Ap
 | .mp c=>match A q.1 with
  | .mp k=>Nat.beq (AV m c) k
  |_=>Ap
 | .pd _ _ off=>match A q.1 with
  | .pd _ _ o=>Nat.beq off o
  |_=>Ap
 | .px a (.sub _ _ t)=>match A q.1 with
  | .px b (.sub _ _ i)=>Nb (a.map (AV m)) b&&t.Kw i
  |_=>Ap
 | .px a (.hc n)=>match A q.1 with
  | .px b (.hc h)=>Nb (a.map (AV m)) b&&Nat.beq n h
  |_=>Ap
 |_=>Ap
def qcR(C:List (SV N.T))(Rr:Nat->Option (SR N.T))(m:List (Nat×Nat))(n:Nat)(q:Nat×RP):Bool:=match q.2 with
 | .row g j=>match Rr (AV m q.1)with
  |some (.row a _ _)=>Nat.beq g a&&Nat.blt j n
  |_=>Ap
 | .map g j=>match Rr (AV m q.1)with
  |some (.map a _ _ _)=>Nat.beq g a&&Nat.blt j n
  |_=>Ap
 | .Ah g c=>match Rr (AV m q.1)with
  |some (.Ah a b)=>Nat.beq g a&&(whole b&&Nat.beq (Pj c) (Tr N b)&&(NH 0 c).all (yH C b m))
  |_=>Ap
 |_=>Ap
def G9(C:List (SV N.T))(Rr:Nat->Option (SR N.T))(A:Nat->SV N.T)(q:A9):List (Nat×Nat):=
 let a:=qkS A q.sl
 a++qkR C Rr a q.ro
def JB(C:List (SV N.T))(Rr:Nat->Option (SR N.T))(A:Nat->SV N.T)(m:List (Nat×Nat))(q:A9):Option (BV N q.hs):=
 match Cf (q.ro.map λp=>AV m p.1)&&(q.sl.all (qcS C A m)&&(q.ro.all (qcR C Rr m q.hs.length)&&Cf ((dM C A q.sl++dN C Rr m q.ro).map (·.1))))with
 |true=>vM N C (λj=>(Ax (dM C A q.sl++dN C Rr m q.ro) j).getD .no) 0 q.hs
 |false=>C7
variable {C : List (SV N.T)} {η : Nat -> BU} {H : Hp} {Rr : Nat -> Option (SR N.T)} {A : Nat -> SV N.T}
section
variable{m:List (Nat×Nat)}
theorem instQ_ok{M:List HT}{x:BV N M}{b:SV N.T}{m:List (Nat×Nat)}{Hs:List (Nat×SV N.T)}{cs:List BU}(O:cC C Hs (Cq N M x))(E:b.is C η H (.agg cs.toArray))(B:∀y∈cs,y.oneCell'=Br):
  ∀(ls:List (Nat×SP)) (off:Nat),(∀q∈NH off ls,yH C b m q=Br/\(∀j t,q.2.2= .v j t->(j,(Ez N C b q.1 (Ac t)).getD .no)∈Hs)/\∀j,q.2.2= .nat j->(j,(Ez N C b q.1 C7).getD .no)∈Hs)->off+Pj ls=cs.length->
   (instL N M x ls).is [] (λc=>η (AV m c)) H (.agg (cs.drop off).toArray)
 | [],off,_,P=>by have:cs.drop off=[]:=Abf (by grind[Pj]);rw[this];rfl
 |(s,p)::ls,off,S,P=>by
  have P:off+(s+Pj ls)=cs.length:=P;have Z:=instQ_ok O E B ls (off+s) (λq Q=>S q (Aag _ Q)) (by omega);obtain⟨a,Y,L⟩:=S (off,s,p) (Aaj ..);have n:∀ {u:BU},(inst N M x p).is [] (λc=>η (AV m c)) H u->u.cells.toList=(cs.drop off).take s->u.cells.toList.length=s->(instL N M x ((s,p)::ls)).is [] (λc=>η (AV m c)) H (.agg (cs.drop off).toArray):=λ{u} l e J=>by have K:=K1 (s:=s) l J (λy hy=>B y (by grind)) Z;rw[e]at J K;rw[<-YP rfl J]at K;exact K
  unfold yH at a;cases p with
  |v j t=>
   simp only at a;split at a;· rename_i sv o;have R:=AI a;obtain⟨c,i,hc⟩:=Dh o E;have d:=Ct i;obtain⟨u,l,e,_⟩:=i;have h:=Y j t rfl;rw[o]at h;exact n (O.is h l) (by grind) (by grind)
   grind
  |nat j=>
   simp only at a;split at a
   ·rename_i sv o;have R:=AI a;obtain⟨c,i,hc⟩:=Dh o E;have d:=Ct i;obtain⟨u,l,e,_⟩:=i;have h:=L j rfl;rw[o]at h;have d:c.length=s:=by omega
    rw[d]at hc;exact n (O.is h l) (by rw[e,hc]) (by rw[e];exact d)
   grind
  |AG c=>
   simp only at a;split at a;· rename_i k w;rw[AS]at a;have G:=AI a.1;have D:=AI a.2;subst D;obtain⟨F,i,hc⟩:=Dh w E;have d:=Ct i;obtain⟨u,l,e,_⟩:=i;have d:F.length=1:=d;rw[d]at hc;exact n (u:=u) ⟨by show u=η (AV m c);rw[G];exact l.1,l.2⟩ (by rw[e,hc]) (by rw[e];exact d)
   ·cases a
  |AK f X cs=>
   cases X with
   |cons _ _=>cases a
   |nil=>
    simp only at a;split at a;· rename_i g ks w;simp only[AS]at a;have G:=AI a.1;have D:=AI a.2.2;have W:=Fc a.2.1;subst G;subst D;subst W;obtain⟨F,i,hc⟩:=Dh w E;have d:=Ct i;obtain⟨u,l,e,_⟩:=i;have d:F.length=1:=d;rw[d]at hc;obtain⟨us,U,V⟩:=l;exact n (u:=u) ⟨us,by rw[U,Aao];rfl,V⟩ (by rw[e,hc]) (by rw[e];exact d)
    ·cases a
  |mp c=>
   simp only at a;split at a;· rename_i k w;rw[AS]at a;have G:=AI a.1;have D:=AI a.2;subst D;obtain⟨F,i,hc⟩:=Dh w E;have d:=Ct i;obtain⟨u,l,e,_⟩:=i;have d:F.length=1:=d;rw[d]at hc;exact n (u:=u) ⟨by show u=η (AV m c);rw[G];exact l.1,l.2⟩ (by rw[e,hc]) (by rw[e];exact d)
   ·cases a
  |px cs z=>
   cases z with
   |sub _ _ _=>cases cs with
    |nil=>cases a
    |cons c cs=>cases cs<;>cases a
   |hc _=>cases cs with
    |nil=>cases a
    |cons c cs=>cases cs<;>cases a
   |sf=>
    match cs,a with
    | [],a=>cases a
    | [c],a=>
     rw[AS]at a;cases w:Ez N C b off C7 with
     |none=>rw[w]at a;cases a.1
     |some s0=>
      rw[w]at a;have D:=AI a.2;subst D;obtain⟨F,i,hc⟩:=Dh w E;have d:=Ct i;obtain⟨u,l,e,_⟩:=i;obtain⟨J,K⟩:=YU a.1 l;rw[K]at d;rw[d]at hc;exact n (u:=u) J (by rw[e,hc]) (by rw[e];exact d)
    |_::_::_,a=>cases a
  |_=>cases a
theorem kI{b:List HT}{x:BV N b}{Hs:List (Nat×SV N.T)}{η':Nat->BU}(f:cC C Hs (Cq N b x)):∀ {fs:List (Nat×Ty)} {r:SV N.T} {us:List BU},vcB fs r=Br->(∀p∈uE fs r,p∈Hs)->r.is C η H (.tuple us.toArray)->(uD N b x fs).is [] η' H (.tuple us.toArray)
 | [], .vn,us,_,_,h=>h
 | [], .d _ _,_,h,_,_=>by cases h
 |(j,t)::l, .vc a r,us,m,g,⟨u,c,e,i,k⟩=>by refine⟨u,c,e,f.is (g (j,a) (by simp[uE])) i,kI (fs:=l) f m (λp n=>g p (by grind[uE])) k⟩
theorem YK(a:List HT)(x:BV N a):∀ls,nQ N a x ls=instL N a x (tX ls)
 | []=>rfl
 |(s,j,t)::ls=>by show SV.lf s (Cq N a x j) (nQ N a x ls)=SV.lf s (Cq N a x j) (instL N a x (tX ls));rw[YK a x ls]
theorem WA:∀ {l:SV N.T} {v:BU},whole l=Br->l.is C η H v->∃cs:List BU,v= .agg cs.toArray:=by
 intro l v b h;cases l with
 |lf s a r=>obtain⟨c,d,u,e,_⟩:=h;grind
 |nl=>exact⟨[],h⟩
 |_=>cases b
theorem TE:∀(a:List HT) (x:BV N a) (j:Nat),j<a.length->Cq N a x j≠ .no
 | [],_,_,h,_=>by grind
 | [t],x,0,_,e=>by cases t<;>cases e
 | [_],_,j+1,h,_=>by grind
 |t::u::b,x,0,_,e=>by cases t<;>cases e
 |t::u::b,x,j+1,h,e=>TE (u::b) x.2 j (by grind) e
theorem LN{q:A9}{x:BV N q.hs}{Y:List (Nat×Av)}{vs:List BU}(hx:JB C Rr A m q=Ac x)(hlen:vs.length=q.sl.length)(hsl:∀p∈q.sl,∃v,vs[p.1]?=Ac v/\(A p.1).is C η H v)
  (hr:∀p∈q.ro,∀Z,Rr (AV m p.1)=Ac Z->Dy C η H Y (AV m p.1) Z):
  (q.ro.map λp=>AV m p.1).Nodup/\(∀p∈q.sl,∃v,vs[p.1]?=Ac v/\(inst N q.hs x p.2).is [] (λc=>η (AV m c)) H v)/\∀p∈q.ro,(∃Z,Rr (AV m p.1)=Ac Z)/\∃X,Ax Y (AV m p.1)=Ac X/\(instR N q.hs x p.2).is [] (λc=>η (AV m c)) H p.1 X:=by
 unfold JB at hx;split at hx
 ·rename_i Q;simp only[AS]at Q;obtain⟨hnd,hS,hR,hN⟩:=Q;have U:=BF hN;have D:cC C (dM C A q.sl++dN C Rr m q.ro) (Cq N q.hs x):=⟨λj s T=>by
   rcases Jv q.hs 0 x hx j with e|⟨K,y,F,G⟩;· grind
   ·rw[Abi,CF U T]at F;grind⟩;refine⟨BF hnd,λp E=>?_,λp E=>?_⟩;· obtain⟨v,hv,h⟩:=hsl p E;refine⟨v,hv,?_⟩;have hc:=OF.1 hS p E;unfold qcS at hc;cases u:p.2 with
   |v j t=>exact D.is (Abu _ (Aac.2 ⟨p,E,by simp[u]⟩)) h
   |nat j=>exact D.is (Abu _ (Aac.2 ⟨p,E,by simp[u]⟩)) h
   |Ak=>trivial
   |sv W=>
    rw[u]at hc;simp only[AS]at hc;obtain⟨cs,rfl⟩:=WA hc.1.1 h;have hlen2:=HH (cs:=cs) hc.1.1 h;have:=instQ_ok (m:=m) D h (J1 hc.1.1 h) (tX W) 0 (λz O=>⟨OF.1 hc.2 z O,λj t e=>Abu _ (Aac.2 ⟨p,E,by simp_all[Gu]⟩),λj e=>Abu _ (Aac.2 ⟨p,E,by simp_all[Gu]⟩)⟩) (by simp_all);show(nQ N q.hs x W).is [] _ H _;grind[YK]
   |nl=>
    rw[u]at hc;simp only at hc;split at hc;· rename_i a;rw[a]at h;exact h
    grind
   |AG c=>
    rw[u]at hc;simp only at hc;split at hc;· rename_i k a;have e:=AI hc;rw[a]at h;exact⟨by show v=η (AV m c);rw[e];exact h.1,h.2⟩
    trivial
   |loc c off=>
    rw[u]at hc;simp only at hc;split at hc;· rename_i k o a;rw[AS]at hc;have e:=AI hc.1;have G:=AI hc.2;subst G;rw[a]at h;obtain⟨B,b1,b2⟩:=h;exact⟨B,by show η (AV m c)=_;rw[e];exact b1,b2⟩
    ·cases hc
   |AK f fs cs=>
    rw[u]at hc;simp only at hc;split at hc;· rename_i g r ks a;simp only[AS]at hc;have e:=AI hc.1;subst e;have G:=Fc hc.2.2;rw[a]at h;obtain⟨us,J,L⟩:=h;refine⟨us,?_,kI D hc.2.1 (λz O=>Abu _ (Aac.2 ⟨p,E,by simp[u,a,O]⟩)) L⟩;rw[J,<-G,Aao];rfl
    ·cases hc
   |mp c=>
    rw[u]at hc;simp only at hc;split at hc;· rename_i k a;have e:=AI hc;rw[a]at h;exact⟨by show v=η (AV m c);rw[e];exact h.1,h.2⟩
    ·cases hc
   |pd j t off=>
    rw[u]at hc;simp only at hc;split at hc
    ·rename_i t' y' o a;have F:=AI hc;subst F;rw[a]at h;have w:(j,(SV.d t' y':SV N.T))∈dM C A q.sl++dN C Rr m q.ro:=Abu _ (Aac.2 ⟨p,E,by simp[u,a]⟩);show(match Cq N q.hs x j with| .d t x=>SV.pd t x off|_=> .no).is [] _ H v;rcases D.ok j _ w with e|⟨K,y,F,G⟩;· rw[e];trivial
     ·rw[G];cases K with
      |nat=>trivial
      |Ae P=>
       obtain⟨f,S,I⟩:=Pe.1 (show(P6 N.T t' P).map (· y')=Ac y from F);obtain⟨R,rfl⟩:=Bw S;have:=Adx R;subst this;cases I;exact h
    ·cases hc
   |px cs z=>
    cases z with
    |sf=>rw[u]at hc;cases hc
    |sub j n t=>
     rw[u]at hc;simp only at hc;split at hc
     ·rename_i ks i n' t' a;simp only[AS]at hc;have F:=Fc hc.1;have I:=Adx hc.2;subst F;subst I;rw[a]at h;have w:(j,(SV.na i:SV N.T))∈dM C A q.sl++dN C Rr m q.ro:=Abu _ (Aac.2 ⟨p,E,by simp[u,a]⟩);have M:(n,(SV.na n':SV N.T))∈dM C A q.sl++dN C Rr m q.ro:=Abu _ (Aac.2 ⟨p,E,by simp[u,a]⟩);have na:∀ {j i:Nat},(j,(SV.na i:SV N.T))∈dM C A q.sl++dN C Rr m q.ro->Cq N q.hs x j= .na i\/∀i',Cq N q.hs x j≠ .na i':=λ{j i} hm=>by
       rcases D.ok j _ hm with e|⟨K,y,F,G⟩;· rw[e];exact .inr λ_ e=>by cases e
       ·rw[G];cases K with
        |nat=>
         cases F;exact .inl rfl
        |Ae P=>exact .inr λ_ e=>by cases e
      show(match Cq N q.hs x j,Cq N q.hs x n with| .na i, .na m=>SV.px cs (.sub i m t)|_,_=> .px cs .any).is [] _ H v;rcases na w with e|e
      ·rcases na M with G|G;· rw[e,G];have h:PX.is ((cs.map (AV m)).map η) H (.sub i n' t) v:=h;rw[Aao]at h;exact h
       ·split;· rename_i L;exact absurd L (G _)
        ·trivial
      ·split;· rename_i J _;exact absurd J (e _)
       ·trivial
     ·cases hc
    |hc n=>
     rw[u]at hc;simp only at hc;split at hc;· rename_i ks n' a;simp only[AS]at hc;have F:=Fc hc.1;have I:=AI hc.2;subst F;subst I;rw[a]at h;have h:PX.is ((cs.map (AV m)).map η) H (.hc n:PX N.T) v:=h;rw[Aao]at h;exact h
     ·cases hc
   |_=>rw[u]at hc;cases hc
  ·have hc:=OF.1 hR p E;unfold qcR at hc;cases u:p.2 with
   |Ep _ _ _ _=>rw[u]at hc;cases hc
   |row g j=>
    rw[u]at hc;simp only at hc;split at hc
    ·rename_i g' t l a;rw[AS]at hc;have e:=AI hc.1;have T:j<q.hs.length:=by simpa using hc.2
     subst e;refine⟨⟨_,a⟩,?_⟩;rcases hr p E _ a with e|⟨X,J,L⟩;· cases e
     refine⟨X,J,?_⟩;have w:(j,SV.d (.sl t) l)∈dM C A q.sl++dN C Rr m q.ro:=Acf _ (Aac.2 ⟨p,E,by simp[u,a]⟩);show(match Cq N q.hs x j with| .d (.sl t) l=>SR.row g t l|_=> .gone).is [] _ H _ X;rcases D.ok j _ w with e|⟨K,y,F,G⟩;· exact(TE q.hs x j T e).elim
     ·rw[G];cases K with
      |nat=>cases F
      |Ae P=>
       obtain⟨f,S,I⟩:=Pe.1 (show(P6 N.T (.sl t) P).map (· l)=Ac y from F);obtain⟨R,rfl⟩:=Bw S;have:=Adx R;subst this;cases I;exact L
    ·cases hc
   |Ah g W=>
    rw[u]at hc;simp only at hc;split at hc
    ·rename_i g' b a;simp only[AS]at hc;have e:=AI hc.1;subst e;refine⟨⟨_,a⟩,?_⟩;rcases hr p E _ a with e|⟨X,J,B,cs,b1,b2,b3⟩;· cases e
     refine⟨X,J,B,cs,b1,b2,?_⟩;have hl:=HH (cs:=cs.toList) hc.2.1.1 b3;have:=instQ_ok (η:=η) (m:=m) (cs:=cs.toList) D b3 (J1 hc.2.1.1 b3) W 0 (λz O=>⟨OF.1 hc.2.2 z O,λj t e=>Acf _ (Aac.2 ⟨p,E,by simp only[u,a];exact(Gu O).1 j t e⟩),λj e=>Acf _ (Aac.2 ⟨p,E,by simp only[u,a];exact(Gu O).2 j e⟩)⟩)
      (by rw[Abi,AI hc.2.1.2,hl]);simpa using this
    ·cases hc
   |c j=>rw[u]at hc;cases hc
   |map g j=>
    rw[u]at hc;simp only at hc;split at hc
    ·rename_i g' V vt l a;rw[AS]at hc;have e:=AI hc.1;have T:j<q.hs.length:=by simpa using hc.2
     subst e;refine⟨⟨_,a⟩,?_⟩;rcases hr p E _ a with e|⟨X,J,L⟩;· cases e
     refine⟨X,J,?_⟩;have w:(j,SV.d (.sl (.st (.pr V vt))) l)∈dM C A q.sl++dN C Rr m q.ro:=Acf _ (Aac.2 ⟨p,E,by simp[u,a]⟩);show(match Cq N q.hs x j with| .d (.sl (.st (.pr V vt))) l=>SR.map g V vt l|_=> .gone).is [] _ H _ X;rcases D.ok j _ w with e|⟨K,y,F,G⟩;· exact(TE q.hs x j T e).elim
     ·rw[G];cases K with
      |nat=>cases F
      |Ae P=>
       obtain⟨f,S,I⟩:=Pe.1 (show(P6 N.T (.sl (.st (.pr V vt))) P).map (· l)=Ac y from F);obtain⟨R,rfl⟩:=Bw S;have:=Adx R;subst this;cases I;exact L
    ·cases hc
 grind
end
end
def SP.ks:SP->List Nat
 | .AG k=>[k]
 | .loc k _=>[k]
 | .AK _ _ a=>a
 | .mp k=>[k]
 | .px b _=>b
 |_=>[]
section
variable {N : C6}
theorem QQ(h:HT)(x:h.den N):(dJ N h x).AJ=[]:=by cases h<;>rfl
theorem FI:∀(a:List HT) (x:BV N a) (j:Nat),(Cq N a x j).AJ=[]
 | [],_,_=>rfl
 | [t],x,0=>QQ t x
 | [_],_,_+1=>rfl
 |t::_::_,x,0=>QQ t x.1
 |_::u::c,x,j+1=>FI (u::c) x.2 j
theorem QL(a:List HT)(x:BV N a):∀fs:List (Nat×Ty),(uD N a x fs).AJ=[]
 | []=>rfl
 |(j,_)::l=>by simp[uD,SV.AJ,FI,QL a x l]
theorem QS(a:List HT)(x:BV N a):∀ls:List (Nat×Nat×Ty),(nQ N a x ls).AJ=[]
 | []=>rfl
 |(s,j,t)::l=>by simp[nQ,SV.AJ,FI,QS a x l]
theorem inst_ment(a:List HT)(x:BV N a):∀p:SP,(inst N a x p).AJ=p.ks
 | .v j _=>FI a x j
 | .nat j=>FI a x j
 | .AH j i=>by
  show SV.AJ (match Cq N a x j with| .na n=> .ct i n|s=>s)=[];split;· rfl
  grind[FI]
 | .c _=>rfl
 | .AG _=>rfl
 | .loc _ _=>rfl
 | .AK _ h g=>by grind[inst,SV.AJ,SP.ks,QL]
 | .Ak=>rfl
 | .nl=>rfl
 | .sv f=>QS a x f
 | .kp _=>rfl
 | .mp _=>rfl
 | .px b .sf=>rfl
 | .px b (.hc _)=>rfl
 | .pd j t off=>by show SV.AJ (match Cq N a x j with| .d t x=>SV.pd t x off|_=> .no)=[];split<;>rfl
 | .px b (.sub j n t)=>by show SV.AJ (match Cq N a x j,Cq N a x n with| .na i, .na m=>SV.px b (.sub i m t)|_,_=> .px b .any)=b;split<;>rfl
theorem instL_ment(a:List HT)(x:BV N a):∀ls:List (Nat×SP),(instL N a x ls).AJ=ls.flatMap λp=>p.2.ks
 | []=>rfl
 |(s,p)::ls=>by simp[instL,SV.AJ,inst_ment,instL_ment a x ls]
end
def SP.pl:SP->Bool
 | .v _ _=>Br
 | .nat _=>Br
 | .AG _=>Br
 | .loc _ _=>Br
 | .AK _ _ _=>Br
 | .Ak=>Br
 | .nl=>Br
 | .sv _=>Br
 | .mp _=>Br
 | .px _ _=>Br
 | .pd _ _ _=>Br
 |_=>Ap
def RP.ks:RP->List Nat
 | .Ah _ a=>a.flatMap λp=>p.2.ks
 | .Ep _ _ h _=>[h]
 |_=>[]
section
variable {N : C6}
theorem instR_ment(a:List HT)(x:BV N a):∀p:RP,∀k∈(instR N a x p).AJ,k∈p.ks
 | .row g j=>by show∀k∈SR.AJ (match Cq N a x j with| .d (.sl t) l=>SR.row g t l|_=> .gone),k∈[];split<;>exact λ_ h=>h
 | .Ah _ b=>λk i=>by have e:=instL_ment a x b;show k∈b.flatMap λp=>p.2.ks;rw[<-e];exact i
 | .c _=>λ_ h=>h
 | .map g j=>by show∀k∈SR.AJ (match Cq N a x j with| .d (.sl (.st (.pr m n))) l=>SR.map g m n l|_=> .gone),k∈[];split<;>exact λ_ h=>h
 | .Ep g e h j=>by
  show∀k∈SR.AJ (match Cq N a x j with| .d (.sl (.pr .bool (.sl t))) l=>SR.Ep g e t h l|_=> .gone),k∈[h];split;· exact λ_ h=>h
  ·exact λ_ h=>by cases h
def Zd(q:PQ N):List SP:=match q.rk with
 |0=>[]
 |1=>[H8 q.po.sl 0]
 |2=>[H8 q.po.sl 0,H8 q.po.sl 1]
 |_=>[H8 q.po.sl 0,H8 q.po.sl 1,H8 q.po.sl 2]
theorem W0(q:PQ N)(y:BV N q.po.hs):∀k∈(Ja q y).AJ,∃p∈Zd q,k∈p.ks:=by intro k a;unfold Ja at a;unfold Zd;all_goals grind[SV.AJ,H8,absurd,inst_ment]
def tU(q:PQ N):Bool:=((Zd q).all λp=>p.pl&&p.ks.all λk=>BZ (q.pi.ro.map (·.1)) k||BZ (q.po.ro.map (·.1)) k)&&q.po.ro.all λp=>p.2.ks.all λk=>BZ (q.pi.ro.map (·.1)) k||BZ (q.po.ro.map (·.1)) k
def GM(m:List (Nat×Nat))(b nk c:Nat):Nat:=match Nat.blt c b with
 |true=>AV m c
 |false=>nk+(c-b)
def O9(q:PQ N)(ρ:Nat->Nat)(y:BV N q.po.hs):List (Nat×SR N.T):=(q.po.ro.map λp=>(ρ p.1,(instR N q.po.hs y p.2).DA ρ))++q.gone.map λc=>(ρ c, .gone)
variable {R : Type} {P : Ge} {C : List (SV N.T)} {S : Nat -> SV N.T} {Rr : Nat -> Option (SR N.T)} {nk : Nat} {o : J5} {r : R}
section
variable{m:List (Nat×Nat)}{ρ:Nat->Nat}{q:PQ N}{x:BV N q.pi.hs}{f:Nat}{ex:List Nat}{y:BV N q.po.hs}
def Wc(C:List (SV N.T))(Rr:Nat->Option (SR N.T))(nk:Nat)(q:PQ N)(a:List (SV N.T))(ex:List Nat)(k:Bq N.T->Nat->Option R):Option (Option R):=
 let m:=G9 C Rr (λi=>a.getD i .no) q.pi
 match Nat.beq a.length q.pi.sl.length&&(q.pi.sl.all (λp=>Nat.blt p.1 a.length)&&(yA q&&tU q))with
 |true=>match JB C Rr (λi=>a.getD i .no) m q.pi with
  |some x=>Ac (Ab (q.F x) λy=>k ⟨(Ja q y).DA (GM m q.pi.nk nk),q.pi.ro.map (λp=>AV m p.1)++ex,O9 q (GM m q.pi.nk nk) y⟩ (nk+(q.po.nk-q.pi.nk)))
  |none=>C7
 |false=>C7
theorem LJ{Y:List (Nat×Av)}{D:List Nat}{k:Nat}(h:k∉D):Ax (Y.filter λp=> !BZ D p.1) k=Ax Y k:=by
 induction Y with
 |nil=>rfl
 |cons p Y b=>
  grind[Ax,Nat.beq,absurd,AP,Nat.eq_of_beq_eq_true]
theorem Vt{Y:List (Nat×Av)}{c:Nat}(h:∀d∈keys Y,ρ d=ρ c->d=c):Ax (Y.map λp=>(ρ p.1,p.2)) (ρ c)=Ax Y c:=by
 induction Y with
 |nil=>rfl
 |cons p Y f=>
  obtain⟨q,y⟩:=p;simp only[Aap,Ax];cases b:Nat.beq q c with
  |true=>simp_all
  |false=>
   have:Nat.beq (ρ q) (ρ c)=Ap:=by
    cases a:Nat.beq (ρ q) (ρ c)with
    |false=>rfl
    |true=>
     have:=h q (by simp[keys]) (AI a);simp_all
   grind[keys]
theorem ZF{ρ:Nat->Nat} :∀ {l:List Nat},(∀c d,c∈l->d∈l->ρ c=ρ d->c=d)->l.Nodup->(l.map ρ).Nodup
 | [],_,_=>Agj
 |x::l,f,b=>by rw[Abl]at b;rw[Aap,Abl];refine⟨λh=>?_,ZF (λc d hc i=>f c d (Aag _ hc) (Aag _ i)) b.2⟩;grind
theorem rl{a b:Nat}(h:b<=a):Nat.blt a b=Ap:=by
 cases c:Nat.blt a b with
 |false=>rfl
 |true=>
  have:a<b:=by simp_all
  omega
theorem rm{a b:Nat}(h:b<a):Nat.ble a b=Ap:=by
 cases c:Nat.ble a b with
 |false=>rfl
 |true=>have:=Aba c;omega
theorem gI{q:A9}{A:Nat->SV N.T}{x:BV N q.hs}(b:JB C Rr A m q=Ac x):∀p∈q.ro,∃d,Rr (AV m p.1)=Ac d:=by
 unfold JB at b;split at b
 all_goals grind[qcR]
theorem Na{W:List (SV N.T)}(hs:Dx P f q)(hq1:yA q=Br)(hq2:tU q=Br)(hlen:W.length=q.pi.sl.length)(hlt:∀p∈q.pi.sl,p.1<W.length)
  (hx:JB C Rr (λi=>W.getD i .no) m q.pi=Ac x) (hy:q.F x=Ac y) (hf:∀j,nk<=j->Rr j=C7):
  (∀(
    η:Nat->BU) (H:Hp) (Of:List Av) (w:GD) (Y:List (Nat×Av)),(keys Y).Nodup->SH w H (Y.map (·.2)++Of)->N.inv H->
   (∀k,(k∈q.pi.ro.map (λp=>AV m p.1)++ex\/k∈keys (O9 q (GM m q.pi.nk nk) y))->∀M,Rr k=Ac M->Dy C η H Y k M)->(∀k∈keys (O9 q (GM m q.pi.nk nk) y),Rr k=C7->k∉keys Y)->
   ∀(vs:List BU),vs.length=W.length->(∀(i:Nat) (s:SV N.T),W[i]?=Ac s->∃v,vs[i]?=Ac v/\s.is C η H v)->
   ∀(goal:Prop) (K:BU->GD->Prop),(∀O R,O5 P f vs H O R->SH w H O->(∀v w' T O',H.le T->R v T O'->SH w' T O'->K v w')->goal)->
   (∀(v:BU) (w':GD) (T:Hp) (η':Nat->BU) (D:List (Nat×Av)),H.le T->(∀k,(Rr k=C7->k∉keys (O9 q (GM m q.pi.nk nk) y))->η' k=η k)->(∀k,k∉keys (O9 q (GM m q.pi.nk nk) y)->Ax D k=Ax Y k)->
    (∀k M,Ax (O9 q (GM m q.pi.nk nk) y) k=Ac M->Dy C η' T D k M)->(keys D).Nodup->(∀k∈keys D,k∈keys Y\/k∈keys (O9 q (GM m q.pi.nk nk) y))->SH w' T (D.map (·.2)++Of)->((Ja q y).DA (GM m q.pi.nk nk)).is C η' T v->K v w')->goal)/\
  (∀j∈keys (O9 q (GM m q.pi.nk nk) y),Rr j=C7->nk<=j/\j<nk+(q.po.nk-q.pi.nk)):=by
 unfold yA at hq1;simp only[AS]at hq1;obtain⟨w1,w2,w3,w4,w5,w6⟩:=hq1;have w1:∀p∈q.pi.ro,p.1<q.pi.nk:=λp a=>by simpa using OF.1 w1 p.1 (By.2 ⟨p,a,rfl⟩)
 have w4:=Aba w4;have w5:∀p∈q.po.ro,p.1∈q.pi.ro.map (·.1)\/(q.pi.nk<=p.1/\p.1<q.po.nk):=λp a=>by have:=OF.1 w5 p.1 (By.2 ⟨p,a,rfl⟩);rw[Ado,AS]at this;exact this.imp AP.1 λh=>⟨Aba h.1,by simp_all⟩
 have w6:∀c∈q.gone,c∈q.pi.ro.map (·.1):=λc hc=>AP.1 (OF.1 w6 c hc);unfold tU at hq2;rw[AS]at hq2;obtain⟨o1,o2⟩:=hq2;have kn:∀ {k:Nat},(BZ (q.pi.ro.map (·.1)) k||BZ (q.po.ro.map (·.1)) k)=Br->k∈q.pi.ro.map (·.1)\/k∈q.po.ro.map (·.1):=λh=>by grind[AP]
 generalize hρ:GM m q.pi.nk nk=ρ;have t:∀p∈q.pi.ro,ρ p.1=AV m p.1:=λp a=>by rw[<-hρ];grind[GM,Nat.blt]
 have ρo:∀c,q.pi.nk<=c->ρ c=nk+(c-q.pi.nk):=λc hc=>by rw[<-hρ];grind[GM,rl]
 have kwr:∀j,j∈keys (O9 q ρ y)↔(∃p∈q.po.ro,j=ρ p.1)\/∃c∈q.gone,j=ρ c:=λj=>by unfold O9 keys;grind
 have hall:=λ(η:Nat->BU) (H:Hp) (Y:List (Nat×Av)) (vs:List BU) n U h3=>LN (C:=C) (η:=η) (H:=H) (Y:=Y) (vs:=vs) (A:=λi=>W.getD i .no) hx n U h3;refine⟨λη H Of w Y hn hw hiv hr hfresh vs v1 v2 goal K run hK=>?_,λj hj u=>?_⟩
 ·obtain⟨
      hnd,hsl,F⟩:=hall η H Y vs (v1.trans hlen) (λp a=>by
   have hl:=hlt p a;obtain⟨v,e1,e2⟩:=v2 p.1 W[p.1] (BY hl);refine⟨v,e1,?_⟩;rw[IS,BY hl];exact e2) (λp a M B=>hr _ (.inl (Abu _ (By.2 ⟨p,a,rfl⟩))) M B);have lt:∀p∈q.pi.ro,AV m p.1<nk:=λp a=>by
   grind
  generalize hηc:(λc=>η (AV m c))=ηc at hsl F;generalize hYc:(q.pi.ro.map λp=>(p.1,(Ax Y (AV m p.1)).getD .emp))=Yc;generalize E:(Y.filter λp=> !BZ (q.pi.ro.map λp=>AV m p.1) p.1)=Yr;have kYc:keys Yc=q.pi.ro.map (·.1):=by rw[<-hYc];simp[keys]
  have ndc:(keys Yc).Nodup:=by rw[kYc];exact BF w2
  have lYc:∀p∈q.pi.ro,Ax Yc p.1=Ax Y (AV m p.1):=λp a=>by
   obtain⟨_,X,V,_⟩:=F p a;have:(p.1,(Ax Y (AV m p.1)).getD .emp)∈Yc:=by rw[<-hYc];exact By.2 ⟨p,a,rfl⟩
   rw[CF ndc this,V];rfl
  have pin:PIn q x ηc H Yc vs:=⟨v1.trans hlen,hsl,kYc,λp a=>by
   obtain⟨_,X,V,U⟩:=F p a;exact⟨X,by rw[lYc p a];omega,U⟩,hiv⟩;have hsh:SH w H (Yc.map (·.2)++(Yr.map (·.2)++Of)):=by
   have G:=SH.Tm hw (Z:=(q.pi.ro.map λp=>(AV m p.1,(Ax Y (AV m p.1)).getD .emp))++Yr) (by
    unfold keys;rw[Aan,Aao];refine Acs.2 ⟨hnd,?_,λk b k' L e=>?_⟩;· rw[<-E];exact(Acv.map _).nodup hn
    ·subst e;rw[<-E]at L;obtain⟨p,a,rfl⟩:=By.1 L;have h3:=(Aax.1 a).2;have b:p.1∈q.pi.ro.map λp=>AV m p.1:=b;rw[AP.2 b]at h3;cases h3) (λp a=>by
    rcases AT.1 a with a|a;· obtain⟨z,G,rfl⟩:=By.1 a;obtain⟨_,X,V,_⟩:=F z G;simp only[V,Acm]
    ·rw[<-E]at a;exact CF hn (Aax.1 a).1);rw[Aan,Aao,Aam]at G;rw[<-hYc,Aao];exact G
  refine run _ _ (hs.ok x y hy ηc H (Yr.map (·.2)++Of) Yc vs ndc pin) hsh λv w' T O' hle ⟨η',D,eO,po⟩ hw'=>?_;subst eO;have I:∀c∈keys D,c∈q.pi.ro.map (·.1)\/c∈q.po.ro.map (·.1):=λc hc=>by rw[<-kYc];exact po.ks c hc
  have Q:∀ {c},c∈q.pi.ro.map (·.1)->ρ c<nk/\c<q.pi.nk/\ρ c=AV m c:=λhc=>by obtain⟨p,a,rfl⟩:=By.1 hc;rw[t p a];exact⟨lt p a,w1 p a,rfl⟩
  have l:∀ {c},c∈q.po.ro.map (·.1)->c∉q.pi.ro.map (·.1)->nk<=ρ c/\q.pi.nk<=c/\ρ c=nk+(c-q.pi.nk)/\ρ c∈keys (O9 q ρ y)/\Rr (ρ c)=C7:=λhc hn=>by
   obtain⟨p,a,rfl⟩:=By.1 hc;rcases w5 p a with h|h;· trivial
   ·rw[ρo _ h.1];exact⟨by omega,h.1,rfl,(kwr _).2 (.inl ⟨p,a,(ρo _ h.1).symm⟩),hf _ (by omega)⟩
  have inj:∀c d,(c∈q.pi.ro.map (·.1)\/c∈q.po.ro.map (·.1))->(d∈q.pi.ro.map (·.1)\/d∈q.po.ro.map (·.1))->ρ c=ρ d->c=d:=λc d hc hd e=>by
   by_cases n:c∈q.pi.ro.map (·.1)<;>by_cases U:d∈q.pi.ro.map (·.1);· obtain⟨p,a,rfl⟩:=By.1 n;obtain⟨p',hp',rfl⟩:=By.1 U;rw[t p a,t p' hp']at e;rw[PO (f:=λp:Nat×RP=>AV m p.1) hnd a hp' e]
   ·have:=(Q n).1;have:=(l (hd.resolve_left U) U).1;omega
   ·have:=(Q U).1;have:=(l (hc.resolve_left n) n).1;omega
   ·have:=(l (hc.resolve_left n) n);have:=(l (hd.resolve_left U) U);omega
  let ηn:Nat->BU:=λj=>match Nat.ble nk j&&BZ (keys (O9 q ρ y)) j with
   |true=>η' (q.pi.nk+(j-nk))
   |false=>η j;have ηk:∀c,(c∈q.pi.ro.map (·.1)\/c∈q.po.ro.map (·.1))->ηn (ρ c)=η' c:=λc hc=>by
   by_cases n:c∈q.pi.ro.map (·.1);· obtain⟨g1,g2,g3⟩:=Q n;show(match Nat.ble nk (ρ c)&&BZ (keys (O9 q ρ y)) (ρ c)with|true=>η' (q.pi.nk+(ρ c-nk))|false=>η (ρ c))=η' c;rw[rm g1,Bool.false_and,po.env c g2,<-hηc,g3]
   ·obtain⟨g1,g2,g3,g4,_⟩:=l (hc.resolve_left n) n;show(match Nat.ble nk (ρ c)&&BZ (keys (O9 q ρ y)) (ρ c)with|true=>η' (q.pi.nk+(ρ c-nk))|false=>η (ρ c))=η' c;rw[show Nat.ble nk (ρ c)=Br by simpa using g1,AP.2 g4];show η' (q.pi.nk+(ρ c-nk))=η' c;congr 1;omega
  have lkρ:∀c,(c∈q.pi.ro.map (·.1)\/c∈q.po.ro.map (·.1))->Ax (D.map λp=>(ρ p.1,p.2)) (ρ c)=Ax D c:=λc hc=>Vt λd hd e=>inj d c (I d hd) hc e;have kρ:∀k∈keys (D.map λp=>(ρ p.1,p.2)),∃c∈keys D,k=ρ c:=λk b=>by unfold keys at b;rw[Aao]at b;obtain⟨p,a,rfl⟩:=By.1 b;exact⟨p.1,By.2 ⟨p,a,rfl⟩,rfl⟩
  refine hK v w' T ηn ((D.map λp=>(ρ p.1,p.2))++Yr) hle (λk b=>?_) (λk b=>?_) (λk M b=>?_) ?_ (λk b=>?_) ?_ ?_
  ·show(match Nat.ble nk k&&BZ (keys (O9 q ρ y)) k with|true=>η' (q.pi.nk+(k-nk))|false=>η k)=η k;split;· rename_i hb;rw[AS]at hb;exact absurd (AP.1 hb.2) (b (hf _ (Aba hb.1)))
   ·rfl
  ·rw[BQ];by_cases hD:k∈q.pi.ro.map λp=>AV m p.1;· obtain⟨p,a,rfl⟩:=By.1 hD;have hc:p.1∈q.pi.ro.map (·.1):=By.2 ⟨p,a,rfl⟩;obtain⟨_,X,V,_⟩:=F p a;have e1:=lkρ p.1 (.inl hc);rw[t p a,po.st p.1 (by rw[kYc];exact hc) (λh=>b ((kwr _).2 (.inl (by obtain⟨z,G,e⟩:=By.1 h;exact⟨z,G,by rw[e,t p a]⟩)))) (λh=>b ((kwr _).2 (.inr ⟨p.1,h,(t p a).symm⟩))),lYc p a,V]at e1;rw[e1,V]
   ·have:Ax (D.map λp=>(ρ p.1,p.2)) k=C7:=Cy λhm=>by
     obtain⟨c,hc,rfl⟩:=kρ k hm;by_cases n:c∈q.pi.ro.map (·.1);· obtain⟨p,a,rfl⟩:=By.1 n;exact hD (By.2 ⟨p,a,(t p a).symm⟩)
     ·exact b (l ((I c hc).resolve_left n) n).2.2.2.1
    rw[this,<-E];exact LJ hD
  ·unfold O9 at b;rw[BQ]at b;split at b;· rename_i sr' hs';cases b;obtain⟨p,a,e⟩:=By.1 (A2 hs');cases e;obtain⟨X,x1,x2⟩:=po.ro p a;have hc:p.1∈q.pi.ro.map (·.1)\/p.1∈q.po.ro.map (·.1):= .inr (By.2 ⟨p,a,rfl⟩);refine .inr ⟨X,by rw[BQ,lkρ p.1 hc,x1],?_⟩;exact SR.Mp (ηk p.1 hc) (λj hj=>ηk j (by have hj:=instR_ment _ _ _ j hj;exact kn (OF.1 (OF.1 o2 p a) j hj))) x2
   ·obtain⟨c,_,e⟩:=By.1 (A2 b);cases e;exact .inl rfl
  ·unfold keys;rw[Aan];refine Acs.2 ⟨?_,?_,λk b k' L e=>?_⟩
   ·rw[Aao];have:=po.nd;have e:(D.map ((·.1)∘λp=>(ρ p.1,p.2)))=(D.map (·.1)).map ρ:=by rw[Aao];rfl
    rw[e];exact ZF (λc d hc hd e=>inj c d (I c hc) (I d hd) e) this
   ·rw[<-E];exact(Acv.map _).nodup hn
   ·subst e;obtain⟨c,hc,rfl⟩:=kρ k b;rw[<-E]at L;obtain⟨p,a,e⟩:=By.1 L;by_cases n:c∈q.pi.ro.map (·.1)
    ·have h3:=(Aax.1 a).2;have:p.1∈q.pi.ro.map λp=>AV m p.1:=by
      obtain⟨z,G,rfl⟩:=By.1 n;rw[e,t z G];exact By.2 ⟨z,G,rfl⟩
     rw[AP.2 this]at h3;cases h3
    ·obtain⟨_,_,_,g4,g5⟩:=l ((I c hc).resolve_left n) n;exact hfresh _ g4 g5 (by rw[<-e];exact By.2 ⟨p,(Aax.1 a).1,rfl⟩)
  ·unfold keys at b;rw[Aan]at b;rcases AT.1 b with b|b
   ·obtain⟨c,hc,rfl⟩:=kρ k b;by_cases n:c∈q.pi.ro.map (·.1);· obtain⟨p,a,rfl⟩:=By.1 n;obtain⟨_,X,V,_⟩:=F p a;rw[t p a];exact .inl (Dd V)
    ·exact .inr (l ((I c hc).resolve_left n) n).2.2.2.1
   ·rw[<-E]at b;obtain⟨p,a,rfl⟩:=By.1 b;exact .inl (By.2 ⟨p,(Aax.1 a).1,rfl⟩)
  ·rw[Aan,Aao,Aam];exact hw'
  ·refine SV.Mp (λk b=>ηk k ?_) po.res;obtain⟨p,a,b⟩:=W0 q y k b;have:=OF.1 o1 p a;rw[AS]at this;exact kn (OF.1 this.2 k b)
 ·have rr:=gI hx;rcases(kwr j).1 hj with⟨p,a,rfl⟩|⟨c,hc,rfl⟩
  ·rcases w5 p a with h|h;· obtain⟨z,G,e⟩:=By.1 h;obtain⟨M,B⟩:=rr z G;rw[<-e,t z G,B]at u;cases u
   ·rw[ρo _ h.1];omega
  ·obtain⟨z,G,rfl⟩:=By.1 (w6 c hc);obtain⟨M,B⟩:=rr z G;rw[t z G,B]at u;cases u
theorem XO{d:List (SV N.T)}(U:Dx P f q)(l:yA q=Br)(n:tU q=Br)(g:d.length=q.pi.sl.length)(k:∀p∈q.pi.sl,p.1<d.length)
  (X:JB C Rr (λi=>d.getD i .no) m q.pi=Ac x) (Z:q.F x=Ac y) (J:∀j,nk<=j->Rr j=C7)
  (G:∀(η:Nat->BU) (H:Hp) (Y:List (Nat×Av)) (a:Act),(∀x∈o.op.operands,(Ay S x).is C η H (a.eval x))->(∀c∈q.pi.ro.map (λp=>AV m p.1)++ex,∀h,Rr c=Ac h->Dy C η H Y c h)->
   ∃vs:List BU,vs.length=d.length/\(∀(i:Nat) (s:SV N.T),d[i]?=Ac s->∃v,vs[i]?=Ac v/\s.is C η H v)/\∀H O R,O5 P f vs H O R->BJ P o.op o.type (EV a) H O R):
  Ao P C S Rr o ⟨(Ja q y).DA (GM m q.pi.nk nk),q.pi.ro.map (λp=>AV m p.1)++ex,O9 q (GM m q.pi.nk nk) y⟩/\
  (∀j∈keys (O9 q (GM m q.pi.nk nk) y),Rr j=C7->nk<=j/\j<nk+(q.po.nk-q.pi.nk)):=by
 obtain⟨E,F⟩:=Na (P:=P) (ex:=ex) U l n g k X Z J;refine⟨λη H D a w Y T W L A B b K Q I=>?_,F⟩;obtain⟨vs,v1,v2,v3⟩:=G η H Y a A λc hc h z=>B _ (.inl hc) h z;exact E η H D w Y T W L B b vs v1 v2 (o.wp P a w K Q) (λv w'=>K (a.put o.dst v) w') (λO R V t M=>v3 _ _ _ V a w o K Q rfl rfl (λx u e=>by simpa using e) t M) I
end
end
section
variable (N : C6)
def Bc:List Ty->Type
 | []=>Unit
 | [t]=>t.den N.T
 |t::u::a=>t.den N.T×Bc (u::a)
structure FQ where
 ps:List Ty
 rs:List Ty
 F:Bc N ps->Option (Bc N rs)
def Lq(C:List (SV N.T)):(ps:List Ty)->List (SV N.T)->Option (Bc N ps)
 | [],[]=>Ac ()
 | [t],[s]=>Ta C t s
 |t::u::b,s::a=>match Ta C t s,Lq C (u::b) a with
  |some x,Ac y=>Ac (x,y)
  |_,_=>C7
 |_,_=>C7
def FG:(rs:List Ty)->Bc N rs->SV N.T
 | [],_=> .raw (.tuple #[])
 | [t],x=> .d t x
 | [t,u],x=> .t2 (.d t x.1) (.d u x.2)
 | [t,u,v],x=> .t3 (.d t x.1) (.d u x.2.1) (.d v x.2.2)
 |_,_=> .no
variable {N}
section
variable{C:List (SV N.T)}{η:Nat->BU}{H:Hp}{v:BU}
abbrev η0:Nat->BU:=λ_=>undef
def Lw(H:Hp):(ps:List Ty)->Bc N ps->List BU->Prop
 | [],_,a=>a=[]
 | [t],x,a=> ∃v,a=[v]/\(SV.d t x:SV N.T).is [] η0 H v
 |t::u::c,x,a=> ∃v b,a=v::b/\(SV.d t x.1:SV N.T).is [] η0 H v/\Lw H (u::c) x.2 b
structure Dw(P:Ge)(f:Nat)(q:FQ N):Prop where
 Uc:QF P f
 ok:∀(x:Bc N q.ps) (y:Bc N q.rs),q.F x=Ac y->∀(H:Hp) (O:List Av) (vs:List BU),N.inv H->Lw H q.ps x vs->O5 P f vs H O (λv H' O'=>O'=O/\(FG N q.rs y).is [] η0 H' v)
theorem JE{C':List (SV N.T)}{η':Nat->BU}{t:Ty}{x:t.den N.T}(h:(SV.d t x).is C η H v):(SV.d t x).is C' η' H v:=h
theorem Qq{C:List (SV N.T)}{η:Nat->BU}{H:Hp}{a:Act}{S:Nat->SV N.T} :∀(ps:List Ty) (xs:List Dc) (x:Bc N ps),Lq N C ps (xs.map (Ay S))=Ac x->(∀x∈xs,(Ay S x).is C η H (a.eval x))->Lw H ps x (xs.map a.eval)
 | [],[],x,h,_=>rfl
 | [],_::_,x,h,_=>by cases h
 | [t],[],x,h,_=>by cases h
 | [t],[y],x,h,b=>⟨_,rfl,JE (Dm (t:=t) h (b y (by simp)))⟩
 | [t],_::_::_,x,h,_=>by cases h
 |t::u::d,[],x,h,_=>by cases h
 |t::u::d,y::e,x,h,b=>by
  have h:(match Ta C t (Ay S y),Lq N C (u::d) (e.map (Ay S))with
   |some x,Ac y=>Ac (x,y)
   |_,_=>C7)=Ac x:=h;split at h;· rename_i z w f g;cases h;exact⟨_,_,rfl,JE (Dm (t:=t) f (b y (by simp))),Qq (u::d) e w g λx c=>b x (by grind)⟩
  grind
theorem Mo:∀ {rs:List Ty} {y:Bc N rs},(FG N rs y).is [] η0 H v->(FG N rs y).is C η H v
 | [],_,h=>h
 | [_],_,h=>h
 | [_,_],_,h=>h
 | [_,_,_],_,h=>h
 |_::_::_::_::_,_,h=>h
theorem Mn{rs:List Ty}{y:Bc N rs}{τ:Nat->Nat}{Rr:Nat->Option (SR N.T)} :DF τ Rr (FG N rs y):=by unfold FG;split<;>trivial
end
variable {R : Type} {P : Ge} {C : List (SV N.T)} {S : Nat -> SV N.T} {Rr : Nat -> Option (SR N.T)} {nk : Nat} {o : J5} {k : Bq N.T -> Nat -> Option R} {r : R}
section
variable{η:Nat->BU}{H:Hp}{v:BU}{f:Nat}
theorem HX{a:Act} :∀xs:List Dc,MW (EV a) xs=Ac (xs.map a.eval)
 | []=>rfl
 |x::xs=>by simp only[MW,EV,HX xs,Aap]
theorem FU:∀ {t:Ty} {H f:Hp} {x:t.den N.T} {cs:List BU},EE t=Br->(N.c t).BI H x cs->(N.c t).BI f x cs
 | .int k,H,f,x,cs,_,h=>DL.2 (DL.1 h)
 | .bool,_,_,_,_,_,h=>h
 | .str,_,_,_,_,_,h=>h
 | .un,_,_,_,_,_,h=>h
 | .bs,_,_,_,_,_,h=>h
 | .st t,_,_,_,_,c,h=>FU (t:=t) c h
 | .pr a b,_,_,_,_,c,⟨g,i,e,j,l⟩=>by have c:(EE a&&EE b)=Br:=c;rw[AS]at c;exact⟨g,i,e,FU c.1 j,FU c.2 l⟩
theorem Kt{t:Ty}{x:t.den N.T}{C':List (SV N.T)}{η':Nat->BU}{a:Hp}(e:EE t=Br)(h:(SV.d t x).is C η H v):(SV.d t x).is C' η' a v:=by obtain⟨b,c,d⟩:=h;exact⟨b,FU e c,d⟩
theorem aG:∀ {rs:List Ty} {y:Bc N rs} {H d:Hp} {v:BU},rs.all EE=Br->(FG N rs y).is [] η0 H v->(FG N rs y).is [] η0 d v
 | [],_,_,_,_,_,h=>h
 | [t],_,_,_,_,a,h=>Kt (by grind) h
 | [t,u],_,_,_,_,a,⟨x,y,e,b,c⟩=>by simp only[Alx,List.all_nil,Alz,AS]at a;exact⟨x,y,e,Kt a.1 b,Kt a.2 c⟩
 | [t,u,s],_,_,_,_,a,⟨x,y,z,e,b,c,f⟩=>by simp only[Alx,List.all_nil,Alz,AS]at a;exact⟨x,y,z,e,Kt a.1 b,Kt a.2.1 c,Kt a.2.2 f⟩
 |_::_::_::_::_,_,_,_,_,_,h=>h
def mN(S:Nat->SV N.T):List Dc->Option Nat
 | []=>C7
 |x::a=>match Ay S x with
  | .AG k=>Ac k
  |_=>mN S a
def Cg(Rr:Nat->Option (SR N.T))(k:Nat):Nat->Option (SR N.T):=λj=>match Nat.beq j k with
 |true=>Ac .gone
 |false=>Rr j
def Oj(C:List (SV N.T))(ps:List Ty)(xs:List Dc):Nat->(Nat->SV N.T)->(Nat->Option (SR N.T))->List Nat->Option (Bc N ps×List Nat)
 |0,_,_,_=>C7
 |n+1,S,Rr,a=>match mN S xs with
  |some k=>match Rr k with
   |some (.row _ b l)=>Oj C ps xs n (λt=>Gv k b l (S t)) (Cg Rr k) (k::a)
   |_=>C7
  |none=>(Lq N C ps (xs.map (Ay S))).map λx=>(x,a)
theorem aE{k:Nat}{a:Ty}{l:List (a.den N.T)}{x:Dc}(h:GI (N.c a) H l (η k))(b:(Ay S x).is C η H v):(Ay (λt=>Gv k a l (S t)) x).is C η H v:=by
 cases x with
 |tmp t=>exact CJ h b
 |_=>exact b
theorem RJ{f:Nat}{q:FQ N}{y:Bc N q.rs}{vs:List BU}{xs:List Dc}{a:Act}{η:Nat->BU}{Of:List Av}(T:vs=xs.map a.eval)(m:q.rs.all EE=Br)(Q:Dw P f q):∀ {n:Nat} {S:Nat->SV N.T} {Rr:Nat->Option (SR N.T)} {Y:List (Nat×Av)} {H:Hp} {b d:List Nat} {x:Bc N q.ps},
  Oj C q.ps xs n S Rr b=Ac (x,d)->q.F x=Ac y->(keys Y).Nodup->N.inv H->(∀x∈xs,(Ay S x).is C η H (a.eval x))->(∀k∈d,∀t,Rr k=Ac t->Dy C η H Y k t)->
  O5 P f vs H (Y.map (·.2)++Of) (λv u Z=>Z=Y.map (·.2)++Of/\(FG N q.rs y).is [] η0 u v)
 |0,_,_,_,_,_,_,_,h,_,_,_,_,_=>by cases h
 |n+1,S,Rr,Y,H,b,d,x,h,W,M,L,V,O=>by
  unfold Oj at h;split at h
  ·rename_i k hk;split at h
   ·rename_i g te l hb;have sub:∀(n:Nat) (S:Nat->SV N.T) (Rr:Nat->Option (SR N.T)) (b:List Nat),Oj C q.ps xs n S Rr b=Ac (x,d)->∀j∈b,j∈d:=by
     intro n;induction n with
     |zero=>intro S Rr b h;cases h
     |succ n G=>
      grind[Oj,List.mem_cons_of_mem,Option.map_eq_some_iff]
    have D:k∈d:=sub _ _ _ _ h k (by simp);rcases O k D _ hb with e|⟨X,h1,xs',rfl,hL⟩;· grind
    obtain⟨i,K,h3⟩:=Xv Of M h1;intro w U;obtain⟨u,p,I,g3,J⟩:=U.fM K;rw[h3]at I J;have E:GI (N.c te) u l (η k):=GI.of (by simp_all[Bk]) rfl (hL.mono p) (U.Mk K);have G:=RJ (Of:=Of) T m Q h W (JD (k:=k) M) (N.Cz p L) (λx F=>aE E ((V x F).mono p)) (λj s t c=>by
     unfold Cg at c;split at c;· cases c;exact .inl rfl
     ·rename_i B;have ne:=Abe B;exact(O j s t c).imp id λ⟨z,e1,e2⟩=>⟨z,by rw[E9 ne];exact e1,e2.mono p⟩);refine(G w I).mono ?_;rintro e w' ⟨v,H2,O2,rfl,k2,k3,rfl,k5⟩;exact⟨v,H,_,rfl,Hp.le.refl H,J w' (k3.weaken k2),rfl,aG m k5⟩
   grind
  ·obtain⟨z,hz,e⟩:=Pe.1 h;cases e;subst T;exact Q.ok x y W H _ _ L (Qq _ _ _ hz V)
def bG(C:List (SV N.T))(Φ:Nat->Option (FQ N))(S:Nat->SV N.T)(Rr:Nat->Option (SR N.T))(nk:Nat)(f:Nat)(xs:List Dc)(k:Bq N.T->Nat->Option R):Option R:=match Φ f with
 |some q=>match q.rs.all EE with
  |true=>match Oj C q.ps xs 9 S Rr []with
   |some (x,a)=>Ab (q.F x) λy=>k ⟨FG N q.rs y,a,[]⟩ nk
   |none=>C7
  |false=>match Lq N C q.ps (xs.map (Ay S))with
   |some x=>Ab (q.F x) λy=>k ⟨FG N q.rs y,[],[]⟩ nk
   |none=>C7
 |none=>C7
theorem fj{Φ:Nat->Option (FQ N)}(V:∀f q,Φ f=Ac q->Dw P f q){xs:Array Dc}{tys:Array Ee}(I:o.op= .call {callee:= .value (.func f),args:=xs,argTypes:=tys})(h:bG C Φ S Rr nk f xs.toList k=Ac r):AW P C S Rr nk o k r:=by
 have b:∀ {η:Nat->BU} {H:Hp} {a:Act},(∀x∈o.op.operands,(Ay S x).is C η H (a.eval x))->∀z∈xs.toList,(Ay S z).is C η H (a.eval z):=λl z U=>l z (by grind[Op.operands,Call.operands]);unfold bG at h;split at h
 ·rename_i q hq;have n:=V f q hq;split at h
  ·rename_i D;split at h;· rename_i x rd l;obtain⟨y,M,h⟩:=Bp h;refine .y h (λη H Of a w Y m L F g hr _ K Q A=>?_) λ_ _=>Mn;have ht:=RJ (Of:=Of) (C:=C) (η:=η) (H:=H) (a:=a) rfl D n l M m F (b g) (λj hj W J=>hr j (.inl hj) W J);have b:=BJ.call (P:=P) (T:=o.type) (E:=EV a) (H:=H) (O:=Y.map (·.2)++Of) (tys:=tys) n.Uc (HX xs.toList) ht;refine b a w o K Q (by rw[I]) rfl (λx u e=>by grind) L λv X p Z c ⟨s,t⟩ d=>?_;subst s;exact A v X p η Y c (λ_ _=>rfl) (λ_ _=>rfl) (λk W h=>by cases h) m (λk G=> .inl G) d (Mo t)
   grind
  ·split at h;· rename_i x l;obtain⟨y,M,h⟩:=Bp h;refine .y h (λη H Of a w Y m L F g _ _ K Q A=>?_) λ_ _=>Mn;have B:=Qq (C:=C) (η:=η) (H:=H) (a:=a) _ _ _ l λz U=>b g z U;have b:=BJ.call (P:=P) (T:=o.type) (E:=EV a) (H:=H) (O:=Y.map (·.2)++Of) (tys:=tys) n.Uc (HX xs.toList) (n.ok x y M H (Y.map (·.2)++Of) _ F B);refine b a w o K Q (by rw[I]) rfl (λx u e=>by simpa using e) L λv X p Z c ⟨s,t⟩ d=>?_;subst s;exact A v X p η Y c (λ_ _=>rfl) (λ_ _=>rfl) (λk W h=>by cases h) m (λk G=> .inl G) d (Mo t)
   grind
 grind
end
end
section
variable {N : C6}
section
variable{α:Type}
def IU(P:Ge)(yv:BU)(vs:List BU)(w:GD)(K:Bool->GD->Prop):Prop:= ∃l f c d a,yv= .func (.yield l) #[] #[]/\(Instr.yield l vs.toArray).run P w= .ok (.round l f c d a) w/\RoundIn Fence.wide 0 P l f c d a w λe g=> ∃b,e= .returned (.bool b)/\K b g
theorem IU.mono{P:Ge}{yv:BU}{vs:List BU}{w:GD}{K g:Bool->GD->Prop}(h:IU P yv vs w K)(o:∀b w',K b w'->g b w'):IU P yv vs w g:=by obtain⟨l,f,c,d,a,k,m,n⟩:=h;exact⟨l,f,c,d,a,k,m,n.mono λe w' ⟨b,i,j⟩=>⟨b,i,o _ _ j⟩⟩
structure IQ(N:C6)where
 pi:A9
 yi:Nat
 ts:List Ty
 F:BV N pi.hs->Option (List (Bc N ts)×Bool)
def KI(r:List α×Bool):Bool->List α×Bool
 |true=>r
 |false=>([],Br)
structure IX(P:Ge)(f:Nat)(q:IQ N):Prop where
 Uc:QF P f
 ok:∀x ys,q.F x=Ac ys->∀(G:Hp->List Av->List (Bc N q.ts)×Bool->Prop) (yv:BU),yv.oneCell'=Br->
  (∀H H' O r,H.le H'->G H O r->G H' O r)->(∀H O,¬G H O ([],Ap))->
  (∀H O y l e,N.inv H->G H O (y::l,e)->∀A vs w,Lw H q.ts y vs->SH w H (A++O)->IU P yv vs w λb w'=> ∃H' O',H.le H'/\SH w' H' (A++O')/\G H' O' (KI (l,e) b))->
  ∀(η:Nat->BU) (H:Hp) (O:List Av) (Y:List (Nat×Av)) (vs:List BU) (w:GD),(keys Y).Nodup->vs.length=q.pi.sl.length->(∀p∈q.pi.sl,∃v,vs[p.1]?=Ac v/\(inst N q.pi.hs x p.2).is [] η H v)->vs[q.yi]?=Ac yv->
   keys Y=q.pi.ro.map (·.1)->(∀p∈q.pi.ro,∃X,Ax Y p.1=Ac X/\(instR N q.pi.hs x p.2).is [] η H p.1 X)->G H O ys->N.inv H->SH w H (Y.map (·.2)++O)->
  Calls P f vs.toArray w λe w'=> ∃v H' O' Y',e= .returned v/\H.le H'/\SH w' H' (Y'.map (·.2)++O')/\keys Y'=q.pi.ro.map (·.1)/\(∀p∈q.pi.ro,∃X,Ax Y' p.1=Ac X/\(instR N q.pi.hs x p.2).is [] η H' p.1 X)/\G H' O' ([],Br)
structure JQ(N:C6)where
 pi:A9
 ky:Nat
 ts:List Ty
 rb:Bool
 F:BV N pi.hs->Option (List (Bc N ts)×Option Bool)
def wz(r:List α)(b:Option Bool):Bool->List α×Option Bool
 |true=>(r,b)
 |false=>([],Ac Ap)
structure IW(P:Ge)(f:Nat)(q:JQ N):Prop where
 Uc:QF P f
 ok:∀x r,q.F x=Ac r->∀(η:Nat->BU) (G:Hp->List Av->List (Bc N q.ts)×Option Bool->Prop),
  (∀H H' O r,H.le H'->G H O r->G H' O r)->(∀H O,¬G H O ([],C7))->
  (∀H O y r b,N.inv H->G H O (y::r,b)->∀A vs w,Lw H q.ts y vs->SH w H (A++O)->IU P (η q.ky) vs w λc w'=> ∃H' O',H.le H'/\SH w' H' (A++O')/\G H' O' (wz r b c))->
  ∀(H:Hp) (O:List Av) (Y:List (Nat×Av)) (vs:List BU) (w:GD),(keys Y).Nodup->vs.length=q.pi.sl.length->(∀p∈q.pi.sl,∃v,vs[p.1]?=Ac v/\(inst N q.pi.hs x p.2).is [] η H v)->
   keys Y=q.pi.ro.map (·.1)->(∀p∈q.pi.ro,∃X,Ax Y p.1=Ac X/\(instR N q.pi.hs x p.2).is [] η H p.1 X)->G H O r->N.inv H->SH w H (Y.map (·.2)++O)->
  Calls P f vs.toArray w λe w'=> ∃v H' O' Y' b,e= .returned v/\H.le H'/\SH w' H' (Y'.map (·.2)++O')/\keys Y'=q.pi.ro.map (·.1)/\(∀p∈q.pi.ro,∃X,Ax Y' p.1=Ac X/\(instR N q.pi.hs x p.2).is [] η H' p.1 X)/\G H' O' ([],Ac b)/\(q.rb=Br->v= .bool b)
end
end
theorem Akd{w:GD}{H:Hp}{O:List Av}(m:SH w H O){i:Nat}{v:BU}{e:Ee}{size n:Nat}{xs:List BU}(hi:O[i]?=Ac (.row v e size n xs)):
  ∃k,H.le k/\SH w k (O.eraseIdx i)/\Sl k v size n xs/\∀w' l,SH w' k l->SH w' H (.row v e size n xs::l):=by
 have h:=m.ok i _ hi;rcases h.2 with⟨rfl,rfl⟩|⟨g,cap,cur,rfl,q,y,s,d,p,a⟩;· have:xs=[]:=Abc (by simpa using h.1);subst this;exact⟨H,Hp.le.refl H,m.drop i,Sl.nil H size,λw' l c=>c.G' e size⟩
 ·obtain⟨t,x⟩:=m.LD hi (b:=g) rfl y;refine⟨_,t,x,⟨h.1, .inr ⟨_,_,rfl,s⟩,λj u A=>⟨⟨g,0+j,C7⟩,cur,e,(0,0),by grind[AO,Addr.add_lit],rfl,by simp[Hp.put],?_⟩⟩,λw' l c=>?_⟩;· grind
  ·exact Ahy (i:=0) (r:= .row (.slice (Ac ⟨g,0,C7⟩) n cap) e size n xs) (o:= .cells cur e (0,0)) rf rf (m.JC i _ g hi rf) (λz f=>⟨h.1, .inr ⟨g,cap,cur,rf,q,f,s,d,p,a⟩⟩) c
section
variable {N : C6}
section
variable{H:Hp}{η:Nat->BU}{C:List (SV N.T)}{t:Ty}{k:Nat}
def CK:SV N.T->Bool
 | .d t _=>EE t
 | .DU _ _ _ _ _=>Ap
 | .pd _ _ _=>Ap
 | .Cr _=>Ap
 | .lf _ a l=>CK a&&CK l
 | .t2 a b=>CK a&&CK b
 | .t3 a b c=>CK a&&(CK b&&CK c)
 | .AK _ l _=>CK l
 | .vc a l=>CK a&&CK l
 | .px _ (.dx _ _)=>Ap
 |_=>Br
def VP:SR N.T->Bool
 | .Ah _ l=>CK l
 | .row _ t _=>EE t
 | .Cr _=>Ap
 | .gone=>Br
 | .map _ _ _ _=>Ap
 | .Ep _ _ _ _ _=>Ap
theorem Ch{g w:Nat->BU->Prop}{η:Nat->BU}{H p:Hp} :∀ {s:SV N.T} {v:BU},CK s=Br->s.BN g η H v->s.BN w η p v
 | .d t x,v,e,⟨o,i,j⟩=>⟨o,FU e i,j⟩
 | .na _,_,_,h=>h
 | .ct _ _,_,_,h=>h
 | .cb _ _,_,_,h=>h
 | .lt _ _ _,_,_,h=>h
 | .lb _,_,_,h=>h
 | .raw _,_,_,h=>h
 | .ud,_,_,h=>h
 | .no,_,_,h=>h
 | .loc _ _,_,_,h=>h
 | .AG _,_,_,h=>h
 | .DU _ _ _ _ _,_,e,_=>by cases e
 | .pd t x off,v,e,_=>by cases e
 | .mp _,_,_,h=>h
 | .lf s a l,v,e,⟨q,r,u,i,j,k,m,A,B⟩=>by have e:(CK a&&CK l)=Br:=e;rw[AS]at e;exact⟨q,r,u,i,j,Ch e.1 k,m,A,Ch e.2 B⟩
 | .nl,_,_,h=>h
 | .t2 a b,v,e,⟨x,y,i,j,k⟩=>by have e:(CK a&&CK b)=Br:=e;rw[AS]at e;exact⟨x,y,i,Ch e.1 j,Ch e.2 k⟩
 | .t3 a b c,v,e,⟨x,y,z,i,j,k,m⟩=>by have e:(CK a&&(CK b&&CK c))=Br:=e;rw[AS,AS]at e;exact⟨x,y,z,i,Ch e.1 j,Ch e.2.1 k,Ch e.2.2 m⟩
 | .AK f l o,v,e,⟨n,i,j⟩=>⟨n,i,Ch (s:=l) e j⟩
 | .vn,_,_,h=>h
 | .vc a l,v,e,⟨u,n,i,j,k⟩=>by have e:(CK a&&CK l)=Br:=e;rw[AS]at e;exact⟨u,n,i,Ch e.1 j,Ch e.2 k⟩
 | .px _ (.sub _ _ _),_,_,h=>h
 | .px _ .sf,_,_,h=>h
 | .px _ (.hc _),_,_,h=>h
 | .px _ (.fo _),_,_,h=>h
 | .px _ (.fi _),_,_,h=>h
 | .px _ (.fe _ _ _),_,_,h=>h
 | .px _ .any,_,_,h=>h
 | .px _ .ub,_,_,h=>h
 | .px _ (.sd _),_,_,h=>h
 | .px _ (.dx _ _),_,e,_=>by cases e
 | .Cr _,_,e,_=>by cases e
theorem OL{t:Ty}{H b:Hp}(a:EE t=Br):∀ {l:List (t.den N.T)} {xs:List BU},AZ (N.c t) H l xs->AZ (N.c t) b l xs
 | [],_,h=>h
 |_::_,_,⟨c,xs,e,d,f⟩=>⟨c,xs,e,FU a d,OL a f⟩
theorem R7{d:Hp}{s:SR N.T}{r:Av}(a:VP s=Br)(h:s.is C η H k r):s.is C η d k r:=by
 cases s with
 |Ah g l=>
  obtain⟨B,e,b,c,f⟩:=h;exact⟨B,e,b,c,Ch (s:=l) a f⟩
 |row g t l=>obtain⟨i,b,c⟩:=h;exact⟨i,b,OL a c⟩
 |Cr j=>cases a
 |gone=>exact h
 |map g m n l=>cases a
 |Ep _ _ _ _ _=>cases a
def qn(k:Nat)(t:Ty)(l:List (t.den N.T)):SR N.T->SR N.T
 | .Ah g r=> .Ah g (Gv k t l r)
 |r=>r
def yG(C:List (SV N.T)):SV N.T->SV N.T
 | .lf s a l=> .lf s (res C a) (yG C l)
 |s=>s
theorem n_:∀ {s:SV N.T} {v:BU},s.is C η H v->(yG C s).is C η H v:=by
 intro s;induction s with
 |lf n a l _ k=>exact λ⟨b,c,u,d,e,f,g,i,j⟩=>⟨b,c,u,d,e,Eu f,g,i,k j⟩
 |_=>exact λh=>h
def rlR(C:List (SV N.T)):SR N.T->SR N.T
 | .Ah g l=> .Ah g (yG C l)
 |r=>r
def Kk(C:List (SV N.T))(Rr:Nat->Option (SR N.T))(k:Nat)(t:Ty)(l:List (t.den N.T)):Nat->Option (SR N.T):=λj=>match Nat.beq j k with
 |true=>Ac .gone
 |false=>(Rr j).map λr=>qn k t l (rlR C r)
theorem fO{a:Hp}(c:H.le a){j:Nat}{l:List (t.den N.T)}(h:GI (N.c t) a l (η k)){r:SR N.T}{X:Av}(d:r.is C η H j X):(qn k t l (rlR C r)).is C η a j X:=by
 cases r with
 |Ah g b=>
  obtain⟨B,e,f,i,m⟩:=d;exact⟨B,e,f,i,CJ h (n_ (m.mono c))⟩
 |_=>exact SR.is.mono c d
end
variable {R : Type} {P : Ge} {C : List (SV N.T)} {S : Nat -> SV N.T} {Rr : Nat -> Option (SR N.T)} {nk : Nat} {o : J5} {k : Bq N.T -> Nat -> Option R} {r : R}
section
variable{g:Ee}{s:Bq N.T}{c:Nat}{b:Ty}{l:List (b.den N.T)}{τ:Nat->Nat}{a:Nat}{η:Nat->BU}{H:Hp}{t:Ty}{x:t.den N.T}{B:Nat}{cs:List BU}
theorem Ao.fN{d:Nat}{n:Ty}{l:List (n.den N.T)}(hk:Rr d=Ac (.row g n l))(h:Ao P C (λt=>Gv d n l (S t)) (Kk C Rr d n l) o s)(hw:d∉keys s.wr)(hf:CK s.sv=Br)(I:s.wr.all (λp=>VP p.2)=Br):Ao P C S Rr o ⟨s.sv,d::s.rd,s.wr⟩:=by
 intro η H Of a w Y hn hs hi hx hr E K Q hK;rcases hr d (.inl (by simp)) _ hk with e|⟨x,G,xs,rfl,hL⟩;· grind
 obtain⟨i,h2,h3⟩:=Xv Of hn G;obtain⟨Z,D,g2,g3,g4⟩:=Akd hs h2;rw[h3]at g2;have A:GI (N.c n) Z l (η d):=GI.of (by grind[Bk]) rfl (hL.mono D) (hs.Mk h2);have J:d∉keys (GQ Y d):=λm=>by obtain⟨p,hp,e⟩:=By.1 m;have:=(Aax.1 hp).2;rw[e]at this;simp at this
 refine h η Z Of a w (GQ Y d) (JD hn) g2 (N.Cz D hi) (λx V=>aE A ((hx x V).mono D)) (λj c sr f=>?_) (λj c b m=>?_) K Q λv w' H2 X Y' L W hY U M q B T=>?_
 ·unfold Kk at f;split at f;· cases f;exact .inl rfl
  ·rename_i u;have ne:=Abe u;obtain⟨s0,O,rfl⟩:=Pe.1 f;rcases hr j (c.imp (Aag _) id) s0 O with e|⟨z,e1,F⟩;· subst e;exact .inl rfl
   ·exact .inr ⟨z,by grind[ne,E9],fO D A F⟩
 ·grind[Kk,Option.map_eq_none_iff,DO]
 ·have y:d∉keys Y':=λm=>(q d m).elim J hw;refine hK v w' H X ((d, .row (η d) g (n.sz N) l.length xs)::Y') (Hp.le.refl H) (λj c=>W j λb m=>?_) (λj c=>?_) (λj sr c=>?_) (Abl.2 ⟨y,M⟩) (λj c=>?_) ?_ (Ch hf T)
  ·unfold Kk at b;split at b;· cases b
   ·exact c (Option.map_eq_none_iff.1 b) m
  ·simp only[Ax];split;· rename_i u;have:=AI u;subst this;exact G.symm
   ·rename_i u;rw[hY j c,E9 (λe=>Abe u e.symm)]
  ·have ne:d≠j:=λe=>by subst e;exact hw (Dd c)
   refine(U j sr c).imp id λ⟨z,e1,F⟩=>⟨z,by rw[A6 ne];exact e1,R7 (OF.1 I _ (A2 c)) F⟩
  ·simp only[keys,Aap,Aay]at c;rcases c with rfl|c;· exact .inl (Dd G)
   ·rcases q j c with e|e;· exact .inl (DO e)
    ·exact .inr e
  ·exact g4 w' _ (B.weaken L)
theorem vN(h:Nl Rr S τ):Nl (Kk C Rr c b l) (λt=>Gv c b l (S t)) τ:=λt=>by
 have d:=h t;generalize g:S t=sv at d⊢;show DF τ (Kk C Rr c b l) (Gv c b l (S t));rw[g];cases sv with
 |AG j=>unfold Gv;split<;>trivial
 |DU j i off p x=>
  unfold Gv;split;· trivial
  ·rename_i e;intro q u s a;unfold Kk at a;rw[e]at a;obtain⟨n,f,m⟩:=Pe.1 a;cases n<;>first|(cases m;exact d _ _ _ f)|cases m
 |_=>exact d
theorem T3(c:∀j,nk<=j->Rr j=C7)(b:a<nk):∀j,nk<=j->Cg Rr a j=C7:=λj d=>by grind[Cg,Nat.beq,Nat.eq_of_beq_eq_true]
theorem Ol(d:∀j,nk<=j->Rr j=C7)(c:a<nk):∀j,nk<=j->Kk C Rr a b l j=C7:=λj e=>by grind[Kk,Nat.beq,Nat.eq_of_beq_eq_true]
def MI(a:Nat)(k:Bq N.T->Nat->Option R)(s:Bq N.T)(nk:Nat):Option R:=match BZ (keys s.wr) a,CK s.sv&&s.wr.all (λp=>VP p.2)with
 |false,Br=>k ⟨s.sv,a::s.rd,s.wr⟩ nk
 |_,_=>C7
theorem AW.fN{b:Nat}{c:Ty}{l:List (c.den N.T)}(w:Rr b=Ac (.row g c l))(h:AW P C (λt=>Gv b c l (S t)) (Kk C Rr b c l) nk o (MI b k) r):AW P C S Rr nk o k r:=by
 obtain⟨s,m,d,p,q,u,v⟩:=h;unfold MI at d;split at d
 ·rename_i z a;rw[AS]at a;have y:b∉keys s.wr:=λe=>by grind[AP]
  refine⟨_,m,d,p.fN w y a.1 a.2,q,λj x f=>u j x ?_,λτ i=>?_⟩;· grind[Kk,Nat.beq,absurd,Nat.eq_of_beq_eq_true]
  ·have n:=v τ (vN i);have a:=a.1;generalize s.sv=sv at n a;cases sv with
   |DU _ _ _ _ _=>trivial
   |_=>exact n
 grind
def Qo(k:Nat)(t:Ty)(x:t.den N.T):SV N.T->SV N.T
 | .loc j off=>match Nat.beq j k with
  |true=> .pd t x off
  |false=> .loc j off
 | .lf s a r=> .lf s (Qo k t x a) (Qo k t x r)
 | .t2 a b=> .t2 (Qo k t x a) (Qo k t x b)
 | .t3 a b c=> .t3 (Qo k t x a) (Qo k t x b) (Qo k t x c)
 | .AK f r d=> .AK f (Qo k t x r) d
 | .vc a r=> .vc (Qo k t x a) (Qo k t x r)
 |s=>s
theorem iv{C:List (SV N.T)}{η:Nat->BU}{H:Hp}{g:Nat->BU->Prop}{k:Nat}{t:Ty}{x:t.den N.T}{B:Nat}{cs:List BU}(U:η k=ptr B 0)(J:(N.c t).BI H x cs)(hc:∀j u,cs[j]?=Ac u->DG H (ptr B j) u):∀ {s:SV N.T} {v:BU},s.BN g η H v->(Qo k t x s).BN g η H v:=by
 intro s;induction s with
 |loc j off=>
  intro v M;unfold Qo;split
  ·rename_i K;have:=AI K;obtain⟨D,d,rfl⟩:=M;have:B=D:=by grind[ptr]
   subst this;exact⟨⟨B,0,C7⟩,0,cs,by simp[ptr,Addr.add],J,λj u L=>by have:=hc j u L;rw[Addr.add_lit,Abi,Abi];trivial⟩
  omega
 |lf n a l d m=>exact λ⟨F,G,u,e,i,p,q,Q,T⟩=>⟨F,G,u,e,i,d p,q,Q,m T⟩
 |t2 a b d m=>exact λ⟨y,z,e,i,p⟩=>⟨y,z,e,d i,m p⟩
 |t3 a b c d m I=>exact λ⟨y,z,w,e,i,p,q⟩=>⟨y,z,w,e,d i,m p,I q⟩
 |AK f r cs d=>exact λ⟨A,e,i⟩=>⟨A,e,d i⟩
 |vc a r d m=>exact λ⟨u,A,e,i,p⟩=>⟨u,A,e,d i,m p⟩
 |_=>exact λh=>h
theorem wk{k:Nat}(b:η k=ptr B 0)(c:(N.c t).BI H x cs)(hc:∀j u,cs[j]?=Ac u->DG H (ptr B j) u){y:Dc}{v:BU}(h:(Ay S y).is C η H v):(Ay (λu=>Qo k t x (S u)) y).is C η H v:=by
 cases y with
 |tmp u=>exact iv (C:=C) b c hc h
 |_=>exact h
theorem Ao.ZT{f:Nat}{b:SV N.T}{L:Ty}{y:L.den N.T}(hk:Rr f=Ac (.Ah g b))(hy:JS N C 64 L b=Ac (y, .nl))(h:Ao P C (λt=>Qo f L y (S t)) (Cg Rr f) o s)(hw:f∉keys s.wr)(hf:CK s.sv=Br)(W:s.wr.all (λp=>VP p.2)=Br):Ao P C S Rr o ⟨s.sv,f::s.rd,s.wr⟩:=by
 intro η H Of a w Y hn hs hi hx hr l K Q hK;rcases hr f (.inl (by simp)) _ hk with e|⟨x,T,B,cs,hB,rfl,hl⟩;· grind
 obtain⟨i,U,h3⟩:=Xv Of hn T;obtain⟨c1,c2,M,hL,J⟩:=DW (cs:=cs.toList) hy hl;have J:BU.agg c2.toArray= .agg #[]:=J;have J:c2=[]:=by grind
 subst J;obtain⟨I,g2⟩:=hs.LD U (b:=B) rfl (hs.ok i _ U);have D:H.at_ B=C7:=hs.JC i _ B U rfl;rw[h3]at g2;have V:=(N.c L).mono I hL;have hc:∀j u,c1[j]?=Ac u->DG (H.put B (.cells cs g (0,0))) (ptr B j) u:=λj u d=>by refine⟨⟨B,j,C7⟩,cs,g,(0,0),rf,rf,by simp[Hp.put],?_⟩;grind
 have X:f∉keys (GQ Y f):=λn=>by obtain⟨p,hp,e⟩:=By.1 n;have:=(Aax.1 hp).2;rw[e]at this;simp at this
 refine h η _ Of a w (GQ Y f) (JD hn) g2 (N.Cz I hi) (λx hx'=>wk hB V hc ((hx x hx').mono I)) (λj d sr m=>?_) (λj d c n=>?_) K Q λv w' H2 η' Y' Z hη hY hwr hn' q F hsv=>?_
 ·unfold Cg at m;split at m;· cases m;exact .inl rfl
  ·rename_i A;have ne:=Abe A;exact(hr j (d.imp (Aag _) id) sr m).imp id λ⟨z,M,O⟩=>⟨z,by grind[ne,E9],O.mono I⟩
 ·unfold Cg at c;split at c;· cases c
  ·exact l j d c (DO n)
 ·have E:f∉keys Y':=λn=>(q f n).elim X hw;refine hK v w' H η' ((f, .Ah B (.cells cs g (0,0)))::Y') (Hp.le.refl H) (λj d=>hη j λc n=>?_) (λj d=>?_) (λj sr d=>?_) (Abl.2 ⟨E,hn'⟩) (λj d=>?_) ?_ (Ch hf hsv)
  ·unfold Cg at c;split at c;· cases c
   ·exact d c n
  ·simp only[Ax];split;· rename_i A;have:=AI A;subst this;exact T.symm
   ·rename_i A;rw[hY j d,E9 (λe=>Abe A e.symm)]
  ·have ne:f≠j:=λe=>by subst e;exact hw (Dd d)
   refine(hwr j sr d).imp id λ⟨z,M,O⟩=>⟨z,by rw[A6 ne];exact M,R7 (OF.1 W _ (A2 d)) O⟩
  ·simp only[keys,Aap,Aay]at d;rcases d with rfl|d;· exact .inl (Dd T)
   ·rcases q j d with e|e;· exact .inl (DO e)
    ·exact .inr e
  ·exact Ahy (i:=0) (r:= .Ah B (.cells cs g (0,0))) (o:= .cells cs g (0,0)) rf rf D (λw'' G=>G) (F.weaken Z)
theorem wj{b:Nat}{f:Ty}{y:f.den N.T}(e:Nl Rr S τ):Nl (Cg Rr b) (λt=>Qo b f y (S t)) τ:=λt=>by
 have c:=e t;generalize d:S t=sv at c⊢;show DF τ (Cg Rr b) (Qo b f y (S t));rw[d];cases sv with
 |loc j off=>unfold Qo;split<;>trivial
 |DU j i off m x=>
  intro g l h a;unfold Cg at a;split at a;· grind
  ·exact c g l h a
 |_=>exact c
theorem AW.ZT{b:SV N.T}{m:Ty}{y:m.den N.T}(w:Rr c=Ac (.Ah g b))(A:JS N C 64 m b=Ac (y, .nl))(h:AW P C (λt=>Qo c m y (S t)) (Cg Rr c) nk o (MI c k) r):AW P C S Rr nk o k r:=by
 obtain⟨s,l,d,p,q,u,v⟩:=h;unfold MI at d;split at d
 ·rename_i B a;rw[AS]at a;have z:c∉keys s.wr:=λe=>by grind[AP]
  refine⟨_,l,d,p.ZT w A z a.1 a.2,q,λj x f=>u j x ?_,λτ i=>?_⟩;· grind[Cg,Nat.beq,absurd,Nat.eq_of_beq_eq_true]
  ·have n:=v τ (wj i);have a:=a.1;generalize s.sv=sv at n a;cases sv with
   |DU _ _ _ _ _=>trivial
   |_=>exact n
 grind
def Sz:SV N.T->List (SV N.T)
 | .vc a l=>a::Sz l
 |_=>[]
def ua:SV N.T->Bool
 | .vc _ l=>ua l
 | .vn=>Br
 |_=>Ap
structure Ca(T:Nat->Type)where
 f:Nat
 As:List (SV T)
 cs:List Nat
end
section
variable{η:Nat->BU}{H:Hp}{x:Dc}{xs:List Dc}{tys:Array Ee}{q:PQ N}
def SF(S:Nat->SV N.T)(Rr:Nat->Option (SR N.T))(x:Dc)(xs:List Dc):Option (Ca N.T):=match Ay S x with
 | .AK f l a=>match ua l&&a.all λc=>match Rr c with|some (.Ah _ _)=>Br|_=>Ap with
  |true=>Ac ⟨f,Sz l++xs.map (Ay S)++a.map (λc=> .loc c 0),a⟩
  |false=>C7
 |_=>C7
theorem M6{C:List (SV N.T)}{η:Nat->BU}{H:Hp} :∀ {l:SV N.T} {us:List BU},ua l=Br->l.is C η H (.tuple us.toArray)->us.length=(Sz l).length/\∀(i:Nat) (s:SV N.T),(Sz l)[i]?=Ac s->∃v,us[i]?=Ac v/\s.is C η H v
 | .vn,us,_,h=>by
  have h:BU.tuple us.toArray= .tuple #[]:=h;have:us=[]:=by grind
  subst this;exact⟨rfl,λi s h=>by trivial⟩
 | .vc a l,us,g,⟨u,c,e,d,f⟩=>by
  have e:us=u::c:=by grind
  subst e;obtain⟨j,m⟩:=M6 (l:=l) g f;refine⟨by grind[Sz],λi s h=>?_⟩;cases i with
  |zero=>simp[Sz]at h;subst h;exact⟨u,rfl,d⟩
  |succ i=>grind[Sz]
theorem Wd{q:Ca N.T}(E:o.op= .call {callee:= .value x,args:=xs.toArray,argTypes:=tys})(h:SF S Rr x xs=Ac q)(t:QF P q.f){Y:List (Nat×Av)}{a:Act}(F:∀x∈o.op.operands,(Ay S x).is C η H (a.eval x))(Q:∀c∈q.cs,∀I,Rr c=Ac I->Dy C η H Y c I):
  ∃vs:List BU,vs.length=q.As.length/\(∀(i:Nat) (s:SV N.T),q.As[i]?=Ac s->∃v,vs[i]?=Ac v/\s.is C η H v)/\∀H O R,O5 P q.f vs H O R->BJ P o.op o.type (EV a) H O R:=by
 unfold SF at h;split at h
 ·rename_i f l D T;split at h
  ·rename_i y;cases h;rw[AS]at y;have u:(Ay S x).is C η H (a.eval x):=F x (by grind[Op.operands,Call.operands]);rw[T]at u;obtain⟨J,e,M⟩:=u;obtain⟨K,W⟩:=M6 y.1 M;refine⟨J++xs.map a.eval++D.map η,by grind,λi s j=>?_,λH O R U=>?_⟩
   ·rw[Aam]at j⊢;by_cases V:i<(Sz l).length;· grind
    ·rw[Aab (by omega)]at j;rw[Aab (by omega),K];by_cases w:i-(Sz l).length<xs.length;· rw[Aaa (by simpa using w),Abx]at j;rw[Aaa (by simpa using w),Abx];obtain⟨z,G,rfl⟩:=Pe.1 j;refine⟨_,by rw[G];rfl,F z (by rw[E];simp[Op.operands,Call.operands];exact .inr (Aai G))⟩
     ·rw[Aab (by simpa using w),Abx]at j;rw[Aab (by simpa using w),Abx];simp only[Aah]at j⊢;obtain⟨c,hc,rfl⟩:=Pe.1 j;have p:=Aai hc;have n:=OF.1 y.2 c p;refine⟨η c,by rw[hc];rfl,?_⟩;split at n
      ·rename_i g b L;rcases Q c p _ L with e|⟨X,_,B,_,A,_⟩;· cases e
       ·exact⟨B,A,A⟩
      ·cases n
   ·rw[E];exact Akk (first:=J) (caps:=D.map η) t (congrArg Ac e) (HX xs) U
  grind
 grind
def Xn{T:Nat->Type} :SV T->Option Nat
 | .AG k=>Ac k
 | .lf _ a l=>match Xn a with
  |some k=>Ac k
  |none=>Xn l
 |_=>C7
def Vv(a:List (SV N.T)):List (Nat×SP)->Option Nat
 | []=>C7
 |(i, .v _ _)::l=>match Xn (a.getD i .no)with
  |some k=>Ac k
  |none=>Vv a l
 |_::l=>Vv a l
def ZS(a:List (SV N.T)):List (Nat×SP)->Option (Nat×Ty)
 | []=>C7
 |(i, .pd _ t _)::l=>match a.getD i .no with
  | .loc k _=>Ac (k,t)
  |_=>ZS a l
 |_::l=>ZS a l
def OW(C:List (SV N.T))(f:Nat)(q:PQ N)(x:Dc)(xs:List Dc)(nk:Nat):Nat->(Nat->SV N.T)->(Nat->Option (SR N.T))->(Bq N.T->Nat->Option R)->Option (Option R)
 |0,_,_,_=>C7
 |n+1,S,Rr,k=>match SF S Rr x xs with
  |some c=>
        match Nat.beq c.f f with
   |true=>
        match Vv c.As q.pi.sl with
    |some a=>match Rr a with
     |some (.row _ d l)=>OW C f q x xs nk n (λt=>Gv a d l (S t)) (Kk C Rr a d l) (MI a k)
     |_=>C7
    |none=>match ZS c.As q.pi.sl with
     |some (kb,e)=>match Rr kb with
      |some (.Ah _ b)=>match Xn (yG C b)with
       |some a=>match Rr a with
        |some (.row _ d l)=>OW C f q x xs nk n (λt=>Gv a d l (S t)) (Kk C Rr a d l) (MI a k)
        |_=>C7
       |none=>match JS N C 64 e b with
        |some (y, .nl)=>OW C f q x xs nk n (λt=>Qo kb e y (S t)) (Cg Rr kb) (MI kb k)
        |_=>C7
      |_=>C7
     |none=>Wc C Rr nk q c.As c.cs k
   |false=>C7
  |none=>C7
theorem U7{y:BV N q.po.hs}{τ:Nat->Nat}{Rr:Nat->Option (SR N.T)}{ρ:Nat->Nat}(c:tU q=Br):DF τ Rr ((Ja q y).DA ρ):=by
 unfold tU at c;rw[AS]at c;have B:∀p∈Zd q,∀ {ρ:Nat->Nat} {Rr:Nat->Option (SR N.T)},DF τ Rr ((inst N q.po.hs y p).DA ρ):=λp l {ρ Rr} =>by
  have:=
      OF.1 c.1 p l;rw[AS]at this;have s:=this.1;have pr:∀(a:List HT) (x:BV N a) (j:Nat),DF τ Rr ((Cq N a x j).DA ρ):=λa x j=>by
   have:∀(a:List HT) (x:BV N a) (j:Nat),Cq N a x j= .no\/∃h y,Cq N a x j=dJ N h y:=by
    intro a;induction a with
    |nil=>exact λ_ _=> .inl rfl
    |cons t g w=>
     intro x j;cases g with
     |nil=>cases j with
      |zero=>exact .inr ⟨t,x,rfl⟩
      |succ j=>exact .inl rfl
     |cons u g=>cases j with
      |zero=>exact .inr ⟨t,x.1,rfl⟩
      |succ j=>exact w x.2 j
   rcases this a x j with e|⟨h,y,e⟩;· rw[e];trivial
   ·rw[e];cases h<;>trivial
  cases p with
  |v j t=>exact pr _ _ _
  |nat j=>exact pr _ _ _
  |AG _=>trivial
  |loc _ _=>trivial
  |AK _ _ _=>trivial
  |Ak=>trivial
  |nl=>trivial
  |mp _=>trivial
  |pd j t off=>
   show DF τ Rr (SV.DA ρ (match Cq N q.po.hs y j with| .d t x=>SV.pd t x off|_=> .no));split<;>trivial
  |px f z=>cases z with
   |sf=>trivial
   |hc _=>trivial
   |sub j n t=>
    show DF τ Rr (SV.DA ρ (match Cq N q.po.hs y j,Cq N q.po.hs y n with| .na i, .na m=>SV.px f (.sub i m t)|_,_=> .px f .any));split<;>trivial
  |sv A=>cases A<;>trivial
  |_=>trivial
 unfold Ja;unfold Zd at B;split;· trivial
 ·simp_all
 all_goals trivial
theorem JO{f:Nat}{q:PQ N}{x:Dc}{xs:List Dc}{tys:Array Ee}(D:o.op= .call {callee:= .value x,args:=xs.toArray,argTypes:=tys})(A:Dx P f q):∀ {n:Nat} {S:Nat->SV N.T} {Rr:Nat->Option (SR N.T)} {k:Bq N.T->Nat->Option R},(∀j,nk<=j->Rr j=C7)->OW C f q x xs nk n S Rr k=Ac (Ac r)->AW P C S Rr nk o k r
 |0,_,_,_,_,h=>by cases h
 |n+1,S,Rr,k,t,h=>by
  unfold OW at h;split at h
  ·rename_i c hc;split at h
   ·rename_i T;have e:=AI T;split at h
    ·rename_i E hk;split at h
     ·rename_i g te l u;have m:E<nk:=Abz λi=>by grind
      exact .fN u (JO D A (Ol t m) h)
     grind
    ·split at h
     ·rename_i kb tb V;split at h;case h_2=>cases h
      rename_i g b w;have v:kb<nk:=Abz λi=>by have:=t kb i;rw[w]at this;cases this
      split at h
      ·rename_i E U;split at h
       ·rename_i g te l u;have m:E<nk:=Abz λi=>by have:=t E i;rw[u]at this;cases this
        exact .fN u (JO D A (Ol t m) h)
       ·cases h
      ·split at h;· rename_i y I;exact .ZT w I (JO D A (T3 t v) h)
       ·cases h
     unfold Wc at h;simp only at h;split at h
     ·rename_i d;simp only[AS]at d;split at h
      ·rename_i z hz;obtain⟨y,I,h⟩:=Bp (Abo h);obtain⟨L,M⟩:=XO (S:=S) (o:=o) (f:=f) (ex:=c.cs) A d.2.2.1 d.2.2.2 (AI d.1) (λp W=>by simpa using OF.1 d.2.1 p W) hz I t λη H Y a Z u=>by
        obtain⟨vs,k1,k2,k3⟩:=Wd D hc (by rw[e];exact A.Uc) Z (λK F sr G=>u K (Acf _ F) sr G);exact⟨vs,k1,k2,λH O R X=>k3 H O R (by rw[e];exact X)⟩
       refine⟨_,_,h,L,Nat.le_add_right _ _,M,λτ _=>?_⟩;exact U7 d.2.2.2
      ·cases h
     ·cases h
   grind
  grind
inductive CQ(N:C6)where
 |Ae (q:FQ N)
 |Ro (l:List (PQ N))
 |its (l:List (IQ N))
 |pY (l:List (JQ N))
end
section
variable{f:Nat}{x:Dc}{tys:Array Ee}
def Bm(P:Ge)(f:Nat):CQ N->Prop
 | .Ae q=>Dw P f q
 | .Ro l=> ∀q∈l,Dx P f q
 | .its l=> ∀q∈l,IX P f q
 | .pY l=> ∀q∈l,IW P f q
def SE(C:List (SV N.T))(f:Nat)(x:Dc)(xs:List Dc)(S:Nat->SV N.T)(Rr:Nat->Option (SR N.T))(nk:Nat)(k:Bq N.T->Nat->Option R):List (PQ N)->Option R
 | []=>C7
 |q::l=>match OW C f q x xs nk 9 S Rr k with
  |some z=>z
  |none=>SE C f x xs S Rr nk k l
theorem M'{f:Nat}{x:Dc}{xs:List Dc}{tys:Array Ee}(c:o.op= .call {callee:= .value x,args:=xs.toArray,argTypes:=tys})(b:∀j,nk<=j->Rr j=C7):∀ {l:List (PQ N)},(∀q∈l,Dx P f q)->SE C f x xs S Rr nk k l=Ac r->AW P C S Rr nk o k r
 | [],_,h=>by cases h
 |q::l,d,h=>by
  unfold SE at h;split at h;· rename_i z e;subst h;exact JO c (d q (by simp)) b e
  ·exact M' c b (λq g=>d q (by grind)) h
def ng(C:List (SV N.T))(q:FQ N)(a:List (SV N.T))(cs:List Nat)(nk:Nat)(k:Bq N.T->Nat->Option R):Option R:=match Lq N C q.ps a with
 |some x=>Ab (q.F x) λy=>k ⟨FG N q.rs y,cs,[]⟩ nk
 |none=>C7
theorem H5{C:List (SV N.T)}{η:Nat->BU}{H:Hp} :∀(ps:List Ty) (d:List (SV N.T)) (vs:List BU) (x:Bc N ps),Lq N C ps d=Ac x->vs.length=d.length->(∀(i:Nat) (s:SV N.T),d[i]?=Ac s->∃v,vs[i]?=Ac v/\s.is C η H v)->Lw H ps x vs
 | [],[],vs,x,h,a,_=>Abc a
 | [],_::_,_,x,h,_,_=>by cases h
 | [t],[],_,x,h,_,_=>by cases h
 | [t],[s],vs,x,h,a,b=>by obtain⟨v,e,f⟩:=b 0 s rfl;obtain⟨j,rfl⟩:∃j,vs=[j]:=Aew.1 a;cases e;exact⟨_,rfl,JE (Dm (t:=t) h f)⟩
 | [t],_::_::_,_,x,h,_,_=>by cases h
 |t::u::c,[],_,x,h,_,_=>by cases h
 |t::u::c,s::g,[],x,h,a,b=>by grind
 |t::u::c,s::g,v::vs,x,h,a,b=>by
  have h:(match Ta C t s,Lq N C (u::c) g with
   |some x,Ac y=>Ac (x,y)
   |_,_=>C7)=Ac x:=h;split at h;· rename_i z w f l;cases h;obtain⟨j,e,m⟩:=b 0 s rfl;cases e;exact⟨_,_,rfl,JE (Dm (t:=t) f m),H5 (u::c) g vs w l (by grind) λi s n=>b (i+1) s n⟩
  grind
def bF(C:List (SV N.T))(Φ:Nat->Option (CQ N))(S:Nat->SV N.T)(Rr:Nat->Option (SR N.T))(nk:Nat)(x:Dc)(xs:List Dc)(k:Bq N.T->Nat->Option R):Option R:=match x with
 | .func f=>match Φ f with
  |some (.Ae q)=>bG C (λj=>match Nat.beq j f with|true=>Ac q|false=>C7) S Rr nk f xs k
  |some (.Ro l)=>SE C f (.func f) xs S Rr nk k l
  |_=>C7
 |x=>match SF S Rr x xs with
  |some c=>match Φ c.f with
   |some (.Ae q)=>ng C q c.As c.cs nk k
   |some (.Ro l)=>SE C c.f x xs S Rr nk k l
   |_=>C7
  |none=>C7
theorem Zu{Φ:Nat->Option (CQ N)}(d:∀f q,Φ f=Ac q->Bm P f q)(D:∀j,nk<=j->Rr j=C7){xs:Array Dc}(Z:o.op= .call {callee:= .value x,args:=xs,argTypes:=tys})(h:bF C Φ S Rr nk x xs.toList k=Ac r):AW P C S Rr nk o k r:=by
 have i:o.op= .call {callee:= .value x,args:=xs.toList.toArray,argTypes:=tys} :=by omega
 unfold bF at h;split at h
 ·rename_i f;split at h
  ·rename_i q s;refine fj (Φ:=λj=>match Nat.beq j f with|true=>Ac q|false=>C7) (λg q' E=>?_) Z h;split at E;· rename_i U;cases E;have:=AI U;subst this;exact d _ _ s
   grind
  ·rename_i l n;exact M' i D (d _ _ n) h
  grind
 ·split at h
  ·rename_i c hc;split at h
   ·rename_i q s;have F:Dw P c.f q:=d _ _ s;unfold ng at h;split at h;· rename_i z hz;obtain⟨y,hy,h⟩:=Bp h;refine .y h (λη H J a w Y X hw V B hr _ K Q T=>?_) λ_ _=>Mn;obtain⟨vs,k1,k2,k3⟩:=Wd i hc F.Uc B (λL m G t=>hr L (.inl m) G t);have ht:=F.ok z y hy H (Y.map (·.2)++J) vs V (H5 _ _ _ _ hz k1 k2);refine k3 _ _ _ ht a w o K Q rfl rfl (λx u e=>by simpa using e) hw λv w' I O' p ⟨M,O⟩ A=>?_;subst M;exact T v w' I η Y p (λ_ _=>rfl) (λ_ _=>rfl) (λk G h=>by cases h) X (λk W=> .inl W) A (Mo O)
    trivial
   ·rename_i l n;exact M' i D (d _ _ n) h
   grind
  grind
def py:List (SV N.T)->SV N.T
 | []=> .vn
 |a::l=> .vc a (py l)
def ib(S:Nat->SV N.T):List Dc->Option (List Nat)
 | []=>Ac []
 |x::a=>match Ay S x,ib S a with
  | .loc c 0,Ac l=>Ac (c::l)
  |_,_=>C7
def pA(S:Nat->SV N.T)(nk f:Nat)(fs cs:List Dc)(k:Bq N.T->Nat->Option R):Option R:=match ib S cs with
 |some l=>k ⟨.AK f (py (fs.map (Ay S))) l,[],[]⟩ nk
 |none=>C7
theorem Vq{C:List (SV N.T)}{η:Nat->BU}{H:Hp}{a:Act} :∀ {fs:List Dc},(∀x∈fs,(Ay S x).is C η H (a.eval x))->(py (fs.map (Ay S))).is C η H (.tuple (fs.map a.eval).toArray)
 | [],_=>rfl
 |x::c,h=>⟨a.eval x,c.map a.eval,rfl,h x (by simp),Vq λy d=>h y (by grind)⟩
theorem V9{C:List (SV N.T)}{η:Nat->BU}{H:Hp}{a:Act} :∀ {cs:List Dc} {l:List Nat},ib S cs=Ac l->(∀x∈cs,(Ay S x).is C η H (a.eval x))->cs.map a.eval=l.map η
 | [],l,h,_=>by cases h;rfl
 |x::m,l,h,b=>by
  unfold ib at h;split at h;· rename_i c j f g;cases h;have:=b x (by simp);rw[f]at this;obtain⟨B,d,e⟩:=this;rw[Aap,Aap,V9 g (λy i=>b y (by grind)),d,e]
  grind
theorem oD{fs cs:Array Dc}(j:o.op= .makeFunc (.func f) fs cs)(h:pA S nk f fs.toList cs.toList k=Ac r):AW P C S Rr nk o k r:=by
 unfold pA at h;split at h;· rename_i l i;refine .y h (Abw λη H O a d _=>?_) λ_ _=>trivial;have e:∀x∈fs.toList,(Ay S x).is C η H (a.eval x):=λx c=>d x (by grind[Op.operands]);have g:∀x∈cs.toList,(Ay S x).is C η H (a.eval x):=λx c=>d x (by grind[Op.operands]);refine⟨.func (.func f) (fs.toList.map a.eval).toArray (cs.toList.map a.eval).toArray,?_,fs.toList.map a.eval,by rw[V9 i g],Vq e⟩;rw[j];exact Aq.makeFunc (fs:=fs.toList) (cs:=cs.toList) (HX _) (HX _)
 grind
end
end
class CC (N:C6) (P:Ge):Prop where
 eq:∀ {P'},N.prog=Ac P'->P'=P
 laid:laidOutB P=Br
abbrev eW:Ty:= .st (.pr (.int .i64) (.int .i64))
abbrev eX{T:Nat->Type}(m:eW.den T):Int×Int:=m
section
variable {N : C6}
section
variable{H:Hp}{κ:Type}{a:Ty}{k:κ}{x:a.den N.T}{v:BU}
theorem D_.len{a:Ty}{H:Hp}{κ:Type} :∀ {l:List (κ×a.den N.T)} {m:List (κ×BU)},D_ a H l m->m.length=l.length
 | [],[],_=>rfl
 |_::l,_::m,⟨_,_,h⟩=>congrArg (· +1) (D_.len h)
 | [],_::_,h=>h.elim
 |_::_,[],h=>h.elim
abbrev FB(a:Ty)(H:Hp)(x:a.den N.T)(v:BU):Prop:= ∃b,(N.c a).BI H x b/\Cu a b v
theorem D_.get{b:Ty}{H:Hp}{κ:Type} [DecidableEq κ](k:κ):∀ {l:List (κ×b.den N.T)} {m:List (κ×BU)},D_ b H l m->(AA l k=C7/\AA m k=C7)\/∃x v,AA l k=Ac x/\AA m k=Ac v/\FB b H x v
 | [],[],_=> .inl ⟨rfl,rfl⟩
 |(j,x)::l,(f,v)::m,⟨a,c,d⟩=>by
  subst a;unfold AA;by_cases e:j=k;· grind
  ·rw[if_neg e,if_neg e];exact D_.get k d
 | [],_::_,h=>h.elim
 |_::_,[],h=>h.elim
theorem D_.set{a:Ty}{H:Hp}{κ:Type} [DecidableEq κ]{k:κ}{x:a.den N.T}{v:BU}(d:FB a H x v):∀ {l:List (κ×a.den N.T)} {m:List (κ×BU)},D_ a H l m->D_ a H (Ik l k x) (Ik m k v)
 | [],[],_=>trivial
 |(j,y)::l,(g,u)::m,⟨b,f,c⟩=>by
  subst b;unfold Ik;by_cases e:j=k;· rw[if_pos e,if_pos e];trivial
  ·rw[if_neg e,if_neg e];exact⟨rfl,f,D_.set d c⟩
 | [],_::_,h=>h.elim
 |_::_,[],h=>h.elim
theorem D_.app{a:Ty}{H:Hp}{κ:Type}{k:κ}{x:a.den N.T}{v:BU}(b:FB a H x v):∀ {l:List (κ×a.den N.T)} {m:List (κ×BU)},D_ a H l m->D_ a H (l++[(k,x)]) (m++[(k,v)])
 | [],[],_=>⟨rfl,b,trivial⟩
 |_::l,_::m,⟨c,d,e⟩=>⟨c,d,D_.app b e⟩
 | [],_::_,h=>h.elim
 |_::_,[],h=>h.elim
theorem D_.put[DecidableEq κ](d:FB a H x v){l:List (κ×a.den N.T)}{m:List (κ×BU)}(h:D_ a H l m):D_ a H (Bs l k x) (Bs m k v):=by
 unfold Bs;rcases h.get k with⟨b,c⟩|⟨_,_,b,c,_⟩;· rw[b,c];exact h.app d
 ·rw[b,c];exact h.set d
def zcs(b:Ty)(z:BU):Option (List BU):=match b.agg,z with
 |true, .agg a=>Ac a.toList
 |true,_=>C7
 |false,z=>Ac [z]
def zdK(N:C6)(P:Ge)(d:Ee)(b:Ty):Option (b.den N.T):=match P.info? d with
 |some a=>match a.zero with
  |some z=>match zcs b z with
   |some c=>match parse N 16 b c with
    |some (x,[])=>Ac x
    |_=>C7
   |none=>C7
  |none=>C7
 |none=>C7
theorem nG{P:Ge}{f:Ee}{d:Ty}{x:d.den N.T}(h:zdK N P f d=Ac x):∃n b z,TI P f n b z/\∀H,FB d H x z:=by
 unfold zdK at h;split at h
 ·rename_i c i;split at h
  ·rename_i z l;split at h
   ·rename_i g hc;split at h
    ·rename_i y k;refine⟨_,_,z,⟨c,i,rfl,rfl,l⟩,λH=>⟨g,?_,?_⟩⟩;· obtain⟨pre,e,j⟩:=CD (H:=H) k;grind
     ·unfold zcs at hc;unfold Cu;split at hc;· rename_i a;cases hc;rw[a]
      all_goals grind
    grind
   grind
  grind
 grind
end
variable {R : Type} {P : Ge} {C : List (SV N.T)} {S : Nat -> SV N.T} {Rr : Nat -> Option (SR N.T)} {nk : Nat} {o : J5} {k : Bq N.T -> Nat -> Option R} {r : R}
section
variable{t:Ee}{x:Dc}{H:Hp}{y:Dc}
def pz(P:Ge)(nk:Nat)(t:Ee)(k:Bq N.T->Nat->Option R):Option R:=match N.prog with
 |none=>C7
 |some _=>match P.underlying t with
  |some (.map g b)=>match Lz N P b,P.underlying g with
   |some a,Ac .string=>k ⟨.mp nk,[],[(nk, .map g .str a [])]⟩ (nk+1)
   |some a,Ac (.int .i64)=>k ⟨.mp nk,[],[(nk, .map g (.int .i64) a [])]⟩ (nk+1)
   |some a,Ac (.struct _)=>match Oz P g with
    |true=>k ⟨.mp nk,[],[(nk, .map g eW a [])]⟩ (nk+1)
    |false=>C7
   |_,_=>C7
  |_=>C7
theorem oC[CC N P](f:o.op= .makeMap t C7)(e:∀j,nk<=j->Rr j=C7)(h:pz P nk t k=Ac r):AW P C S Rr nk o k r:=by
 unfold pz at h;split at h;· grind
 ·rename_i d c;obtain rfl:=CC.eq (N:=N) (P:=P) c;split at h
  ·split at h;· rename_i q n b;refine .new h (Afv (e nk (Aad _)) λη H O a p _=>?_) λ_ _=>trivial;rw[f];refine(Aia (mkS b)).mono ?_;rintro v i l ⟨B,rfl,rfl,rfl⟩;exact⟨rfl,_, .map (Ac B),rfl,⟨B,AB _ _ _,d,mkS b,[],c,λ_=>rfl,λ_ h=>h,rfl,trivial⟩,(AB _ _ _).symm,rfl⟩
   ·rename_i q n b;refine .new h (Afv (e nk (Aad _)) λη H O a p _=>?_) λ_ _=>trivial;rw[f];refine(Aia (mkI b)).mono ?_;rintro v i l ⟨B,rfl,rfl,rfl⟩;exact⟨rfl,_, .map (Ac B),rfl,⟨B,AB _ _ _,d,mkI b,[],c,λ_=>rfl,λ_ h=>h,rfl,trivial⟩,(AB _ _ _).symm,rfl⟩
   ·split at h;· rename_i m;refine .new h (Afv (e nk (Aad _)) λη H O a p _=>?_) λ_ _=>trivial;rw[f];refine(Aia (mkP (CC.laid N) m)).mono ?_;rintro v i l ⟨B,rfl,rfl,rfl⟩;exact⟨rfl,_, .map (Ac B),rfl,⟨B,AB _ _ _,d,mkP (CC.laid N) m,[],c,λ_=>rfl,λ_ h=>h,rfl,trivial⟩,(AB _ _ _).symm,rfl⟩
    grind
   grind
  grind
theorem mw{η:Nat->BU}{m:(eW.den N.T)}{v:BU}(h:(SV.d eW m:SV N.T).is C η H v):v= .agg #[.int .i64 m.1, .int .i64 m.2]:=by obtain⟨g,i,c⟩:=h;have c:v= .agg g.toArray:=c;obtain⟨d,f,e,a,b⟩:=i;have a:d=[.int .i64 m.1]:=a;have b:f=[.int .i64 m.2]:=b;grind
def pG(
     P:Ge) (C:List (SV N.T)) (S:Nat->SV N.T) (Rr:Nat->Option (SR N.T)) (nk:Nat) (t:Ee) (x y:Dc) (ok:Bool) (k:Bq N.T->Nat->Option R):Option R:=match Ay S x with
 | .mp b=>match Rr b,P.underlying t with
  |some (
      .map g i e l),Ac (.map h f)=>match Nat.beq g h,zdK N P f e with
   |true,Ac z=>match i,l with
    | .str,l=>match Um (Ay S y)with
     |some m=>Af (m.length<=Ag) (match ok with
      |true=>k ⟨.t2 (.d e ((AA (κ:=Au) l m).getD z)) (.d .bool (AA (κ:=Au) l m).isSome),[b],[]⟩ nk
      |false=>k ⟨.d e ((AA (κ:=Au) l m).getD z),[b],[]⟩ nk)
     |none=>C7
    | .int .i64,l=>match intOf (Ay S y)with
     |some (.i64,m)=>Aa .i64 m (match ok with
      |true=>k ⟨.t2 (.d e ((AA (κ:=Int) l m).getD z)) (.d .bool (AA (κ:=Int) l m).isSome),[b],[]⟩ nk
      |false=>k ⟨.d e ((AA (κ:=Int) l m).getD z),[b],[]⟩ nk)
     |_=>C7
    | .st (.pr (.int .i64) (.int .i64)),l=>match Ta C eW (Ay S y)with
     |some m=>Af (Dn (eX m).1/\Dn (eX m).2) (match ok with
      |true=>k ⟨.t2 (.d e ((AA (κ:=Int×Int) l (eX m)).getD z)) (.d .bool (AA (κ:=Int×Int) l (eX m)).isSome),[b],[]⟩ nk
      |false=>k ⟨.d e ((AA (κ:=Int×Int) l (eX m)).getD z),[b],[]⟩ nk)
     |none=>C7
    |_,_=>C7
   |_,_=>C7
  |_,_=>C7
 |_=>C7
theorem Kp{c:Ty}{κ:Type} [DecidableEq κ]{l:List (κ×c.den N.T)}{f:List (κ×BU)}(h:D_ c H l f){z:c.den N.T}{g:BU}(j:FB c H z g)(m:κ):
  FB c H ((AA l m).getD z) ((AA f m).getD g)/\(AA f m).isSome=(AA l m).isSome:=by
 rcases h.get m with⟨d,e⟩|⟨_,_,d,e,i⟩;all_goals grind
theorem oI[CC N P]{ok:Bool}(E:o.op= .lookup t x y ok)(h:pG P C S Rr nk t x y ok k=Ac r):AW P C S Rr nk o k r:=by
 have Z:∀ {η:Nat->BU} {H:Hp} {a:Act},(∀x∈o.op.operands,(Ay S x).is C η H (a.eval x))->(Ay S x).is C η H (a.eval x):=λc=>c x (by grind[Op.operands]);have G:∀ {η:Nat->BU} {H:Hp} {a:Act},(∀x∈o.op.operands,(Ay S x).is C η H (a.eval x))->(Ay S y).is C η H (a.eval y):=λc=>c y (by grind[Op.operands]);unfold pG at h;split at h
 ·rename_i b hs;have F:∀ {η:Nat->BU} {H:Hp} {a:Act},(∀x∈o.op.operands,(Ay S x).is C η H (a.eval x))->a.eval x=η b:=λ{η H a} c=>by
   have:(SV.mp b:SV N.T).is C η H (a.eval x):=by simp_all
   exact this.1
  split at h
  ·rename_i g kt vt l g' et W J;split at h
   ·rename_i z Y hz;have:=AI Y;subst this;obtain⟨n,by_,zv,q,I⟩:=nG hz;split at h
    ·rename_i l;split at h
     ·rename_i m V;obtain⟨hc,h⟩:=AQ h;have key:∀(η:Nat->BU) (H:Hp) (O:List Av) (a:Act),(∀x∈o.op.operands,(Ay S x).is C η H (a.eval x))->(∀k∈[b],∀s,Rr k=Ac s->s= .gone\/∃(x:Av) (i:Nat),O[i]?=Ac x/\s.is C η H k x)->
        ∃u e,FB vt H ((AA (κ:=Au) l m).getD z) u/\e=(AA (κ:=Au) l m).isSome/\Aq P (.lookup t x y Br) o.type (EV a) H O (.tuple #[u, .bool e])/\Aq P (.lookup t x y Ap) o.type (EV a) H O u:=λη H O a c j=>by
       rcases j b (by simp) _ W with e|⟨X,i,d,B,Q,P',K,ms,f,T,D,rfl,U⟩;· grind
       obtain rfl:=CC.eq (N:=N) (P:=P) f;obtain⟨L,M⟩:=Kp U (I H) m;have v:EV a x=Ac (.map (Ac B)):=congrArg Ac ((F c).trans Q);have w:EV a y=Ac (K.val m):=congrArg Ac ((KH V (G c)).trans (T m).symm);exact⟨_,_,L,M,Aig J q v w (D m hc) d,Aif J q v w (D m hc) d⟩
      split at h;· refine .y h (Abw λη H O a c j=>?_) λ_ _=>trivial;obtain⟨u,e,d,rfl,f,_⟩:=key η H O a c j;exact⟨_,by rw[E];exact f,_,_,rfl,d,CL⟩
      ·refine .y h (Abw λη H O a c j=>?_) λ_ _=>trivial;obtain⟨u,e,d,rfl,_,f⟩:=key η H O a c j;exact⟨_,by rw[E];exact f,d⟩
     grind
    ·rename_i l;split at h
     ·rename_i m V;obtain⟨hc,_,h⟩:=BR h;have key:∀(η:Nat->BU) (H:Hp) (O:List Av) (a:Act),(∀x∈o.op.operands,(Ay S x).is C η H (a.eval x))->(∀k∈[b],∀s,Rr k=Ac s->s= .gone\/∃(x:Av) (i:Nat),O[i]?=Ac x/\s.is C η H k x)->
        ∃u e,FB vt H ((AA (κ:=Int) l m).getD z) u/\e=(AA (κ:=Int) l m).isSome/\Aq P (.lookup t x y Br) o.type (EV a) H O (.tuple #[u, .bool e])/\Aq P (.lookup t x y Ap) o.type (EV a) H O u:=λη H O a c j=>by
       rcases j b (by simp) _ W with e|⟨X,i,d,B,Q,P',K,ms,f,T,D,rfl,U⟩;· cases e
       obtain rfl:=CC.eq (N:=N) (P:=P) f;obtain⟨L,M⟩:=Kp U (I H) m;have v:EV a x=Ac (.map (Ac B)):=congrArg Ac ((F c).trans Q);have w:EV a y=Ac (K.val m):=congrArg Ac ((AY V (G c)).trans (T m).symm);exact⟨_,_,L,M,Aig J q v w (D m hc) d,Aif J q v w (D m hc) d⟩
      split at h;· refine .y h (Abw λη H O a c j=>?_) λ_ _=>trivial;obtain⟨u,e,d,rfl,f,_⟩:=key η H O a c j;exact⟨_,by rw[E];exact f,_,_,rfl,d,CL⟩
      ·refine .y h (Abw λη H O a c j=>?_) λ_ _=>trivial;obtain⟨u,e,d,rfl,_,f⟩:=key η H O a c j;exact⟨_,by rw[E];exact f,d⟩
     ·cases h
    ·rename_i l;split at h
     ·rename_i m V;obtain⟨hc,h⟩:=AQ h;have key:∀(η:Nat->BU) (H:Hp) (O:List Av) (a:Act),(∀x∈o.op.operands,(Ay S x).is C η H (a.eval x))->(∀k∈[b],∀s,Rr k=Ac s->s= .gone\/∃(x:Av) (i:Nat),O[i]?=Ac x/\s.is C η H k x)->
        ∃u e,FB vt H ((AA (κ:=Int×Int) l m).getD z) u/\e=(AA (κ:=Int×Int) l m).isSome/\Aq P (.lookup t x y Br) o.type (EV a) H O (.tuple #[u, .bool e])/\Aq P (.lookup t x y Ap) o.type (EV a) H O u:=λη H O a c j=>by
       rcases j b (by simp) _ W with e|⟨X,i,d,B,Q,P',K,ms,f,T,D,rfl,U⟩;· cases e
       obtain rfl:=CC.eq (N:=N) (P:=P) f;obtain⟨L,M⟩:=Kp U (I H) m;have v:EV a x=Ac (.map (Ac B)):=congrArg Ac ((F c).trans Q);have w:EV a y=Ac (K.val m):=congrArg Ac ((mw (Dm (t:=eW) V (G c))).trans (T m).symm);exact⟨_,_,L,M,Aig J q v w (D m hc) d,Aif J q v w (D m hc) d⟩
      split at h;· refine .y h (Abw λη H O a c j=>?_) λ_ _=>trivial;obtain⟨u,e,d,rfl,f,_⟩:=key η H O a c j;exact⟨_,by rw[E];exact f,_,_,rfl,d,CL⟩
      ·refine .y h (Abw λη H O a c j=>?_) λ_ _=>trivial;obtain⟨u,e,d,rfl,_,f⟩:=key η H O a c j;exact⟨_,by rw[E];exact f,d⟩
     ·cases h
    grind
   grind
  grind
 grind
def eU(
     P:Ge) (C:List (SV N.T)) (S:Nat->SV N.T) (Rr:Nat->Option (SR N.T)) (nk:Nat) (t:Ee) (x y u:Dc) (k:Bq N.T->Nat->Option R):Option R:=match Ay S x with
 | .mp b=>match Rr b,P.underlying t with
  |some (.map g d a l),Ac (.map c _)=>match Nat.beq g c,Ta C a (Ay S u)with
   |true,Ac z=>match d,l with
    | .str,l=>match Um (Ay S y)with
     |some m=>Af (m.length<=Ag/\l.length<=Ag) (k ⟨.no,[],[(b, .map g .str a (Bs (κ:=Au) l m z))]⟩ nk)
     |none=>C7
    | .int .i64,l=>match intOf (Ay S y)with
     |some (.i64,m)=>Aa .i64 m (Af (l.length<=Ag) (k ⟨.no,[],[(b, .map g (.int .i64) a (Bs (κ:=Int) l m z))]⟩ nk))
     |_=>C7
    | .st (.pr (.int .i64) (.int .i64)),l=>match Ta C eW (Ay S y)with
     |some m=>Af ((Dn (eX m).1/\Dn (eX m).2)/\l.length<=Ag) (k ⟨.no,[],[(b, .map g eW a (Bs (κ:=Int×Int) l (eX m) z))]⟩ nk)
     |none=>C7
    |_,_=>C7
   |_,_=>C7
  |_,_=>C7
 |_=>C7
theorem Zp[CC N P]{u:Dc}(c:o.op= .mapUpdate t x y u\/o.op= .insert t x y u)(h:eU P C S Rr nk t x y u k=Ac r):AW P C S Rr nk o k r:=by
 have Z:∀ {η:Nat->BU} {H:Hp} {a:Act},(∀x∈o.op.operands,(Ay S x).is C η H (a.eval x))->(Ay S x).is C η H (a.eval x):=λd=>d x (by grind[Op.operands]);have I:∀ {η:Nat->BU} {H:Hp} {a:Act},(∀x∈o.op.operands,(Ay S x).is C η H (a.eval x))->(Ay S y).is C η H (a.eval y):=λd=>d y (by grind[Op.operands]);have G:∀ {η:Nat->BU} {H:Hp} {a:Act},(∀x∈o.op.operands,(Ay S x).is C η H (a.eval x))->(Ay S u).is C η H (a.eval u):=λd=>d u (by grind[Op.operands]);unfold eU at h;split at h
 ·rename_i b hs;have F:∀ {η:Nat->BU} {H:Hp} {a:Act},(∀x∈o.op.operands,(Ay S x).is C η H (a.eval x))->a.eval x=η b:=λ{η H a} d=>by
   have:(SV.mp b:SV N.T).is C η H (a.eval x):=by simp_all
   exact this.1
  split at h
  ·rename_i g kt M l g' et J L;split at h
   ·rename_i z Y hz;have:=AI Y;subst this;split at h
    ·split at h
     ·rename_i m V;obtain⟨⟨hc,e⟩,h⟩:=AQ h;refine .set h J (Agr J (by simp) λη H O a X i d A f _=>?_) λ_ _=>trivial;obtain⟨B,f,U,K,ms,D,E,p,rfl,q⟩:=f;obtain rfl:=CC.eq (N:=N) (P:=P) D;have s:EV a x=Ac (.map (Ac B)):=congrArg Ac ((F d).trans f);have w:EV a y=Ac (K.val m):=congrArg Ac ((KH V (I d)).trans (E m).symm);have W:FB M H z (a.eval u):=Dm (t:=M) hz (G d);refine⟨_,⟨B,f,U,K,_,D,E,p,rfl,q.put (k:=m) W⟩,?_⟩;rcases c with c|c<;>rw[c];· exact(Aib L s w rfl (p m hc) (by rw[q.len];exact e) A).mono λv Q T ⟨j,n⟩=>⟨j,n,trivial⟩
      ·exact(Ahz L s w rf (p m hc) (by rw[q.len];exact e) A).mono λv Q T ⟨j,n⟩=>⟨j,n,trivial⟩
     grind
    ·split at h
     ·rename_i m V;obtain⟨hc,_,h⟩:=BR h;obtain⟨e,h⟩:=AQ h;refine .set h J (Agr J (by simp) λη H O a X i d A f _=>?_) λ_ _=>trivial;obtain⟨B,f,U,K,ms,D,E,p,rfl,q⟩:=f;obtain rfl:=CC.eq (N:=N) (P:=P) D;have s:EV a x=Ac (.map (Ac B)):=congrArg Ac ((F d).trans f);have w:EV a y=Ac (K.val m):=congrArg Ac ((AY V (I d)).trans (E m).symm);have W:FB M H z (a.eval u):=Dm (t:=M) hz (G d);refine⟨_,⟨B,f,U,K,_,D,E,p,rfl,q.put (k:=m) W⟩,?_⟩;rcases c with c|c<;>rw[c];· exact(Aib L s w rfl (p m hc) (by rw[q.len];exact e) A).mono λv Q T ⟨j,n⟩=>⟨j,n,trivial⟩
      ·exact(Ahz L s w rf (p m hc) (by rw[q.len];exact e) A).mono λv Q T ⟨j,n⟩=>⟨j,n,trivial⟩
     ·cases h
    ·split at h
     ·rename_i m V;obtain⟨⟨hc,e⟩,h⟩:=AQ h;refine .set h J (Agr J (by simp) λη H O a X i d A f _=>?_) λ_ _=>trivial;obtain⟨B,f,U,K,ms,D,E,p,rfl,q⟩:=f;obtain rfl:=CC.eq (N:=N) (P:=P) D;have s:EV a x=Ac (.map (Ac B)):=congrArg Ac ((F d).trans f);have w:EV a y=Ac (K.val m):=congrArg Ac ((mw (Dm (t:=eW) V (I d))).trans (E m).symm);have W:FB M H z (a.eval u):=Dm (t:=M) hz (G d);refine⟨_,⟨B,f,U,K,_,D,E,p,rfl,q.put (κ:=Int×Int) (k:=eX m) W⟩,?_⟩;rcases c with c|c<;>rw[c];· exact(Aib L s w rfl (p m hc) (by rw[q.len];exact e) A).mono λv Q T ⟨j,n⟩=>⟨j,n,trivial⟩
      ·exact(Ahz L s w rf (p m hc) (by rw[q.len];exact e) A).mono λv Q T ⟨j,n⟩=>⟨j,n,trivial⟩
     ·cases h
    grind
   grind
  grind
 grind
def pE(P:Ge)(S:Nat->SV N.T)(Rr:Nat->Option (SR N.T))(nk:Nat)(x:Dc)(t:Ee)(k:Bq N.T->Nat->Option R):Option R:=match Ay S x with
 | .mp b=>match Rr b,P.underlying t with
  |some (.map g c _ l),Ac (.map a _)=>match Nat.beq g a,c,l with
   |true, .str,l=>k ⟨.d (.int .i64) ((l.length:Nat):Int),[b],[]⟩ nk
   |true, .int .i64,l=>k ⟨.d (.int .i64) ((l.length:Nat):Int),[b],[]⟩ nk
   |_,_,_=>C7
  |_,_=>C7
 |_=>C7
theorem oG[CC N P](s:o.op= .call {callee:= .builtin .len,args:= #[x],argTypes:= #[t]})(h:pE P S Rr nk x t k=Ac r):AW P C S Rr nk o k r:=by
 have u:∀ {η:Nat->BU} {H:Hp} {a:Act},(∀x∈o.op.operands,(Ay S x).is C η H (a.eval x))->(Ay S x).is C η H (a.eval x):=λd=>d x (by grind[Op.operands,Call.operands]);unfold pE at h;split at h
 ·rename_i b F;have j:∀ {η:Nat->BU} {H:Hp} {a:Act},(∀x∈o.op.operands,(Ay S x).is C η H (a.eval x))->a.eval x=η b:=λ{η H a} d=>by
   have:(SV.mp b:SV N.T).is C η H (a.eval x):=by grind
   exact this.1
  split at h
  ·rename_i g L M l J I w z;split at h
   ·rename_i l c;have:=AI c;subst this;refine .y h (Abw λη H O a d v=>?_) λ_ _=>trivial;rcases v b (by simp) _ w with e|⟨X,i,m,B,n,A,K,G,p,D,E,rfl,q⟩;· grind
    obtain rfl:=CC.eq (N:=N) (P:=P) p;refine⟨_,by rw[s];exact Ajt z (congrArg Ac ((j d).trans n)) m,?_⟩;rw[q.len];exact DN trivial
   ·rename_i l c;have:=AI c;subst this;refine .y h (Abw λη H O a d v=>?_) λ_ _=>trivial;rcases v b (by simp) _ w with e|⟨X,i,m,B,n,A,K,G,p,D,E,rfl,q⟩;· cases e
    obtain rfl:=CC.eq (N:=N) (P:=P) p;refine⟨_,by rw[s];exact Ajt z (congrArg Ac ((j d).trans n)) m,?_⟩;rw[q.len];exact DN trivial
   grind
  grind
 grind
end
end
section
variable {N : C6} {R : Type} {P : Ge} {C : List (SV N.T)} {S : Nat -> SV N.T} {Rr : Nat -> Option (SR N.T)} {nk : Nat} {o : J5} {k : Bq N.T -> Nat -> Option R} {r : R}
section
variable{t:Ee}{H:Hp}{len:Nat}{ps:List (Nat×Dc)}{x:Dc}
theorem Akh{T:Ee}{E:Dc->Option BU}{O:List GK.Av}{e:Ee}{size bytes:Nat}{z:BU}{cs:Array BU}{vs:List (Nat×BU)}(ht:P.underlying t=Ac (.slice e))(l:TI P e size bytes z)
  (j:len*size<=16777216) (h0:0<len*size) (h:Yo E ps=Ac vs) (u:Instr.fill (λi=>Ac (i*size,size)) ((Array.range (len*size)).map (z.cells[· %z.cells.size]!)) vs=Ac cs):
  BJ P (.buildSlice t len ps.toArray) T E H O (λv m n=>m=H/\∃B,v= .slice (Ac ⟨B,0,C7⟩) len len/\n= .Ah B (.cells cs e (0,0))::O):= .Am λa w o y _ s A=>by
 have p:(ps.toArray.map λ(i,x)=>(i,a.eval x)).toList=vs:=by simpa using Ht s h
 have c:¬len*size>2^24:=by omega
 have g:¬len*size=0:=by omega
 refine⟨.slice (Ac ⟨w.heap.size,0,C7⟩) len len,w.alloc (.cells cs e),H,_,?_,Hp.le.refl H,⟨rf,_,rf,rf⟩,A.push (r:= .Ah w.heap.size (.cells cs e (0,0))) (GD.grownBy_alloc w _ C7) (heap_alloc_new w _) (λb q=>by grind[Av.has])⟩;simp only[ID,y,Instr.buildSlice,Sem.run_bind,AU ht,Result.andThen_ok,l.sizeOf,if_neg c,if_neg g,l.zeroValue,Sem.run_pure,p,u];rfl
def bC(S:Nat->SV N.T):Nat->List (Nat×Dc)->Option (SV N.T)
 |_,[]=>Ac .nl
 |i,(j,x)::b=>match Nat.beq i j,Ay S x,bC S (i+1) b with
  |true, .AK f l a,Ac r=>Ac (.lf 1 (.AK f l a) r)
  |_,_,_=>C7
theorem V7{η:Nat->BU}{H:Hp}{a:Act} :∀ {ps:List (Nat×Dc)} {i:Nat} {l:SV N.T} {cs:List BU},bC S i ps=Ac l->(∀p∈ps,(Ay S p.2).is C η H (a.eval p.2))->cs.length=i+ps.length->
  ∃xs,Instr.fill (λi=>Ac (i*1,1)) cs.toArray (ps.map λp=>(p.1,a.eval p.2))=Ac (cs.take i++xs).toArray/\l.is C η H (.agg xs.toArray)/\xs.length=ps.length
 | [],i,l,cs,h,_,hc=>by cases h;refine⟨[],?_,rfl,rfl⟩;grind[Instr.fill,List.take_of_length_le,Nat.le_of_eq]
 |(j,x)::ps,i,l,cs,h,t,hc=>by
  unfold bC at h;split at h
  ·rename_i f G F r A E B;cases h;have e:=AI A;subst e;have q:=t (i,x) (by simp);rw[E]at q;have s:(a.eval x).oneCell'=Br:=by obtain⟨I,e,_⟩:=q;rw[e];rfl
   have b:=A' s;simp only[Aav]at hc;have n:(a.eval x).cells.size=1:=by grind[Array.length_toList]
   have D:(CG cs (i*1) (a.eval x).cells.toList).length=i+1+ps.length:=by grind[CG]
   obtain⟨xs,v,w,z⟩:=V7 B (λp m=>t p (by simp[m])) D;refine⟨a.eval x::xs,?_,⟨[a.eval x],xs,a.eval x,rfl,rfl,q,b,(λy u=>by simp at u;subst u;exact s),w⟩,by simp[z]⟩;rw[Aap,Kv (off:=i*1) (size:=1) rfl n (by simp;omega)];rw[v];unfold CG;rw[b,Aek,Ack (by simp;omega),Abm (by simp;omega)];simp
  grind
def bcK(P:Ge)(S:Nat->SV N.T)(nk:Nat)(t:Ee)(len:Nat)(ps:List (Nat×Dc))(k:Bq N.T->Nat->Option R):Option R:=match P.underlying t with
 |some (.slice e)=>match S8 P e 1,Nat.beq ps.length len&&(Nat.blt 0 len&&Nat.ble len 1000),bC S 0 ps with
  |true,Br,Ac l=>match BZ l.AJ nk with
   |false=>k ⟨.px [nk] (.hc len),[],[(nk, .Ah e l)]⟩ (nk+1)
   |true=>C7
  |_,_,_=>C7
 |_=>C7
theorem u_(y:o.op= .buildSlice t len ps.toArray)(F:∀k∈CP C,k<nk)(G:∀j,nk<=j->Rr j=C7)(h:bcK P S nk t len ps k=Ac r):AW P C S Rr nk o k r:=by
 have n:∀ {η:Nat->BU} {H:Hp} {a:Act},(∀x∈o.op.operands,(Ay S x).is C η H (a.eval x))->∀p∈ps,(Ay S p.2).is C η H (a.eval p.2):=λs p K=>s p.2 (by grind[Op.operands]);unfold bcK at h;split at h;case h_2=>grind
 rename_i e L;split at h;case h_2=>grind
 rename_i l E w I;split at h;case h_2=>cases h
 rename_i J;simp only[AS]at w;obtain⟨i,m,c⟩:=w;have A:=AI i;subst A;have c:=Aba c;obtain⟨bytes,z,q⟩:=Eb E;refine .new h (Afv (G nk (Aad _)) λη H O a s U=>?_) λ_ _=>trivial;have d:(((Array.range (ps.length*1)).map (z.cells[· %z.cells.size]!)).toList:List BU).length=0+ps.length:=by simp
 obtain⟨V,u,D,T⟩:=V7 (C:=C) (η:=η) (H:=H) (a:=a) I (n s) d;rw[y];refine(Akh L q (by omega) (by simpa using m) (JA ps) u).mono ?_;rintro v M Q ⟨rfl,B,rfl,rfl⟩;exact⟨rfl,_,ptr B 0,rfl,⟨B,_,AB _ _ _,rfl,aR F J D⟩,(show ps.length<=9223372036854775807 by omega),B,by simp[AB],rfl⟩
def qc(P:Ge)(S:Nat->SV N.T)(nk:Nat)(t:Ee)(x y:Dc)(k:Bq N.T->Nat->Option R):Option R:=match P.underlying t,intOf (Ay S y),Ay S x with
 |some (.slice e),Ac (_,j), .px [b] (.hc n)=>match S8 P e 1 with
  |true=>Af (0<=j/\j<(n:Int)) (k ⟨.loc b j.toNat,[],[]⟩ nk)
  |false=>C7
 |_,_,_=>C7
theorem oQ{y:Dc}(g:o.op= .indexAddr t x y)(h:qc P S nk t x y k=Ac r):AW P C S Rr nk o k r:=by
 have i:∀ {η:Nat->BU} {H:Hp} {a:Act},(∀x∈o.op.operands,(Ay S x).is C η H (a.eval x))->(Ay S x).is C η H (a.eval x):=λc=>c x (by grind[Op.operands]);have l:∀ {η:Nat->BU} {H:Hp} {a:Act},(∀x∈o.op.operands,(Ay S x).is C η H (a.eval x))->(Ay S y).is C η H (a.eval y):=λc=>c y (by grind[Op.operands]);unfold qc at h;split at h;case h_2=>cases h
 rename_i e D j b n A w z;split at h;case h_2=>cases h
 rename_i v;obtain⟨bytes,E,m⟩:=Eb v;obtain⟨⟨q,s⟩,h⟩:=AQ h;refine .y h (Abw λη H O a c _=>?_) λ_ _=>trivial;obtain⟨_,B,d,p⟩:(SV.px [b] (.hc n):SV N.T).is C η H (a.eval x):=by rw[<-z];exact i c
 have d:η b=ptr B 0:=by simpa using d
 have u:=AY w (l c);refine⟨AO (a.eval x) (j.toNat*1),?_,B,d,?_⟩;· rw[g];exact Ahp A m rfl (.inr ⟨_,_,p,Aad _⟩) (congrArg Ac u) ⟨q,s⟩
 ·rw[p,Aek];show AO (.slice (Ac ⟨B,0,C7⟩) n n) j.toNat= .pointer (Ac ⟨B,j.toNat,C7⟩);simp only[AO,Addr.add,Abi];split;· rename_i h;rw[h]
  ·rfl
def pF(P:Ge)(S:Nat->SV N.T)(nk:Nat)(x:Dc)(t:Ee)(k:Bq N.T->Nat->Option R):Option R:=match P.underlying t,Ay S x with
 |some (.slice _), .px [_] (.hc n)=>k ⟨.na n,[],[]⟩ nk
 |_,_=>C7
theorem oH(g:o.op= .call {callee:= .builtin .len,args:= #[x],argTypes:= #[t]})(h:pF P S nk x t k=Ac r):AW P C S Rr nk o k r:=by
 have d:∀ {η:Nat->BU} {H:Hp} {a:Act},(∀x∈o.op.operands,(Ay S x).is C η H (a.eval x))->(Ay S x).is C η H (a.eval x):=λf=>f x (by grind[Op.operands,Call.operands]);unfold pF at h;split at h;case h_2=>grind
 rename_i e b n p m;refine .y h (Abw λη H O a f _=>?_) λ_ _=>trivial;obtain⟨j,B,q,i⟩:(SV.px [b] (.hc n):SV N.T).is C η H (a.eval x):=by grind
 exact⟨_,by rw[g];exact Aq.len p (congrArg Ac i) (.inr ⟨_,_,rf,Aad _⟩),rf,j⟩
end
end
section
variable {P : Ge}
section
variable{e:Ee}{n bytes:Nat}{z:BU}
theorem EX{d:Nat}{e:Ee}(c:P.underlying e=Ac .bool)(h1:P.cellsOf e=1)(w:GD)(xs ys:List Bool):∀(is:List Nat),(∀i∈is,i<xs.length/\i<ys.length)->
  (Op.eqItems (d+1) e (P.cellsOf e) (xs.map BU.bool).toArray (ys.map BU.bool).toArray is).run P w= .ok (is.all λi=>xs[i]?==ys[i]?) w
 | [],_=>by rfl
 |i::is,h=>by
  have b:=h i (by simp);have k:=EX (d:=d) c h1 w xs ys is (λj g=>h j (by grind));have l:(part e (xs.map BU.bool).toArray (i*P.cellsOf e)).run P w= .ok (.bool xs[i]) w:=by simp[part,Cc c,DC,h1,b.1]
  have m:(part e (ys.map BU.bool).toArray (i*P.cellsOf e)).run P w= .ok (.bool ys[i]) w:=by simp[part,Cc c,DC,h1,b.2]
  have n:(Op.equalIn (d+1) e (.bool xs[i]) (.bool ys[i])).run P w= .ok (xs[i]==ys[i]) w:=by simp[Op.equalIn,AU c]
  simp only[Op.eqItems,Sem.run_bind,l,m,n,Result.andThen_ok];by_cases f:xs[i]=ys[i];all_goals simp_all
theorem Tw{t:Ee}(ht:P.underlying t=Ac (.array n e))(f:P.underlying e=Ac .bool)(l:TI P e 1 bytes z)(w:GD)(xs ys:List Bool)(m:xs.length=n)(o:ys.length=n):
  (Op.equal t (.agg (xs.map BU.bool).toArray) (.agg (ys.map BU.bool).toArray)).run P w= .ok (decide (xs=ys)) w:=by
 obtain⟨i,b,k,_⟩:=l.ex;have c:P.cellsOf e=1:=by grind[Ge.cellsOf]
 have key:∀d,(Op.equalIn (d+1+1) t (.agg (xs.map BU.bool).toArray) (.agg (ys.map BU.bool).toArray)).run P w= .ok (decide (xs=ys)) w:=λd=>by
  rw[run_equalIn_array w (d+1) _ _ ht b,EX f c w xs ys _ (λi b=>by grind)];congr 1;rw[Aeh];simp only[OF,Abb,beq_iff_eq,decide_eq_true_iff];constructor
  ·intro h;apply Agp;intro j;by_cases g:j<n;· exact h j g
   ·rw[Acj (by omega),Acj (by omega)]
  grind
 grind[Op.equal,Op.maxDepth]
theorem Akz{T Tx Ty:Ee}{E:Dc->Option BU}{H:Hp}{O:List Av}{x y:Dc}{ne:Bool}{xs ys:List Bool}(i:P.eqGuardType P.depth Tx=Ap)(ht:P.underlying Tx=Ac (.array n e))(m:P.underlying e=Ac .bool)(p:TI P e 1 bytes z)(k:E x=Ac (.agg (xs.map BU.bool).toArray))(l:E y=Ac (.agg (ys.map BU.bool).toArray))(h1:xs.length=n)(h2:ys.length=n):
  Aq P (.binOp (match ne with|true=> .neq|false=> .eql) Tx x y Ty) T E H O (.bool (match ne with|true=> !decide (xs=ys)|false=>decide (xs=ys))):= .Am λa w o j _ c _=>by
 have h:=Tw ht m p w xs ys h1 h2;cases ne with
 |false=>
  have f:=run_eqGuard_agg w .eql Tx x y (xs.map BU.bool).toArray (ys.map BU.bool).toArray i;simp_all[binOp,bool,decide,pure,Op.equal,ID]
 |true=>
  have f:=run_eqGuard_agg w .neq Tx x y (xs.map BU.bool).toArray (ys.map BU.bool).toArray i;simp_all[binOp,bool,decide,pure,Op.equal,ID]
end
end
section
variable {N : C6} {R : Type} {P : Ge} {C : List (SV N.T)} {S : Nat -> SV N.T} {Rr : Nat -> Option (SR N.T)} {nk : Nat} {o : J5} {k : Bq N.T -> Nat -> Option R} {r : R}
section
variable{t:Ee}{x y:Dc}
def KF:Ty->Option Nat
 | .bool=>Ac 1
 | .st t=>KF t
 | .pr a b=>match KF a,KF b with
  |some x,Ac y=>Ac (x+y)
  |_,_=>C7
 |_=>C7
def Fs:(t:Ty)->t.den N.T->List Bool
 | .bool,x=>[x]
 | .st t,x=>Fs t x
 | .pr a b,x=>Fs a x.1++Fs b x.2
 |_,_=>[]
theorem EK{H:Hp} :∀ {t:Ty} {x:t.den N.T} {n:Nat} {cs:List BU},KF t=Ac n->(N.c t).BI H x cs->cs=(Fs t x).map BU.bool/\(Fs t x).length=n
 | .bool,x,_,cs,h,d=>by cases h;trivial
 | .st t,x,_,cs,h,d=>EK (t:=t) h d
 | .pr a b,x,_,cs,h,d=>by
  unfold KF at h;split at h;· rename_i p q s u;obtain⟨v,w,rfl,l,m⟩:=d;obtain⟨f,g⟩:=EK s l;obtain⟨i,j⟩:=EK u m;grind[Fs]
  grind
def ir(P:Ge)(t:Ee):Bool:=match P.underlying t with
 |some (.array _ e)=>match P.underlying e with
  |some .bool=>Br
  |_=>Ap
 |_=>Ap
def gG(P:Ge)(C:List (SV N.T))(S:Nat->SV N.T)(nk:Nat)(ne:Bool)(t:Ee)(x y:Dc)(k:Bq N.T->Nat->Option R):Option R:=match P.underlying t,Lz N P t with
 |some (.array n e),Ac (.st u)=>match P.underlying e,S8 P e 1,P.eqGuardType P.depth t with
  |some .bool,Br,Ap=>match KF u,two C (.st u) (Ay S x) (Ay S y)with
   |some m,Ac (a,b)=>match Nat.beq m n with
    |true=>k ⟨.d .bool (match ne with|true=> !decide (Fs u a=Fs u b)|false=>decide (Fs u a=Fs u b)),[],[]⟩ nk
    |false=>C7
   |_,_=>C7
  |_,_,_=>C7
 |_,_=>C7
theorem Zt{ne:Bool}{u:Ee}(i:o.op= .binOp (match ne with|true=> .neq|false=> .eql) t x y u)(h:gG P C S nk ne t x y k=Ac r):AW P C S Rr nk o k r:=by
 have j:∀ {η:Nat->BU} {H:Hp} {a:Act},(∀x∈o.op.operands,(Ay S x).is C η H (a.eval x))->(Ay S x).is C η H (a.eval x):=λd=>d x (by simp_all[Op.operands]);have l:∀ {η:Nat->BU} {H:Hp} {a:Act},(∀x∈o.op.operands,(Ay S x).is C η H (a.eval x))->(Ay S y).is C η H (a.eval y):=λd=>d y (by rw[i];simp[Op.operands]);unfold gG at h;split at h;case h_2=>cases h
 rename_i n e s G T;split at h;case h_2=>cases h
 rename_i E I F;split at h;case h_2=>cases h
 rename_i m a b q B;split at h;case h_2=>cases h
 rename_i D;have v:=AI D;subst v;obtain⟨bytes,z,p⟩:=Eb I;refine .y h (Abw λη H O L d _=>?_) λ_ _=>trivial;obtain⟨⟨M,f,w⟩,Q,g,A⟩:=Pb B (j d) (l d);obtain⟨f,J⟩:=EK (t:=s) q f;obtain⟨g,K⟩:=EK (t:=s) q g;subst f;subst g;exact⟨_,by rw[i];exact Akz (ne:=ne) F G E p (congrArg Ac w) (congrArg Ac A) J K,CL⟩
def gM(c:Ty):Nat->(t:Ty)->t.den N.T->Option (List (c.den N.T))
 |n+2, .pr a b,x=>match P6 N.T a c,gM c (n+1) b x.2 with
  |some f,Ac l=>Ac (f x.1::l)
  |_,_=>C7
 |1,t,x=>(P6 N.T t c).map λf=>[f x]
 |_,_,_=>C7
theorem Sg{c:Ty}{H:Hp} :∀ {n:Nat} {t:Ty} {x:t.den N.T} {l:List (c.den N.T)} {cs:List BU},gM c n t x=Ac l->(N.c t).BI H x cs->AZ (N.c c) H l cs/\l.length=n
 |n+2, .pr a b,x,l,cs,h,i=>by
  unfold gM at h;split at h;· rename_i f y g u;cases h;obtain⟨d,rfl⟩:=Bw g;have e:=Adx d;subst e;obtain⟨m,p,rfl,q,s⟩:=i;obtain⟨v,w⟩:=Sg u s;exact⟨⟨m,p,rfl,q,v⟩,by grind⟩
  grind
 |1,t,x,l,cs,h,i=>by obtain⟨f,g,rfl⟩:=Pe.1 h;obtain⟨d,rfl⟩:=Bw g;have e:=Adx d;subst e;exact⟨⟨cs,[],by simp,i,rfl⟩,rfl⟩
def rA(P:Ge)(S:Nat->SV N.T)(nk:Nat)(t:Ee)(x y:Dc)(k:Bq N.T->Nat->Option R):Option R:=match P.underlying t,intOf (Ay S y),Ay S x with
 |some (.array n e),Ac (_,j), .d (.st u) z=>match P.underlying e,Lz N P e with
  |some d,Ac a=>match a.agg&&DC d&&S8 P e (a.sz N),gM a n u z with
   |true,Ac l=>Af (0<=j/\j<(n:Int)) (Ab (idx l j) λz=>k ⟨.d a z,[],[]⟩ nk)
   |_,_=>C7
  |_,_=>C7
 |_,_,_=>C7
theorem PJ{c:Ty}{H:Hp} :∀ {l:List (c.den N.T)} {cs:List BU} {i:Nat} {z:c.den N.T},AZ (N.c c) H l cs->l[i]?=Ac z->(N.c c).BI H z ((cs.drop (i*c.sz N)).take (c.sz N))
 | [],_,_,_,_,h=>by grind
 |a::l,_,0,z,⟨j,m,e,b,d⟩,h=>by cases h;subst e;rw[Aet,Afi,Ack (by grind[Bb]),Abm (by grind[Bb])];omega
 |a::l,_,i+1,z,⟨j,m,e,b,d⟩,h=>by have:=PJ (i:=i) d (by trivial);grind[Nat.succ_mul,Nat.add_comm,Bb,List.drop_drop,List.drop_left]
theorem o4(g:o.op= .index t x y)(h:rA P S nk t x y k=Ac r):AW P C S Rr nk o k r:=by
 have i:∀ {η:Nat->BU} {H:Hp} {a:Act},(∀x∈o.op.operands,(Ay S x).is C η H (a.eval x))->(Ay S x).is C η H (a.eval x):=λb=>b x (by rw[g];simp[Op.operands]);have m:∀ {η:Nat->BU} {H:Hp} {a:Act},(∀x∈o.op.operands,(Ay S x).is C η H (a.eval x))->(Ay S y).is C η H (a.eval y):=λb=>b y (by rw[g];simp[Op.operands]);unfold rA at h;split at h;case h_2=>cases h
 rename_i n e W j u U M K L;split at h;case h_2=>cases h
 rename_i d B I Q;split at h;case h_2=>cases h
 rename_i l w J;simp only[AS]at w;obtain⟨⟨D,E⟩,F⟩:=w;obtain⟨bytes,X,p⟩:=Eb F;obtain⟨hc,h⟩:=AQ h;obtain⟨z,q,h⟩:=Bp h;refine .y h (Abw λη H O a b _=>?_) λ_ _=>trivial;obtain⟨v,G,f⟩:(SV.d (.st u) U:SV N.T).is C η H (a.eval x):=by rw[<-L];exact i b
 have f:a.eval x= .agg v.toArray:=f;obtain⟨T,V⟩:=Sg J G;have s:l[j.toNat]?=Ac z:=by unfold idx at q;rw[if_pos hc.1]at q;exact q
 refine⟨_,by rw[g];exact Aq.qf M I E p (congrArg Ac f) (congrArg Ac (AY K (m b))) hc,(v.drop (j.toNat*B.sz N)).take (B.sz N),PJ T s,?_⟩;simp_all[Cu]
end
end
section
variable {N : C6} {R : Type} {P : Ge} {C : List (SV N.T)} {S : Nat -> SV N.T} {Rr : Nat -> Option (SR N.T)} {nk : Nat} {o : J5} {k : Bq N.T -> Nat -> Option R} {r : R}
section
variable{x:Dc}{t:Ee}
def od(P:Ge)(S:Nat->SV N.T)(nk:Nat)(t:Ee)(x y z:Dc)(k:Bq N.T->Nat->Option R):Option R:=C7
theorem ov{y z:Dc}(c:o.op= .slice t x (Ac y) (Ac z) C7)(h:od P S nk t x y z k=Ac r):AW P C S Rr nk o k r:=by unfold od at h;cases h
theorem vS(n:Int):T9 .u64 (n %18446744073709551616):=by show(0:Int)<=_/\_<=(18446744073709551615:Int);omega
def cwK(P:Ge)(S:Nat->SV N.T)(nk:Nat)(s d:Ee)(x:Dc)(k:Bq N.T->Nat->Option R):Option R:=match P.underlying s,P.underlying d,intOf (Ay S x)with
 |some (.int .i64),Ac (.int .u64),Ac (.i64,n)=>k ⟨.d (.int .u64) (n %18446744073709551616),[],[]⟩ nk
 |_,_,_=>C7
theorem u7{s d:Ee}(c:o.op= .convert s d x)(h:cwK P S nk s d x k=Ac r):AW P C S Rr nk o k r:=by
 have b:∀ {η:Nat->BU} {H:Hp} {a:Act},(∀x∈o.op.operands,(Ay S x).is C η H (a.eval x))->(Ay S x).is C η H (a.eval x):=λl=>l x (by grind[Op.operands]);unfold cwK at h;split at h;case h_2=>grind
 rename_i n j f i;exact .y h (Abw λη H O a g _=>⟨_,by rw[c];exact Ajp j f (congrArg Ac (AY i (b g))),by exact DN (vS n)⟩) λ_ _=>trivial
theorem Aiv{T Tx:Ee}{E:Dc->Option BU}{H:Hp}{O:List Av}{c:Kj}{n:Int}(f:E x=Ac (.int c n)):Aq P (.unOp .neg Tx x) T E H O (.int c (c.wrap (-n))):= .Am λa w o e _ d _=>by simp_all[ID,Op.unary,Op.intArith]
def pk(S:Nat->SV N.T)(nk:Nat)(x:Dc)(k:Bq N.T->Nat->Option R):Option R:=match intOf (Ay S x)with
 |some (.u64,n)=>k ⟨.d (.int .u64) ((-n) %18446744073709551616),[],[]⟩ nk
 |_=>pn S nk x k
theorem oA(b:o.op= .unOp .neg t x)(h:pk S nk x k=Ac r):AW P C S Rr nk o k r:=by
 have c:∀ {η:Nat->BU} {H:Hp} {a:Act},(∀x∈o.op.operands,(Ay S x).is C η H (a.eval x))->(Ay S x).is C η H (a.eval x):=λe=>e x (by grind[Op.operands]);unfold pk at h;split at h;· rename_i n d;exact .y h (Abw λη H O a g _=>⟨_,by rw[b];exact Aiv (congrArg Ac (AY d (c g))),by exact DN (vS _)⟩) λ_ _=>trivial
 grind[oB]
end
end
section
variable {P : Ge} {w : GD} {H : Hp} {O : List Av} {T : Ee} {E : Dc -> Option BU}
theorem Aio{o:J5}{a:Act}{v:BU}{C D:GD->Prop}(h:o.quietAt P a C w v)(k:∀w',C w'->D w'):o.quietAt P a D w v:=by unfold J5.quietAt J5.quietUpon at*;split at h<;>rename_i heq;all_goals first|omega|(exact⟨h.1,k _ h.2⟩)|(exact⟨h.1,h.2.mono λ_ _ q=>⟨q.1,k _ q.2⟩⟩)|cases h
theorem Aq.sub{op:Op}{b:List Av}{v:BU}(h1:∀w,SH w H O->SH w H b)(h2:∀w,SH w H b->SH w H O)(h:Aq P op T E H b v):Aq P op T E H O v:=
 λa w o c d e f=>Aio (h a w o c d e (h1 w f)) h2
end
section
variable {N : C6} {R : Type} {P : Ge} {C : List (SV N.T)} {S : Nat -> SV N.T} {Rr : Nat -> Option (SR N.T)} {nk : Nat} {o : J5} {k : Bq N.T -> Nat -> Option R} {r : R}
section
variable{t:Ee}{x y:Dc}
theorem Ajc{sv:SV N.T}{b:Nat}{f:SR N.T}(q:Rr b=Ac f)(h0:f≠ .gone)
  (h:∀(η:Nat->BU) (H:Hp) (O:List Av) (a:Act) (w:GD) (X:Av) (i:Nat),(∀x∈o.op.operands,(Ay S x).is C η H (a.eval x))->SH w H O->O[i]?=Ac X->f.is C η H b X->∃v,Aq P o.op o.type (EV a) H O v/\sv.is C η H v):
  Ao P C S Rr o ⟨sv,[b],[]⟩:=by
 intro η H j a w Y g c D y t _ K Q p;rcases t b (.inl (by simp)) _ q with e|⟨X,l,m⟩;· grind
 obtain⟨i,n,_⟩:=Iz j g l;obtain⟨v,z,A⟩:=h η H _ a w X i y c n m;refine Afq (z a w o rfl rfl (λx u e=>by grind) c) c λB d=>?_;exact p v B H η Y (Hp.le.refl H) (λ_ _=>rfl) (λ_ _=>rfl) (λk E h=>by cases h) g (λk s=> .inl s) d A
def qb(P:Ge)(S:Nat->SV N.T)(Rr:Nat->Option (SR N.T))(nk:Nat)(t:Ee)(x y:Dc)(k:Bq N.T->Nat->Option R):Option R:=C7
theorem oP(I:o.op= .indexAddr t x y)(h:qb P S Rr nk t x y k=Ac r):AW P C S Rr nk o k r:=by unfold qb at h;cases h
def pL(P:Ge)(S:Nat->SV N.T)(Rr:Nat->Option (SR N.T))(nk:Nat)(t:Ee)(x:Dc)(k:Bq N.T->Nat->Option R):Option R:=C7
theorem oK(K:o.op= .load t x)(h:pL P S Rr nk t x k=Ac r):AW P C S Rr nk o k r:=by unfold pL at h;cases h
def qa(P:Ge)(S:Nat->SV N.T)(Rr:Nat->Option (SR N.T))(nk:Nat)(t:Ee)(x y:Dc)(k:Bq N.T->Nat->Option R):Option R:=C7
theorem oO(Z:o.op= .indexAddr t x y)(h:qa P S Rr nk t x y k=Ac r):AW P C S Rr nk o k r:=by unfold qa at h;cases h
def e_(P:Ge)(t:Ee)(a:Ty):Bool:=match P.underlying t,Lz N P t with
 |some d,Ac b=>(b.Kw a&&Nat.beq (a.sz N) 1)&& !DC d
 |_,_=>Ap
theorem Vh{a:Ty}(h:e_ (N:=N) P t a=Br):∃d,P.underlying t=Ac d/\DC d=Ap/\a.agg=Ap/\a.sz N=1/\∃bytes z,TI P t 1 bytes z:=by
 unfold e_ at h;split at h;· grind[bytes,Adx,Nat.eq_of_beq_eq_true,Iv]
 grind
def pM(P:Ge)(S:Nat->SV N.T)(Rr:Nat->Option (SR N.T))(nk:Nat)(t:Ee)(x:Dc)(k:Bq N.T->Nat->Option R):Option R:=C7
theorem Z8{b:Ty}{H:Hp}(h1:b.sz N=1){l:List (b.den N.T)}{ys:List BU}{j:Nat}{z:b.den N.T}(e:AZ (N.c b) H l ys)(f:l[j]?=Ac z):∃u,ys[j]?=Ac u/\(N.c b).BI H z [u]:=by
 have:=PJ e f;rw[h1,Aek]at this;have c:=Bb this;rw[h1]at c;match g:(ys.drop j).take 1,this,c with
 | [u],this,_=>
  have:((ys.drop j).take 1)[0]?=Ac u:=by grind
  grind
theorem oL(ho:o.op= .load t x)(h:pM P S Rr nk t x k=Ac r):AW P C S Rr nk o k r:=by unfold pM at h;cases h
def nS(P:Ge)(C:List (SV N.T))(S:Nat->SV N.T)(Rr:Nat->Option (SR N.T))(nk:Nat)(t:Ee)(x y:Dc)(k:Bq N.T->Nat->Option R):Option R:=C7
theorem ot(ho:o.op= .store t x y)(h:nS P C S Rr nk t x y k=Ac r):AW P C S Rr nk o k r:=by unfold nS at h;cases h
def rM(P:Ge)(S:Nat->SV N.T)(Rr:Nat->Option (SR N.T))(nk:Nat)(t:Ee)(x y:Dc)(k:Bq N.T->Nat->Option R):Option R:=C7
theorem o9(ho:o.op= .store t x y)(hf:∀j,nk<=j->Rr j=C7)(h:rM P S Rr nk t x y k=Ac r):AW P C S Rr nk o k r:=by unfold rM at h;cases h
end
end
section
variable {N : C6} {R : Type} {P : Ge} {C : List (SV N.T)} {S : Nat -> SV N.T} {Rr : Nat -> Option (SR N.T)} {nk : Nat} {o : J5} {k : Bq N.T -> Nat -> Option R} {r : R}
section
variable{η:Nat->BU}{H:Hp}{b n:Nat}{g t:Ee}{x:Dc}
def nh:Option (SR N.T)->Bool
 |some (.Ah _ (.lf _ (.d (.ar _ _) _) .nl))=>Br
 |_=>Ap
theorem bY{s:Nat}{j:Ty}{l:List (j.den N.T)}{X:Av}(h:(SR.Ah g (.lf s (.d (.ar n j) l) .nl):SR N.T).is C η H b X):
  ∃B cs,η b=ptr B 0/\X= .Ah B (.cells cs.toArray g (0,0))/\cs.length=s/\l.length=n/\AZ (N.c j) H l cs/\∀x∈cs,x.oneCell'=Br:=by
 obtain⟨B,cs,q,t,p,m,u,e,v,⟨a,⟨y,z⟩,i⟩,f,w,c⟩:=h;subst i;have f:a=p:=by trivial
 subst f;have c:BU.agg m.toArray= .agg #[]:=c;grind
theorem rB{a:Ty}{l:List (a.den N.T)}{B:Nat}{cs:List BU}(h1:η b=ptr B 0)(h2:l.length=n)(h3:AZ (N.c a) H l cs)(c:∀x∈cs,x.oneCell'=Br):
  (SR.Ah g (.lf cs.length (.d (.ar n a) l) .nl):SR N.T).is C η H b (.Ah B (.cells cs.toArray g (0,0))):=
 ⟨B,_,h1,rfl,cs,[], .agg cs.toArray,by simp,rfl,⟨cs,⟨h2,h3⟩,rfl⟩,by rfl,c,rfl⟩
def pN(P:Ge)(S:Nat->SV N.T)(Rr:Nat->Option (SR N.T))(nk:Nat)(t:Ee)(x:Dc)(k:Bq N.T->Nat->Option R):Option R:=match Ay S x with
 | .loc b off=>match Rr b with
  |some (.Ah _ (.lf _ (.d (.ar _ a) l) .nl))=>match e_ (N:=N) P t a with
   |true=>Ab (idx l (off:Int)) λz=>k ⟨.d a z,[b],[]⟩ nk
   |false=>C7
  |_=>C7
 |_=>C7
theorem oM(u:o.op= .load t x)(h:pN P S Rr nk t x k=Ac r):AW P C S Rr nk o k r:=by
 have m:∀ {η:Nat->BU} {H:Hp} {a:Act},(∀x∈o.op.operands,(Ay S x).is C η H (a.eval x))->(Ay S x).is C η H (a.eval x):=λq=>q x (by grind[Op.operands]);unfold pN at h;split at h;case h_2=>cases h
 rename_i b off T;split at h;case h_2=>cases h
 rename_i g s n Z l L;split at h;case h_2=>cases h
 rename_i G;obtain⟨d,M,K,i,p,_⟩:=Vh G;obtain⟨z,V,h⟩:=Bp h;refine .y h (Ajc L (by simp) λη H O a w X j q U Q J=>?_) λ_ _=>trivial;obtain⟨B,cs,F,rfl,e3,e4,I,_⟩:=bY J;obtain⟨A,v,Y⟩:(SV.loc b off:SV N.T).is C η H (a.eval x):=by rw[<-T];exact m q
 have:A=B:=by rw[F]at v;simpa [ptr]using v.symm
 subst this;have f:=(Hi V).2;obtain⟨c,D,E⟩:=Z8 p I f;refine⟨c,?_,[c],E,by unfold Cu;rw[i]⟩;rw[u];exact Agv M K (congrArg Ac Y) Q (by simpa using D)
def nT(P:Ge)(C:List (SV N.T))(S:Nat->SV N.T)(Rr:Nat->Option (SR N.T))(nk:Nat)(t:Ee)(x y:Dc)(k:Bq N.T->Nat->Option R):Option R:=match Ay S x with
 | .loc b off=>match Rr b with
  |some (.Ah g (.lf s (.d (.ar n a) l) .nl))=>match e_ (N:=N) P t a,Ta C a (Ay S y)with
   |true,Ac z=>Af (off<n) (k ⟨.no,[],[(b, .Ah g (.lf s (.d (.ar n a) (l.set off z)) .nl))]⟩ nk)
   |_,_=>C7
  |_=>C7
 |_=>C7
theorem ou{y:Dc}(E:o.op= .store t x y)(h:nT P C S Rr nk t x y k=Ac r):AW P C S Rr nk o k r:=by
 have F:∀ {η:Nat->BU} {H:Hp} {a:Act},(∀x∈o.op.operands,(Ay S x).is C η H (a.eval x))->(Ay S x).is C η H (a.eval x):=λj=>j x (by grind[Op.operands]);have G:∀ {η:Nat->BU} {H:Hp} {a:Act},(∀x∈o.op.operands,(Ay S x).is C η H (a.eval x))->(Ay S y).is C η H (a.eval y):=λj=>j y (by rw[E];simp[Op.operands]);unfold nT at h;split at h;case h_2=>cases h
 rename_i b off hs;split at h;case h_2=>cases h
 rename_i g s n W l Q;split at h;case h_2=>cases h
 rename_i z hB hz;obtain⟨d,hd,ha,hag,f,bytes,zv,J⟩:=Vh hB;obtain⟨hc,h⟩:=AQ h;refine .set h Q (Agr Q (by simp) λη H O a X q j hj hX _=>?_) λ_ _=>trivial;obtain⟨B,w,K,rfl,e3,Z,M,L⟩:=bY hX;obtain⟨Y,V,q2⟩:(SV.loc b off:SV N.T).is C η H (a.eval x):=by rw[<-hs];exact F j
 have:Y=B:=by rw[K]at V;simpa [ptr]using V.symm
 subst this;obtain⟨T,U⟩:=C3 (Dm hz (G j));have c:=Bb T;rw[f]at c;have hcl:w.length=l.length:=by have:=M.len;rw[Bk,f,Aek]at this;exact this
 have D:AZ (N.c W) H (l.set off z) (CG w off (a.eval y).cells.toList):=by have:=M.set (i:=off) (by omega) T;rw[Bk,f,Aek]at this;exact this
 have I:(CG w off (a.eval y).cells.toList).length=s:=by unfold CG;simp only[Pd,Aas,Aka,c];omega
 have u:∀v∈CG w off (a.eval y).cells.toList,v.oneCell'=Br:=by
  intro v e;rcases AT.1 e with e|e
  ·rcases AT.1 e with e|e;· exact L v (Ach e)
   ·exact U v e
  ·exact L v (List.mem_of_mem_drop e)
 rw[E];have p:=rB (C:=C) (b:=b) (g:=g) (n:=n) (l:=l.set off z) K ((Acn ..).trans Z) D u;rw[I]at p;refine⟨_,p,(BJ.Q3 (congrArg Ac q2) rfl rfl J c U hj (by rw[List.size_toArray];omega)).mono ?_⟩;rintro v H' O' ⟨rfl,rfl⟩;trivial
end
end
end Go.GV

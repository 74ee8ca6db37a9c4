/- Part 2 of the texts of this claim: what its theorem leans on. -/
import Derived.Test.YtimbbibpghnipaaGreatDoorZLookupKinds1
import Derived.Lib.AppendZerosOnto
import Derived.Laws.Runes
import Derived.ArgAppend
import Derived.Laws.IdiomStrings
import Derived.Laws.CopyRow
import Derived.RangeFuncRecord
import Derived.Laws.Strings2
set_option linter.all false
open Option renaming some→Ac,none→C5
open Bool renaming false→Aj,true→Bp
open Go renaming Value→BZ,Operand→El,TypeId→Gj,Program→GG,World→IG,execOp→Ki,Oper→KV,IntKind→Lc
open Decidable renaming decide→Di
open List renaming length→Fw,replicate→TO,take_of_length_le→wH,drop_drop→wO
open Nat renaming beq→Hc,eq_of_beq_eq_true→aw,blt→az,ble→iK
open Go.Op renaming operands→ZQ,equalIn→mP,equal→pX,bytesLess→rh,stringOp→wB,maxDepth→Alw
open Go.Call renaming operands→fT
open Go.Result renaming andThen_ok→iq,andThen→iT
open Go.Sem renaming run_bind→mG
open Go.Instr renaming fill→mU,sliceAt→rj
open Go.Builtin renaming zeroCells→oa,copy_→vT,firstCells→wh
open Go renaming sizeOf→qG
open Go.Addr renaming add_lit→qY,add→w8
namespace Go.GV
open Go Go.GK
section
variable {N : C7} {R : Type} {P : GG} {C : List (SV N.T)} {S : Nat -> SV N.T} {Rr : Nat -> Option (SR N.T)} {nk : Nat} {o : KV} {k : Bw N.T -> Nat -> Option R} {r : R}
def Oy(k:Lc)(m n:Int):Int:=k.wrap ((BitVec.ofInt k.bits m&&&BitVec.ofInt k.bits n).toNat:Int)
def Xn(k:Lc)(m n:Int):Int:=k.wrap ((BitVec.ofInt k.bits m|||BitVec.ofInt k.bits n).toNat:Int)
def TG(k:Lc)(m n:Int):Int:=m.fdiv (2^min n.toNat k.bits)
def Nz(k:Lc)(m n:Int):Int:=m*2^min n.toNat k.bits
def qk(b:BinOp)(a:Lc)(m n:Int)(nk:Nat)(k:Bw N.T->Nat->Option R):Option R:=match b with
 | .add=>Aa a (m+n) (k ⟨.d (.int a) (m+n),[],[]⟩ nk)
 | .sub=>Aa a (m-n) (k ⟨.d (.int a) (m-n),[],[]⟩ nk)
 | .mul=>Aa a (m*n) (k ⟨.d (.int a) (m*n),[],[]⟩ nk)
 | .lss=>k ⟨.d .bool (Di (m<n)),[],[]⟩ nk
 | .leq=>k ⟨.d .bool (Di (m<=n)),[],[]⟩ nk
 | .gtr=>k ⟨.d .bool (Di (n<m)),[],[]⟩ nk
 | .geq=>k ⟨.d .bool (Di (n<=m)),[],[]⟩ nk
 | .eql=>k ⟨.d .bool (Di (m=n)),[],[]⟩ nk
 | .neq=>k ⟨.d .bool (Di (m≠n)),[],[]⟩ nk
 | .quo=>Af (n≠0) (Aa a (m.tdiv n) (k ⟨.d (.int a) (m.tdiv n),[],[]⟩ nk))
 | .rem=>Af (n≠0) (Aa a (m.tmod n) (k ⟨.d (.int a) (m.tmod n),[],[]⟩ nk))
 | .and=>Aa a (Oy a m n) (k ⟨.d (.int a) (Oy a m n),[],[]⟩ nk)
 | .or=>Aa a (Xn a m n) (k ⟨.d (.int a) (Xn a m n),[],[]⟩ nk)
 | .shr=>Af (0<=n) (Aa a (TG a m n) (k ⟨.d (.int a) (TG a m n),[],[]⟩ nk))
 | .shl=>Af (0<=n) (Aa a (Nz a m n) (k ⟨.d (.int a) (Nz a m n),[],[]⟩ nk))
 |_=>C5
section
variable {H : Hp} {O : List Aw} {E : El -> Option BZ} {T Tx Ty : Gj} {x y : El} {kk : Lc} {m n : Int}
section
variable{a b:Aq}
theorem Aik(e:E x=Ac (.int kk m))(f:E y=Ac (.int kk n))(h0:n≠0)(h:kk.min<=m.tdiv n/\m.tdiv n<=kk.max):Au P (.binOp .quo Tx x y Ty) T E H O (.int kk (m.tdiv n)):= .Ao λa w o d _ c _=>by simp_all[Ki,eqGuard,binOp,Op.intDiv,DT]
theorem Aij(e:E x=Ac (.int kk m))(f:E y=Ac (.int kk n))(h0:n≠0):Au P (.binOp .rem Tx x y Ty) T E H O (.int kk (m.tmod n)):= .Ao λa w o d _ c _=>by simp_all[Ki,eqGuard,binOp,Op.intDiv]
theorem Au.Oy(e:E x=Ac (.int kk m))(f:E y=Ac (.int kk n)):Au P (.binOp .and Tx x y Ty) T E H O (.int kk (Oy kk m n)):= .Ao λa w o d _ c _=>by simp_all[Ki,eqGuard,binOp,Op.intBits,GV.Oy]
theorem Au.Xn(e:E x=Ac (.int kk m))(f:E y=Ac (.int kk n)):Au P (.binOp .or Tx x y Ty) T E H O (.int kk (Xn kk m n)):= .Ao λa w o d _ c _=>by simp_all[Ki,eqGuard,binOp,Op.intBits,GV.Xn]
theorem Au.TG(e:E x=Ac (.int kk m))(f:E y=Ac (.int kk n))(h0:0<=n):Au P (.binOp .shr Tx x y Ty) T E H O (.int kk (TG kk m n)):= .Ao λa w o d _ c _=>by simp[Ki,d,c x _ e,c y _ f,eqGuard,binOp,Op.shift,GV.TG,Agt.2 h0]
theorem Au.Nz(e:E x=Ac (.int kk m))(f:E y=Ac (.int kk n))(h0:0<=n)(h:kk.min<=Nz kk m n/\Nz kk m n<=kk.max):Au P (.binOp .shl Tx x y Ty) T E H O (.int kk (Nz kk m n)):= .Ao λa w o d _ c _=>by have:=DT h;unfold GV.Nz at this;simp[Ki,d,c x _ e,c y _ f,eqGuard,binOp,Op.shift,GV.Nz,Agt.2 h0,this]
theorem Akl(f:E x=Ac (sv a))(g:E y=Ac (sv b)):Au P (.binOp .leq Tx x y Ty) T E H O (.bool (rh a b||decide (a=b))):= .Ao λi w o e _ d _=>by
 have h:(a==b)=Di (a=b):=by grind
 simp_all[sv,Ki,eqGuard,binOp,wB]
theorem Akg(f:E x=Ac (sv a))(g:E y=Ac (sv b)):Au P (.binOp .gtr Tx x y Ty) T E H O (.bool (!(rh a b||decide (a=b)))):= .Ao λi w o e _ d _=>by
 have h:(a==b)=Di (a=b):=by grind
 simp_all[sv,Ki,eqGuard,binOp,wB]
theorem Akf(f:E x=Ac (sv a))(g:E y=Ac (sv b)):Au P (.binOp .geq Tx x y Ty) T E H O (.bool (!Op.bytesLess a b)):= .Ao λh w o e _ d _=>by simp_all[sv,Ki,eqGuard,binOp,wB]
theorem Au.neg(f:E x=Ac (.int kk n))(h:kk.min<=0-n/\0-n<=kk.max):Au P (.unOp .neg Tx x) T E H O (.int kk (0-n)):= .Ao λa w o e _ d _=>by simp_all[Ki,Op.unary,Op.intArith,DT]
end
end
section
variable{s:SV N.T}{η:Nat->BZ}{H:Hp}{v:BZ}{x:El}{t:Gj}
def vg(b:BinOp)(m n:Aq)(nk:Nat)(k:Bw N.T->Nat->Option R):Option R:=match b with
 | .eql=>k ⟨.d .bool (Di (m=n)),[],[]⟩ nk
 | .neq=>k ⟨.d .bool (!decide (m=n)),[],[]⟩ nk
 | .lss=>k ⟨.d .bool (rh m n),[],[]⟩ nk
 | .leq=>k ⟨.d .bool (rh m n||decide (m=n)),[],[]⟩ nk
 | .gtr=>k ⟨.d .bool (!(rh m n||decide (m=n))),[],[]⟩ nk
 | .geq=>k ⟨.d .bool (!Op.bytesLess m n),[],[]⟩ nk
 | .add=>Af (m.length+n.length<=Ah) (k ⟨.d .str (m++n),[],[]⟩ nk)
 |_=>C5
def iS(s:SV N.T):Option Bool:=eD N .bool s
def S3(s:SV N.T):Option Aq:=eD N .str s
theorem Ux{b:Bool}(h:iS s=Ac b)(a:s.is C η H v):v= .bool b:=Qv (IU (t:= .bool) h a)
theorem IP{b:Aq}(h:S3 s=Ac b)(a:s.is C η H v):v=sv b:=kJ (IU (t:= .str) h a)
def nN:SV N.T->Option Int
 | .d (.int .u8) x=>Ac x
 |_=>C5
theorem YT{n:Int}(h:nN s=Ac n)(d:s.is C η H v):v= .int .u8 n/\0<=n/\n<=255:=by
 unfold nN at h;split at h;· cases h;obtain⟨e,b,a⟩:=d;obtain⟨rfl,c⟩:=DY.1 b;cases a;trivial
 grind
def ZZ:SV N.T->Option Nat
 | .na n| .ct _ n| .cb _ n=>Ac n
 |_=>C5
theorem f_{n:Nat}(h:ZZ s=Ac n)(a:s.is C η H v):v= .int .i64 n/\n<=QX:=by
 unfold ZZ at h;split at h;· cases h;exact a
 ·cases h;exact a
 ·cases h;exact⟨a.1,Agp a.2⟩
 grind
def FC(b:BinOp)(x y:SV N.T):Option (SV N.T):=match b,x,y with
 | .lss, .ct i n, .na m=>Ac (.lt i n m)
 | .add, .cb _ n, .raw (.int .i64 1)=>Ac (.na (n+1))
 |_,_,_=>C5
theorem iy{b:BinOp}{x y:SV N.T}(h:FC b x y=Ac s):(∃i n m,b= .lss/\x= .ct i n/\y= .na m/\s= .lt i n m)\/(∃i n,b= .add/\x= .cb i n/\y= .raw (.int .i64 1)/\s= .na (n+1)):=by unfold FC at h;grind
def rz(
     P:GG) (S:Nat->SV N.T) (nk:Nat) (b:BinOp) (t:Gj) (x y:El) (k:Bw N.T->Nat->Option R):Option R:=match FC b (Ax S x) (Ax S y)with
 |some s=>k ⟨s,[],[]⟩ nk
 |none=>match intOf (Ax S x),intOf (Ax S y)with
  |some (c,m),Ac (a,n)=>match kb c a with
   |true=>qk b c m n nk k
   |false=>C5
  |_,_=>match P.underlying t with
   |some .string=>match S3 (Ax S x),S3 (Ax S y)with
    |some m,Ac n=>vg b m n nk k
    |_,_=>C5
   |some .bool=>match iS (Ax S x),iS (Ax S y)with
    |some m,Ac n=>match b with
     | .eql=>k ⟨.d .bool (m==n),[],[]⟩ nk
     | .neq=>k ⟨.d .bool (!(m==n)),[],[]⟩ nk
     |_=>C5
    |_,_=>C5
   |_=>C5
theorem ok_int{b:BinOp}{t u:Gj}{x y:El}{i:Lc}{m n:Int}(v:o.op= .binOp b t x y u)(s:intOf (Ax S x)=Ac (i,m))(F:intOf (Ax S y)=Ac (i,n))(h:qk b i m n nk k=Ac r):A1 P C S Rr nk o k r:=by
 have w:∀ {η:Nat->BZ} {H:Hp} {a:Act},(∀x∈o.op.operands,(Ax S x).is C η H (a.eval x))->EV a x=Ac (.int i m):=λg=>congrArg Ac (AU s (g x (by grind[ZQ])));have A:∀ {η:Nat->BZ} {H:Hp} {a:Act},(∀x∈o.op.operands,(Ax S x).is C η H (a.eval x))->EV a y=Ac (.int i n):=λg=>congrArg Ac (AU F (g y (by grind[ZQ])));have p:∀ {c:Bool},k ⟨.d .bool c,[],[]⟩ nk=Ac r->(∀(H:Hp) (O:List Aw) (a:Act),EV a x=Ac (.int i m)->EV a y=Ac (.int i n)->Au P o.op o.type (EV a) H O (.bool c))->A1 P C S Rr nk o k r:=λh g=>
  .y h (Abv λη H O a s _=>⟨_,g H O a (w s) (A s),CO⟩) λ_ _=>trivial;have l:∀ {z:Int},Aa i z (k ⟨.d (.int i) z,[],[]⟩ nk)=Ac r->(∀(H:Hp) (O:List Aw) (a:Act),EV a x=Ac (.int i m)->EV a y=Ac (.int i n)->i.min<=z/\z<=i.max->Au P o.op o.type (EV a) H O (.int i z))->A1 P C S Rr nk o k r:=λh g=>by
  obtain⟨B,D,E⟩:=BV h;exact .y E (Abv λη H O a s _=>⟨_,g H O a (w s) (A s) B,D0 D⟩) λ_ _=>trivial
 rw[v]at p l;unfold qk at h;split at h;· grind[Au.add]
 ·grind[Au.sub]
 ·grind[Au.mul]
 ·exact p h λH O a e f=>Au.lss e f
 ·exact p h λH O a e f=>Au.leq e f
 ·exact p h λH O a e f=>Au.gtr e f
 ·exact p h λH O a e f=>Au.geq e f
 ·exact p h λH O a e f=>Au.eql e f
 ·exact p h λH O a e f=>Au.neq e f
 ·obtain⟨q,h⟩:=AE h;exact l h λH O a e f j=>Aik e f q j
 ·obtain⟨q,h⟩:=AE h;exact l h λH O a e f j=>Aij e f q
 ·exact l h λH O a e f j=>Au.Oy e f
 ·exact l h λH O a e f j=>Au.Xn e f
 ·obtain⟨q,h⟩:=AE h;exact l h λH O a e f j=>Au.TG e f q
 ·obtain⟨q,h⟩:=AE h;exact l h λH O a e f j=>Au.Nz e f q j
 grind
theorem o9{b:BinOp}{t u:Gj}{x y:El}(l:o.op= .binOp b t x y u)(h:rz P S nk b t x y k=Ac r):A1 P C S Rr nk o k r:=by
 have p:∀ {η:Nat->BZ} {H:Hp} {a:Act},(∀x∈o.op.operands,(Ax S x).is C η H (a.eval x))->(Ax S x).is C η H (a.eval x):=λe=>e x (by grind[ZQ]);have q:∀ {η:Nat->BZ} {H:Hp} {a:Act},(∀x∈o.op.operands,(Ax S x).is C η H (a.eval x))->(Ax S y).is C η H (a.eval y):=λe=>e y (by grind[ZQ]);unfold rz at h;split at h
 ·rename_i s hc;rcases iy hc with⟨i,n,m,rfl,f,j,rfl⟩|⟨i,n,rfl,f,j,rfl⟩
  ·refine .y h (Abv λη H O a e _=>?_) λτ F=>?_;· have w:=p e;rw[f]at w;have z:=q e;rw[j]at z;refine⟨_,?_,rf,z.2⟩;rw[l];exact Au.lss (congrArg Ac w.1) (congrArg Ac z.1)
   ·have:=LS (x:=x) F;rw[f]at this;trivial
  ·refine .y h (Abv λη H O a e _=>?_) λ_ _=>trivial;have w:=p e;rw[f]at w;have z:=q e;rw[j]at z;have G:=w.2;refine⟨.int .i64 ((n:Int)+1),?_,rf,G⟩;rw[l];exact Au.add (congrArg Ac w.1) (congrArg Ac z) (Uk (by grind))
 ·split at h
  ·grind[OC,ok_int]
  ·split at h
   ·rename_i D;split at h
    ·rename_i m n e E;have A:∀ {η:Nat->BZ} {H:Hp} {a:Act},(∀x∈o.op.operands,(Ax S x).is C η H (a.eval x))->EV a x=Ac (sv m):=λg=>congrArg Ac (IP e (p g));have B:∀ {η:Nat->BZ} {H:Hp} {a:Act},(∀x∈o.op.operands,(Ax S x).is C η H (a.eval x))->EV a y=Ac (sv n):=λg=>congrArg Ac (IP E (q g));have v:∀ {c:Bool},k ⟨.d .bool c,[],[]⟩ nk=Ac r->(∀(H:Hp) (O:List Aw) (a:Act),EV a x=Ac (sv m)->EV a y=Ac (sv n)->Au P o.op o.type (EV a) H O (.bool c))->A1 P C S Rr nk o k r:=λh g=>
      .y h (Abv λη H O a e _=>⟨_,g H O a (A e) (B e),CO⟩) λ_ _=>trivial;rw[l]at v;unfold vg at h;split at h;· exact v h λH O a f j=>Ahv D f j
     ·exact v h λH O a f j=>Akm D f j
     ·exact v h λH O a f j=>Ahu f j
     ·exact v h λH O a f j=>Akl f j
     ·exact v h λH O a f j=>Akg f j
     ·exact v h λH O a f j=>Akf f j
     ·obtain⟨I,J⟩:=AE h;exact .y J (Abv λη H O a e _=>⟨sv (m++n),by rw[l];exact Akp (A e) (B e) I,[_],rfl,rfl⟩) λ_ _=>trivial
     trivial
    grind
   ·rename_i D;split at h
    ·rename_i m n e E;have A:∀ {η:Nat->BZ} {H:Hp} {a:Act},(∀x∈o.op.operands,(Ax S x).is C η H (a.eval x))->EV a x=Ac (.bool m):=λg=>congrArg Ac (Ux e (p g));have B:∀ {η:Nat->BZ} {H:Hp} {a:Act},(∀x∈o.op.operands,(Ax S x).is C η H (a.eval x))->EV a y=Ac (.bool n):=λg=>congrArg Ac (Ux E (q g));split at h;· exact .y h (Abv λη H O a e _=>⟨_,by rw[l];exact Ajo D (A e) (B e),CO⟩) λ_ _=>trivial
     ·exact .y h (Abv λη H O a e _=>⟨_,by rw[l];exact Ajm D (A e) (B e),CO⟩) λ_ _=>trivial
     ·cases h
    ·cases h
   grind
def pj(S:Nat->SV N.T)(nk:Nat)(x:El)(k:Bw N.T->Nat->Option R):Option R:=match Ax S x with
 | .lb b=>k ⟨.lb (!b),[],[]⟩ nk
 |s=>match iS s with
  |some b=>k ⟨.d .bool (!b),[],[]⟩ nk
  |none=>C5
theorem oD(e:o.op= .unOp .not t x)(h:pj S nk x k=Ac r):A1 P C S Rr nk o k r:=by
 have c:∀ {η:Nat->BZ} {H:Hp} {a:Act},(∀x∈o.op.operands,(Ax S x).is C η H (a.eval x))->(Ax S x).is C η H (a.eval x):=λd=>d x (by grind[ZQ]);unfold pj at h;split at h;· rename_i b g;refine .y h (Abv λη H O a d _=>⟨.bool (!b),?_,rfl⟩) λ_ _=>trivial;have:=c d;rw[g]at this;rw[e];exact Au.not (congrArg Ac this)
 ·split at h;· rename_i b f;exact .y h (Abv λη H O a d _=>⟨_,by rw[e];exact Au.not (congrArg Ac (Ux f (c d))),CO⟩) λ_ _=>trivial
  grind
def pA(S:Nat->SV N.T)(nk:Nat)(x:El)(k:Bw N.T->Nat->Option R):Option R:=match intOf (Ax S x)with
 |some (a,n)=>Aa a (0-n) (k ⟨.d (.int a) (0-n),[],[]⟩ nk)
 |none=>C5
theorem oH{t:Gj}{x:El}(d:o.op= .unOp .neg t x)(h:pA S nk x k=Ac r):A1 P C S Rr nk o k r:=by
 have b:∀ {η:Nat->BZ} {H:Hp} {a:Act},(∀x∈o.op.operands,(Ax S x).is C η H (a.eval x))->(Ax S x).is C η H (a.eval x):=λc=>c x (by grind[ZQ]);unfold pA at h;split at h;· rename_i j n i;obtain⟨e,f,g⟩:=BV h;exact .y g (Abv λη H O a c _=>⟨_,by rw[d];exact Au.neg (congrArg Ac (AU i (b c))) e,D0 f⟩) λ_ _=>trivial
 grind
def pQ(P:GG)(S:Nat->SV N.T)(Rr:Nat->Option (SR N.T))(nk:Nat)(x:El)(t:Gj)(k:Bw N.T->Nat->Option R):Option R:=match P.underlying t with
 |some (.slice _)=>match Ax S x with
  | .d (.sl _) l=>k ⟨.na l.length,[],[]⟩ nk
  | .AG b=>match Rr b with
   |some (.row _ _ l)=>k ⟨.na l.length,[b],[]⟩ nk
   |_=>C5
  | .raw (.slice C5 0 0)=>k ⟨.na 0,[],[]⟩ nk
  |_=>C5
 |some .string=>match S3 (Ax S x)with
  |some s=>k ⟨.d (.int .i64) ((s.length:Nat):Int),[],[]⟩ nk
  |none=>C5
 |_=>C5
theorem oP(q:o.op= .call {callee:= .builtin .len,args:= #[x],argTypes:= #[t]})(h:pQ P S Rr nk x t k=Ac r):A1 P C S Rr nk o k r:=by
 have c:∀ {η:Nat->BZ} {H:Hp} {a:Act},(∀x∈o.op.operands,(Ax S x).is C η H (a.eval x))->(Ax S x).is C η H (a.eval x):=λf=>f x (by grind[ZQ,fT]);unfold pQ at h;split at h
 ·rename_i e z;split at h
  ·rename_i I l j;refine .y h (Abv λη H O a f _=>?_) λ_ _=>trivial;obtain⟨cs,⟨v,rfl,G⟩,A⟩:(SV.d (.sl I) l:SV N.T).is C η H (a.eval x):=by grind
   have A:[v]=[a.eval x]:=A;cases A;exact⟨_,by rw[q];exact Au.len z rfl G.sl,rfl,G.le⟩
  ·rename_i b j;split at h
   ·rename_i g I l U;refine .y h (λη H E a w Y p d hi f Z V K Q T=>?_) λ_ _=>trivial;rcases Z b (.inl (by simp)) _ U with e|⟨X,M,xs,L,hL⟩;· grind
    subst L;obtain⟨i,F,_⟩:=Ja E p M;have J:a.eval x=η b:=by
     have:(SV.AG b:SV N.T).is C η H (a.eval x):=by grind
     exact this.1
    have B:Au P o.op o.type (EV a) H (Y.map (·.2)++E) (.int .i64 l.length):=by rw[q];exact Au.len z (congrArg Ac J) (d.ID F).1
    refine Afa (B a w o rfl rfl (λx u e=>by simpa using e) d) d λw' D=>?_;exact T _ w' H η Y (Hp.le.refl H) (λ_ _=>rfl) (λ_ _=>rfl) (λk sr h=>by cases h) p (λk W=> .inl W) D ⟨rfl,d.N' F⟩
   grind
  ·rename_i j;refine .y h (Abv λη H O a f _=>?_) λ_ _=>trivial;have:=c f;rw[j]at this;exact⟨_,by rw[q];exact Au.len (n:=0) z rfl (.inl ⟨this,rfl⟩),rfl,Abh _⟩
  grind
 ·rename_i z;split at h;· rename_i s j;exact .y h (Abv λη H O a f _=>⟨_,by rw[q];exact Air z (congrArg Ac (IP j (c f))),D0 trivial⟩) λ_ _=>trivial
  ·cases h
 grind
def zF(P:GG)(S:Nat->SV N.T)(nk:Nat)(s d:Gj)(x:El)(k:Bw N.T->Nat->Option R):Option R:=match P.underlying s,P.underlying d with
 |some (.int _),Ac (.int a)=>match nN (Ax S x),a with
  |some n, .i64=>k ⟨.d (.int .i64) n,[],[]⟩ nk
  |some n, .u8=>k ⟨.d (.int .u8) n,[],[]⟩ nk
  |_,_=>match ZZ (Ax S x),a with
   |some n, .i64=>k ⟨.na n,[],[]⟩ nk
   |_,_=>match intOf (Ax S x)with
    |some (_,n)=>Aa a n (k ⟨.d (.int a) n,[],[]⟩ nk)
    |none=>C5
 |_,_=>C5
theorem mA{s d:Gj}(i:o.op= .convert s d x)(h:zF P S nk s d x k=Ac r):A1 P C S Rr nk o k r:=by
 have b:∀ {η:Nat->BZ} {H:Hp} {a:Act},(∀x∈o.op.operands,(Ax S x).is C η H (a.eval x))->(Ax S x).is C η H (a.eval x):=λt=>t x (by grind[ZQ]);unfold zF at h;split at h
 ·rename_i w v l j;split at h;· rename_i n c;refine .y h (Abv λη H O a g _=>?_) λ_ _=>trivial;obtain⟨f,e⟩:=YT c (b g);exact⟨.int .i64 n,by rw[i];exact Au.conv l j (congrArg Ac f) (Uk (by omega)),D0 trivial⟩
  ·rename_i n c;refine .y h (Abv λη H O a g _=>?_) λ_ _=>trivial;obtain⟨f,e⟩:=YT c (b g);exact⟨.int .u8 n,by rw[i];exact Au.conv l j (congrArg Ac f) (qx e),D0 e⟩
  ·split at h;· rename_i n c _ _;refine .y h (Abv λη H O a g _=>?_) λ_ _=>trivial;obtain⟨f,e⟩:=f_ c (b g);exact⟨.int .i64 n,by rw[i];exact Au.conv l j (congrArg Ac f) (Uk (by grind)),rfl,e⟩
   ·split at h;· rename_i u n c;obtain⟨m,p,q⟩:=BV h;exact .y q (Abv λη H O a g _=>⟨_,by rw[i];exact Au.conv l j (congrArg Ac (AU c (b g))) m,D0 p⟩) λ_ _=>trivial
    grind
 grind
def qB(S:Nat->SV N.T)(nk:Nat)(x:El)(i:Nat)(k:Bw N.T->Nat->Option R):Option R:=match Ax S x,i with
 | .t2 a _,0=>k ⟨a,[],[]⟩ nk
 | .t2 _ b,1=>k ⟨b,[],[]⟩ nk
 | .t3 a _ _,0=>k ⟨a,[],[]⟩ nk
 | .t3 _ b _,1=>k ⟨b,[],[]⟩ nk
 | .t3 _ _ c,2=>k ⟨c,[],[]⟩ nk
 |_,_=>C5
def ER:SV N.T->Bool
 | .ct _ _| .cb _ _| .lt _ _ _| .D_ _ _ _ _ _=>Aj
 |_=>Bp
theorem Dx{s:SV N.T}{τ:Nat->Nat}(h:ER s=Bp):D5 τ Rr s:=by cases s<;>first|trivial|cases h
theorem oY{i:Nat}(u:o.op= .extract x i)(h:qB S nk x i (λs n=>match ER s.sv with|true=>k s n|false=>C5)=Ac r):A1 P C S Rr nk o k r:=by
 have q:∀ {η:Nat->BZ} {H:Hp} {a:Act},(∀x∈o.op.operands,(Ax S x).is C η H (a.eval x))->(Ax S x).is C η H (a.eval x):=λd=>d x (by grind[ZQ]);have f:∀ {s:SV N.T},(match ER s with|true=>k ⟨s,[],[]⟩ nk|false=>C5)=Ac r->(∀ {η:Nat->BZ} {H:Hp} {a:Act},(Ax S x).is C η H (a.eval x)->∃t v,a.eval x= .tuple t/\t[i]?=Ac v/\s.is C η H v)->A1 P C S Rr nk o k r:=λ{s} h g=>by
  split at h;· rename_i D;refine .y h (Abv λη H O a d _=>?_) λ_ _=>Dx D;obtain⟨t,v,w,A,B⟩:=g (q d);exact⟨v,by rw[u];exact Au.extract (congrArg Ac w) A,B⟩
  grind
 unfold qB at h;split at h;· rename_i a b j;exact f h λd=>by rw[j]at d;obtain⟨x,y,e,l,m⟩:=d;exact⟨_,_,e,rfl,l⟩
 ·rename_i a b j;exact f h λd=>by rw[j]at d;obtain⟨x,y,e,l,m⟩:=d;exact⟨_,_,e,rfl,m⟩
 ·rename_i a b c j;exact f h λd=>by rw[j]at d;obtain⟨x,y,z,e,l,m,p⟩:=d;exact⟨_,_,e,rfl,l⟩
 ·rename_i a b c j;exact f h λd=>by rw[j]at d;obtain⟨x,y,z,e,l,m,p⟩:=d;exact⟨_,_,e,rfl,m⟩
 ·rename_i a b c j;exact f h λd=>by rw[j]at d;obtain⟨x,y,z,e,l,m,p⟩:=d;exact⟨_,_,e,rfl,p⟩
 grind
end
end
section
variable{off:Nat}
theorem WJ(off:Nat)(l:List BZ):∀(k:Nat) (acc:Array BZ),(l.zipIdx k).foldl (λcs (p:BZ×Nat)=>cs.setIfInBounds (off+p.2) p.1) acc=(l.zipIdx (off+k)).foldl (λcs (p:BZ×Nat)=>cs.setIfInBounds p.2 p.1) acc:=by
 induction l with
 |nil=>simp
 |cons v l b=>
  grind[List.zipIdx_cons,Nat.add_assoc]
theorem fj{cs:Array BZ}{v:Array BZ}(h:off+v.size<=cs.size):(v.zipIdx.foldl (λcs (x:BZ×Nat)=>match x with|(c,j)=>cs.setIfInBounds (off+j) c) cs)=(Cq cs.toList off v.toList).toArray:=by
 have g:(v.zipIdx.foldl (λcs (x:BZ×Nat)=>match x with|(c,j)=>cs.setIfInBounds (off+j) c) cs)=((v.toList.zipIdx 0).foldl (λcs (p:BZ×Nat)=>cs.setIfInBounds (off+p.2) p.1) cs):=by grind[Array.toList_zipIdx]
 rw[g,WJ];apply Array.ext_getElem?;intro i;rw[XC];simp only[Agr,Ahl,List.getElem?_toArray];unfold Cq;have k:(cs.toList.take off).length=off:=by grind
 by_cases e:i<off;· grind
 ·by_cases f:i<off+v.size;· rw[if_pos ⟨by omega,f,by omega⟩,Aaj,Aab (by omega),k,Aaa (by simp;omega)]
  ·rw[if_neg (by omega),Aab (by simp;omega),Afx];have:off+v.toList.length+(i-(cs.toList.take off++v.toList).length)=i:=by simp;omega
   rw[this];simp
theorem Ks{place:Nat->Option (Nat×Nat)}{cells:Array BZ}{i size:Nat}{v:BZ}{a:List (Nat×BZ)}(d:place i=Ac (off,size))(e:v.cells.size=size)(c:off+v.cells.size<=cells.size):mU place cells ((i,v)::a)=mU place (Cq cells.toList off v.cells.toList).toArray a:=by
 have:(v.cells.size≠size||decide (off+v.cells.size>cells.size))=Aj:=by grind
 simp only[mU,d];rw[this];simp only[Adx,if_false];rw[fj c]
theorem JD{a:Act} :∀ps:List (Nat×El),YE (EV a) ps=Ac (ps.map λp=>(p.1,a.eval p.2))
 | []=>rfl
 |(i,x)::r=>by simp only[YE,EV,JD r,Aar]
end
section
variable {N : C7} {R : Type} {P : GG} {C : List (SV N.T)} {S : Nat -> SV N.T} {Rr : Nat -> Option (SR N.T)} {nk : Nat} {o : KV} {k : Bw N.T -> Nat -> Option R} {r : R}
section
variable{η:Nat->BZ}{H:Hp}{t:Gj}
def Sk(P:GG)(C:List (SV N.T))(S:Nat->SV N.T)(place:Nat->Option (Nat×Nat×Gj)):List (Nat×El)->SV N.T->Option (SV N.T)
 | [],l=>Ac l
 |(i,x)::b,l=>match place i with
  |some (off,size,t)=>match iK off (RO l),fD C l off (vJ P t (Ax S x))with
   |true,Ac (a,n)=>match Hc n size with
    |true=>Sk P C S place b a
    |false=>C5
   |_,_=>C5
  |none=>C5
theorem MS{place:Nat->Option (Nat×Nat×Gj)}{η:Nat->BZ}{H:Hp}{a:Act} :∀ {ps:List (Nat×El)} {l d:SV N.T} {cs:List BZ},Sk P C S place ps l=Ac d->l.is C η H (.agg cs.toArray)->(∀p∈ps,(Ax S p.2).is C η H (a.eval p.2))->
  ∃cs':List BZ,mU (λi=>(place i).map λq=>(q.1,q.2.1)) cs.toArray (ps.map λp=>(p.1,a.eval p.2))=Ac cs'.toArray/\d.is C η H (.agg cs'.toArray)
 | [],l,d,cs,h,c,_=>by cases h;exact⟨cs,rfl,c⟩
 |(i,x)::ps,l,d,cs,h,c,m=>by
  unfold Sk at h;split at h
  ·rename_i off size t j;split at h
   ·rename_i A n f b;split at h;· rename_i v;have e:=AI v;subst e;obtain⟨w,y,z,B⟩:=Vk b (Aak (Aax f) (RN c)) (T1 (m (i,x) (by simp))) c;subst z;obtain⟨cs',s,u⟩:=MS h w λp g=>m p (by simp[g]);refine⟨cs',?_,u⟩;rw[Aar,Ks (off:=off) (size:=(a.eval x).cells.toList.length) (by simp[j]) (by simp) (by simpa using y)];omega
    grind
   grind
  grind
def vL:SV N.T->Bool
 | .lf _ a l=>match a with
  | .raw (.slice C5 0 0)=>Bp
  | .AG _=>Bp
  |_=>vL l
 |_=>Aj
def uL(P:GG)(C:List (SV N.T))(t:Gj)(l:SV N.T):SV N.T:=match LW N P t with
 |some a=>match a.agg with
  |true=>match vL l,KD N C 64 a l with
   |false,Ac (x, .nl)=> .d a x
   |_,_=>l
  |false=>l
 |none=>l
theorem cU{l:SV N.T}{cs:List BZ}(h:l.is C η H (.agg cs.toArray)):(uL P C t l).is C η H (.agg cs.toArray):=by
 unfold uL;split
 ·split
  ·rename_i d;split
   ·rename_i x _ f;obtain⟨g,b,e,c,a⟩:=EG f h;have a:BZ.agg b.toArray= .agg #[]:=a;have a:b=[]:=by simpa using a
    subst a;rw[Adi]at e;subst e;refine⟨cs,c,?_⟩;unfold CJ;rw[d]
   trivial
  omega
 omega
def uG(P:GG)(fs:List Field)(i:Nat):Option (Nat×Nat×Gj):=match fs[i]? with
 |some f=>match P.info? f.type with
  |some a=>Ac (f.offset,a.size,f.type)
  |none=>C5
 |none=>C5
def ry(
     P:GG) (C:List (SV N.T)) (S:Nat->SV N.T) (nk:Nat) (t:Gj) (ps:List (Nat×El)) (k:Bw N.T->Nat->Option R):Option R:=match P.info? t with
 |some c=>
       match c.zero with
  |some z=>match eI N P 64 [t] z.cells.toList with
   |some d=>match P.underlying t with
    |some (.struct f)=>match(placesOf P t).isSome,Sk P C S (uG P f.toList) ps d with
     |true,Ac l=>match ER (uL P C t l)with
      |true=>k ⟨uL P C t l,[],[]⟩ nk
      |false=>C5
     |_,_=>C5
    |some (.array _ e)=>match P.info? e with
     |some b=>match b.zero.isSome,Sk P C S (λi=>Ac (i*b.size,b.size,e)) ps d with
      |true,Ac l=>match ER (uL P C t l)with
       |true=>k ⟨uL P C t l,[],[]⟩ nk
       |false=>C5
      |_,_=>C5
     |none=>C5
    |_=>C5
   |none=>C5
  |none=>C5
 |none=>C5
theorem Mo:∀(l:List Field) (ps:List (Nat×Nat)),(l.mapM λf=>(P.info? f.type).map λi=>(f.offset,i.size))=Ac ps->∀i,ps[i]?=(uG P l i).map λq=>(q.1,q.2.1)
 | [],ps,h,i=>by grind[uG]
 |f::l,ps,h,i=>by
  cases a:P.info? f.type with
  |none=>grind
  |some c=>
   cases b:(l.mapM λf=>(P.info? f.type).map λi=>(f.offset,i.size))with
   |none=>grind
   |some d=>
    simp[a,b]at h;subst h;cases i with
    |zero=>grind[uG]
    |succ i=>
     have:=Mo l d b i;simpa [uG]using this
theorem o8{ps:List (Nat×El)}(D:o.op= .build t ps.toArray)(h:ry P C S nk t ps k=Ac r):A1 P C S Rr nk o k r:=by
 have m:∀ {η:Nat->BZ} {H:Hp} {a:Act},(∀x∈o.op.operands,(Ax S x).is C η H (a.eval x))->∀p∈ps,(Ax S p.2).is C η H (a.eval p.2):=λs p I=>s p.2 (by grind[ZQ]);unfold ry at h;split at h
 ·rename_i g G;split at h
  ·rename_i z J;split at h
   ·rename_i Q j;have n:TI P t g.size g.bytes z:=⟨g,G,rfl,rfl,J⟩;split at h
    ·rename_i F E;split at h
     ·rename_i l b B;split at h;· rename_i d;refine .y h (Abv λη H O a s _=>?_) λ_ _=>Dx d;have f:=J0 (C:=C) (η:=η) (H:=H) j;obtain⟨u,v,w⟩:=MS (a:=a) B f (m s);obtain⟨L,b⟩:=Abk.1 b;refine⟨.agg u.toArray,?_,cU w⟩;rw[D];refine Ako (vcs:=_) (zs:=z.cells) b n rfl (JD ps) rfl ?_;rw[<-fill_eq];unfold placesOf at b;rw[E]at b;have e:(λi=>L[i]?)=λi=>(uG P F.toList i).map λq=>(q.1,q.2.1):=funext λi=>Mo _ _ b i;rw[e];simpa using v
      ·cases h
     ·cases h
    ·rename_i len e E;split at h
     ·rename_i K A;split at h
      ·rename_i l c B;split at h;· rename_i d;refine .y h (Abv λη H O a s _=>?_) λ_ _=>Dx d;have f:=J0 (C:=C) (η:=η) (H:=H) j;obtain⟨u,v,w⟩:=MS (a:=a) B f (m s);obtain⟨M,c⟩:=Abk.1 c;refine⟨.agg u.toArray,?_,cU w⟩;rw[D];refine Au.rl (zs:=z.cells) E n ⟨K,A,rfl,rfl,c⟩ rfl (JD ps) ?_;simpa using v
       ·cases h
      ·cases h
     ·cases h
    trivial
   grind
  grind
 grind
def eU(C:List (SV N.T)):Nat->SV N.T->Nat->Option (SV N.T)
 |0,_,_=>C5
 |b+1,l,n=>match Hc n 0 with
  |true=>Ac .nl
  |false=>match l with
   | .lf s a r=>match iK s n with
    |true=>(eU C b r (n-s)).map (.lf s (res C a))
    |false=>C5
   |_=>C5
theorem U8{η:Nat->BZ}{H:Hp} :∀ {fu:Nat} {l r:SV N.T} {n:Nat} {cs:List BZ},eU C fu l n=Ac r->l.is C η H (.agg cs.toArray)->r.is C η H (.agg (cs.take n).toArray)/\n<=cs.length
 |0,_,_,_,_,h,_=>by cases h
 |fu+1,l,r,n,cs,h,m=>by
  unfold eU at h;split at h;· rename_i c;have:=AI c;cases h;simp_all[Aef,ZX,Abh]
  ·split at h
   ·split at h;· rename_i c;obtain⟨x,f,rfl⟩:=Pd.1 h;have c:=Aax c;obtain⟨t,v,u,rfl,e,g,d,i,j⟩:=Fx m;obtain⟨p,w⟩:=U8 f j;grind[K1,EO,List.take_append,wH]
    grind
   grind
def wY(P:GG)(t:Gj):Bool:=match P.underlying t with
 |some d=>DI d
 |none=>Aj
def pR(P:GG)(C:List (SV N.T))(nk:Nat)(b off:Nat)(l:SV N.T)(t:Gj)(k:Bw N.T->Nat->Option R):Option R:=match P.underlying t,P.info? t with
 |some d,Ac c=>match DI d&&c.zero.isSome,Ss N 64 l off with
  |true,Ac e=>match eU C 64 e c.size with
   |some (.lf s a f)=>k ⟨.lf s a f,[b],[]⟩ nk
   |_=>C5
  |_,_=>C5
 |_,_=>C5
def gv(P:GG)(C:List (SV N.T))(S:Nat->SV N.T)(Rr:Nat->Option (SR N.T))(nk:Nat)(t:Gj)(x:El)(k:Bw N.T->Nat->Option R):Option R:=match Ax S x with
 | .loc b off=>match Rr b with
  |some (.Ai _ l)=>match wY P t with
   |false=>vV P C S Rr nk t x k
   |true=>match ET N C l off (LW N P t)with
    |some (.d _ _)=>vV P C S Rr nk t x k
    |_=>pR P C nk b off l t k
  |_=>C5
 |_=>vV P C S Rr nk t x k
theorem ZK{x:El}(j:o.op= .load t x)(v:∃τ,Ni Rr S τ)(h:gv P C S Rr nk t x k=Ac r):A1 P C S Rr nk o k r:=by
 have D:∀ {η:Nat->BZ} {H:Hp} {a:Act},(∀x∈o.op.operands,(Ax S x).is C η H (a.eval x))->(Ax S x).is C η H (a.eval x):=λE=>E x (by grind[ZQ]);unfold gv at h;split at h
 ·rename_i b off Z;split at h
  ·rename_i g l U;have u:pR P C nk b off l t k=Ac r->A1 P C S Rr nk o k r:=λh=>by
    unfold pR at h;split at h
    ·rename_i d c V W;split at h
     ·rename_i l1 F w;split at h
      ·rename_i s a l2 A;rw[AT]at F;obtain⟨z,G⟩:=Abk.1 F.2;refine .y h (Abv λη H O J E Y=>?_) λ_ _=>trivial;obtain⟨B,K,L⟩:(SV.loc b off:SV N.T).is C η H (J.eval x):=by rw[<-Z];exact D E
       rcases Y b (by simp) _ U with e|⟨X,i,Q,I,cs,p,M,T⟩;· cases e
       rw[K]at p;have p:B=I:=by simpa [ptr]using p
       subst p;subst M;obtain⟨k1,k2⟩:=MW (cs:=cs.toList) w T;obtain⟨k3,k4⟩:=U8 A k1;have f:((cs.toList.drop off).take c.size).length=c.size:=by rw[Abg];exact Adh k4
       refine⟨.agg ((cs.toList.drop off).take c.size).toArray,?_,k3⟩;rw[j];exact Aji V F.1 (by rw[f];exact⟨c,W,rf,rf,G⟩) (congrArg Ac L) Q (by rw[f])
      trivial
     grind
    grind
   grind[my]
  grind
 grind[my]
end
end
section
variable{Y:List (Nat×Aw)}{k:Nat}{r:Aw}{b j a:Nat}
def Jk(Y:List (Nat×Aw))(k a:Nat)(r:Aw):List (Nat×Aw):=Y.map λp=>match Hc p.1 k with
 |true=>(a,r)
 |false=>p
theorem Z0(Y:List (Nat×Aw))(k a:Nat)(r:Aw):(Jk Y k a r).map (·.2)=(Ib Y k r).map (·.2):=by grind[Jk,Ib,List.map_map,List.map_congr_left]
theorem Oh(h:j∈keys (Jk Y k b r)):j=b\/(j∈keys Y/\j≠k):=by
 unfold keys Jk at h;rw[Aal]at h;obtain⟨p,c,e⟩:=By.1 h;simp only[Function.comp]at e;cases a:Hc p.1 k with
 |true=>grind
 |false=>rw[a]at e;subst e;exact .inr ⟨By.2 ⟨p,c,rfl⟩,Abe a⟩
theorem gg(c:(keys Y).Nodup)(i:b∉keys Y):(keys (Jk Y k b r)).Nodup:=by
 induction Y with
 |nil=>exact c
 |cons p Y d=>
  obtain⟨q,y⟩:=p;simp only[keys,Aar,Aaz,Aav,not_or]at c i;have d:=d c.2 i.2;have tail:∀j,j∈keys (Jk Y k b r)->j=b->k∈keys Y:=λj g e=>by
   unfold keys Jk at g;rw[Aal]at g;obtain⟨p,l,m⟩:=By.1 g;cases f:Hc p.1 k with
   |true=>rw[<-AI f];exact By.2 ⟨p,l,rfl⟩
   |false=>grind
  show(keys ((match Hc q k with|true=>(b,r)|false=>(q,y))::Jk Y k b r)).Nodup;cases f:Hc q k with
  |true=>
   have:=AI f;subst this;exact Aaz.2 ⟨λh=>c.1 (tail _ h rfl),d⟩
  |false=>
   refine Aaz.2 ⟨λh=>?_,d⟩;rcases Oh h with e|⟨e,_⟩;· grind
   ·exact c.1 e
theorem Z1{x:Aw}(h:Ay Y k=Ac x)(b:a∉keys Y):Ay (Jk Y k a r) a=Ac r:=by
 induction Y with
 |nil=>cases h
 |cons p Y d=>
  obtain⟨q,y⟩:=p;simp only[keys,Aar,Aav,not_or]at b;simp only[Ay]at h;show Ay ((match Hc q k with|true=>(a,r)|false=>(q,y))::Jk Y k a r) a=Ac r;cases c:Hc q k with
  |true=>grind[CD]
  |false=>
   rw[c]at h;rw[A3 (λe=>b.1 e.symm)];exact d h b.2
theorem gf(h1:j≠k)(h2:j≠a):Ay (Jk Y k a r) j=Ay Y j:=by
 induction Y with
 |nil=>rfl
 |cons p Y c=>
  obtain⟨q,y⟩:=p;show Ay ((match Hc q k with|true=>(a,r)|false=>(q,y))::Jk Y k a r) j=Ay ((q,y)::Y) j;cases b:Hc q k with
  |true=>
   have:=AI b;subst this;simp_all[A3,Ne.symm]
  |false=>
   grind[Ay,Jk,Hc]
end
section
variable {N : C7} {R : Type} {P : GG} {C : List (SV N.T)} {S : Nat -> SV N.T} {Rr : Nat -> Option (SR N.T)} {nk : Nat} {o : KV} {k : Bw N.T -> Nat -> Option R} {r : R}
section
variable{H:Hp}{t:Gj}{O:List Aw}{a:Act}{T:Gj}{x:El}{e:Gj}{E:El->Option BZ}{q:El}{n:Nat}{op:Op}{X:BZ->Hp->List Aw->Prop}{s:El}{η:Nat->BZ}{p:El}
theorem Aia{sv:SV N.T}{E:List Nat}{k f:Nat}{q F:SR N.T}(X:Rr k=Ac q)(h0:q≠ .gone)(l:Rr f=C5)
  (h:∀(η:Nat->BZ) (H:Hp) (O:List Aw) (a:Act) (x:Aw) (i:Nat),(∀x∈o.op.operands,(Ax S x).is C η H (a.eval x))->O[i]?=Ac x->q.is C η H k x->(∀k∈E,∀g,Rr k=Ac g->g= .gone\/∃(x:Aw) (i:Nat),O[i]?=Ac x/\g.is C η H k x)->
   BM P o.op o.type (EV a) H O (λv s A=>s=H/\∃p b,A=O.set i p/\F.is C (Ev η f b) H f p/\sv.is C (Ev η f b) H v)):
  Ap P C S Rr o ⟨sv,E,[(f,F),(k, .gone)]⟩:=by
 intro η H t a w Y y hs hi hx D d K Q V;have m:=d f (by simp[keys]) l;rcases D k (.inr (by simp[keys])) q X with e|⟨x,B,M⟩;· grind
 obtain⟨i,T,U⟩:=Ja t y B;refine h η H (Y.map (·.2)++t) a x i hx T M (λj c g z=>(D j (.inl c) g z).imp id λ⟨x,q1,q2⟩=>by obtain⟨i,q3,_⟩:=Ja t y q1;grind) a w o K Q rfl rfl (λx u e=>by grind) hs λv w' s A Z ⟨G,p,b,I,J,L⟩ n=>?_;subst G;subst I;rw[U,<-Z0 Y k f]at n;refine V v w' s (Ev η f b) (Jk Y k f p) (Hp.le.refl _) (λj c=>ED λe=>?_) (λj c=>gf (λe=>c (by subst e;simp[keys])) (λe=>c (by subst e;simp[keys]))) (λj g c=>?_) (gg y m) (λj c=>?_) n L;· subst e;exact c l (by simp[keys])
 ·simp only[Ay]at c;split at c;· rename_i W;have:=AI W;subst this;cases c;exact .inr ⟨p,Z1 B m,J⟩
  ·split at c;· cases c;exact .inl rfl
   trivial
 ·rcases Oh c with e|⟨e,_⟩;· subst e;exact .inr (by simp[keys])
  ·exact .inl e
theorem A1.mov{sv:SV N.T}{a:List Nat}{b:Nat}{f c:SR N.T}(h:k ⟨sv,a,[(nk,c),(b, .gone)]⟩ (nk+1)=Ac r)(h0:Rr b=Ac f)(d:Ap P C S Rr o ⟨sv,a,[(nk,c),(b, .gone)]⟩)(e:∀τ Rr,D5 τ Rr sv):A1 P C S Rr nk o k r:=
 ⟨_,nk+1,h,d,Ahb _,λj g i=>(by grind[keys]),λτ _=>e τ _⟩
def M5(P:GG)(e:Gj):Nat:=match P.info? e with
 |some a=>match iK a.bytes 64 with
  |true=>Ah
  |false=>4294967296
 |none=>4294967296
def C_(P:GG)(e:Gj)(n:Nat):Bool:=match P.info? e with
 |some a=>match a.zero with
  |some z=>(Hc a.size n&&Hc z.cells.size n)&&(iK a.bytes 16384&&(az 0 n&&iK n 16777216))
  |none=>Aj
 |none=>Aj
theorem D9{e:Nat}(h:C_ P e n=Bp):∃bytes z,TI P e n bytes z/\z.cells.size=n/\0<n/\(∀m,m<=M5 P e->m<=Ah/\m*bytes<=70368744177664)/\n<=16777216:=by
 unfold C_ at h;split at h
 ·rename_i a d;split at h
  ·rename_i z j;simp only[AT]at h;obtain⟨⟨f,g⟩,c,l,p⟩:=h;refine⟨a.bytes,z,⟨a,d,AI f,rfl,j⟩,AI g,by simp_all,λm b=>?_,by simp_all⟩;unfold M5 at b;rw[d]at b;simp only at b;have c:a.bytes<=16384:=Aax c;split at b;· rename_i i;have:=Abw b (Aax i);grind
   ·have:=Abw b c;grind
  grind
 grind
theorem BM.IE{size:Nat}(h:BM P op T E H (.row (.slice C5 0 0) e size 0 []::O) X):BM P op T E H O X:=
 λa w o next Q d b c f k=>h a w o next Q d b c (f.IE e size) k
theorem BM.emp(h:BM P op T E H (.emp::O) X):BM P op T E H O X:=
 λa w o next Q f c e g k=>h a w o next Q f c e (g.push (IG.grownBy.refl w C5) trivial (λb d=>by cases d)) k
def WY(S:Nat->SV N.T)(Rr:Nat->Option (SR N.T))(b:Ty)(x:El):Option (List (b.den N.T)×List Nat):=match Ax S x with
 | .AG j=>match Rr j with
  |some (.row _ t2 a)=>(Qe N.T (.sl t2) (.sl b)).map λf=>(f a,[j])
  |_=>C5
 | .d (.sl t2) a=>(Qe N.T (.sl t2) (.sl b)).map λf=>(f a,[])
 |_=>C5
theorem Lt{d:Ty}{s:List (d.den N.T)}{y:List Nat}(h:WY S Rr d x=Ac (s,y))(m:(Ax S x).is C η H (a.eval x))(G:∀k∈y,∀t,Rr k=Ac t->t= .gone\/∃(x:Aw) (i:Nat),O[i]?=Ac x/\t.is C η H k x):
  ∃ys,A2 (N.c d) H s ys/\∀w,SH w H O->GK.Src w (a.eval x) (d.sz N) s.length ys:=by
 unfold WY at h;split at h
 ·rename_i j b;rw[b]at m;split at h
  ·rename_i g t2 l F;obtain⟨f,q,e⟩:=Pd.1 h;cases e;obtain⟨p,rfl⟩:=BA q;have A:=Adn p;have n:t2=d:=by grind
   subst n;rcases G j (by simp) _ F with e|⟨X,i,c,ys,z,E⟩;· grind
   subst z;rw[<-m.1]at c;exact⟨ys,E,λw b=>b.n8 c⟩
  grind
 ·rename_i t2 l b;rw[b]at m;obtain⟨f,q,e⟩:=Pd.1 h;cases e;obtain⟨p,rfl⟩:=BA q;have A:=Adn p;have n:t2=d:=by grind
  subst n;obtain⟨J,c,D⟩:=m;subst D;obtain⟨v,I,c⟩:∃v,[a.eval x]=[v]/\GY (N.c t2) H l v:=c;cases I;obtain⟨⟨ys,u,B⟩,_⟩:=c;rw[Bn]at u;exact⟨ys,B,λw b=>b.TC u⟩
 grind
def rK(P:GG)(S:Nat->SV N.T)(Rr:Nat->Option (SR N.T))(nk:Nat)(s x:El)(t:Gj)(k:Bw N.T->Nat->Option R):Option R:=match P.underlying t with
 |some (.slice e)=>match Ax S s with
  | .AG b=>match Rr b with
   |some (.row g a l)=>match Hc g e&&C_ P e (a.sz N),WY S Rr a x with
    |true,Ac (c,f)=>Af (l.length+c.length<=M5 P e) (k ⟨.AG nk,f,[(nk, .row g a (l++c)),(b, .gone)]⟩ (nk+1))
    |_,_=>C5
   |_=>C5
  | .raw (.slice C5 0 0)=>match LW N P e with
   |some a=>match C_ P e (a.sz N),WY S Rr a x with
    |true,Ac (c,f)=>Af (([]:List (a.den N.T)).length+c.length<=M5 P e) (k ⟨.AG nk,f,[(nk, .row e a ([]++c))]⟩ (nk+1))
    |_,_=>C5
   |none=>C5
  |_=>C5
 |_=>C5
theorem QA{b:Ty}{l f:List (b.den N.T)}{xs ys:List BZ}{i:Nat}{v:BZ}(ht:P.underlying t=Ac (.slice e))(p:C_ P e (b.sz N)=Bp)(y:a.eval s=v)
  (hi:O[i]?=Ac (.row v e (b.sz N) l.length xs)) (D:A2 (N.c b) H l xs) (A:A2 (N.c b) H f ys) (d:∀w,SH w H O->GK.Src w (a.eval x) (b.sz N) f.length ys) (hc:l.length+f.length<=M5 P e):
  BM P (.call {callee:= .builtin .append,args:= #[s,x],argTypes:= #[t,t]}) T (EV a) H O (λv' j m=>(j=H/\m=O.set i (.row v' e (b.sz N) (l++f).length (xs++ys)))/\v'.oneCell'=Bp):=by
 obtain⟨bytes,z,B,h,n,q,_⟩:=D9 p;obtain⟨hc,u⟩:=q _ hc;refine Age i ((BM.append ht B h n (congrArg Ac y) rfl hi d A.one (by omega) (by grind)).mono ?_) ?_;all_goals grind
theorem pe(I:o.op= .call {callee:= .builtin .append,args:= #[s,x],argTypes:= #[t,t]})(G:∀j,nk<=j->Rr j=C5)(h:rK P S Rr nk s x t k=Ac r):A1 P C S Rr nk o k r:=by
 have q:∀ {η:Nat->BZ} {H:Hp} {a:Act},(∀x∈o.op.operands,(Ax S x).is C η H (a.eval x))->(Ax S s).is C η H (a.eval s):=λf=>f s (by grind[ZQ,fT]);have u:∀ {η:Nat->BZ} {H:Hp} {a:Act},(∀x∈o.op.operands,(Ax S x).is C η H (a.eval x))->(Ax S x).is C η H (a.eval x):=λf=>f x (by simp_all[ZQ,fT]);unfold rK at h;split at h
 ·rename_i e J;split at h
  ·rename_i b v;split at h
   ·rename_i g K l F;split at h;· rename_i Z rd p d;replace h:=AE h;obtain⟨hc,h⟩:=h;rw[AT]at p;have T:=AI p.1;subst T;refine .mov h F (Aia F (by simp) (G nk (Aae _)) λη H O a X i f V W B=>?_) λ_ _=>trivial;obtain⟨xs,U,E⟩:=W;subst U;have y:=q f;rw[v]at y;obtain⟨L,z,m⟩:=Lt d (u f) B;rw[I];refine(QA J p.2 y.1 V E z m hc).mono ?_;rintro D M Q ⟨⟨rfl,rfl⟩,A⟩;exact⟨rfl,_,D,rfl,⟨_,by rw[AA],E.app z⟩,by rw[AA],A⟩
    grind
   grind
  ·rename_i v;split at h
   ·rename_i K Y;split at h
    ·rename_i Z rd p d;replace h:=AE h;obtain⟨hc,h⟩:=h;refine .new h (Afj (G nk (Aae _)) λη H O a f B=>?_) λ_ _=>trivial;have y:=q f;rw[v]at y;obtain⟨L,z,m⟩:=Lt d (u f) B;rw[I];refine BM.IE ((QA (i:=0) (l:=[]) (xs:=[]) J p y rfl rfl z (λw v=>m w ?_) hc).mono ?_);· have:=v.mQ 1;simpa using this
     ·rintro D M Q ⟨⟨rfl,rfl⟩,A⟩;exact⟨rfl,_,D,rfl,⟨[]++L,by rw[AA],A2.app (c:=N.c K) (l:=[]) (xs:=[]) rfl z⟩,by rw[AA],A⟩
    ·cases h
   trivial
  grind
 grind
theorem Z2{c:Ty}{x:c.den N.T}{kl n:Lc}{m bytes:Nat}{z:BZ}(ht:P.underlying t=Ac (.slice e))(I:TI P e (c.sz N) bytes z)(h:∀m,m<=M5 P e->m<=Ah/\m*bytes<=70368744177664)(h0:0<c.sz N)(V:a.eval p= .int kl (m:Int))(hc:a.eval q= .int n (m:Int))
  (l:m<=M5 P e) (j:(N.c c).BP H x z.cells.toList):
  BM P (.makeSlice t p q) T (EV a) H O (λv s y=>(s=H/\∃xs,y= .row v e (c.sz N) (TO m x).length xs::O/\A2 (N.c c) H (TO m x) xs)/\v.oneCell'=Bp):=by
 refine Age 0 (.Ao λM w o W _ U G=>?_) ?_
 ·obtain⟨i,F,A,Q,B⟩:=I.ex;obtain⟨l,E⟩:=h _ l;obtain⟨L,X,J,K⟩:=run_make_full (P:=P) (w:=w) 0 t e i z (c.sz N) ht F B A kl n m (by grind) (by simp only[maxLen,Ah]at*;omega) (Abh _);have D:A2 (N.c c) H (TO m x) (madeCells z.cells (m*c.sz N)).toList:=by
   grind[Aib,Bn]
  refine⟨_,L,H,_,?_,Hp.le.refl H,⟨rf,_,by rw[Afk],D⟩,G.push (r:= .row (.slice (Ac ⟨w.heap.size,0,C5⟩) m m) e (c.sz N) m (madeCells z.cells (m*c.sz N)).toList) K J (λb h=>by grind[Aw.has,BZ.ownBlock])⟩;simp_all[Ki]
 grind
def natI(y:Int)(k:Nat->Option R):Option R:=Af (0<=y) (k y.toNat)
def ga(s:SV N.T)(k:Nat->Option R):Option R:=match s with
 | .na n| .ct _ n| .cb _ n=>k n
 | .raw (.int _ (.ofNat n))=>k n
 | .d (.int _) y=>natI y k
 |_=>C5
theorem Og{s:SV N.T}{c:Nat->Option R}(h:ga s c=Ac r):∃n,c n=Ac r/\∀ {η:Nat->BZ} {H:Hp} {v:BZ},s.is C η H v->∃b,v= .int b (n:Int):=by
 unfold ga at h;split at h;· exact⟨_,h,λa=>⟨_,a.1⟩⟩
 ·exact⟨_,h,λa=>⟨_,a.1⟩⟩
 ·exact⟨_,h,λa=>⟨_,a.1⟩⟩
 ·exact⟨_,h,λa=>⟨_,a⟩⟩
 ·rename_i b y;obtain⟨g,f⟩:=AE (p:=(0:Int)<=(show Int from y)) h;refine⟨_,f,λa=>⟨b,?_⟩⟩;have e:=AU (C:=C) (s:= .d (.int b) y) rfl a;grind
 grind
def zl(P:GG)(S:Nat->SV N.T)(nk:Nat)(t:Gj)(p q:El)(k:Bw N.T->Nat->Option R):Option R:=match P.underlying t with
 |some (.slice e)=>match LW N P e,P.info? e with
  |some b,Ac a=>match a.zero with
   |some z=>match parse N 16 b z.cells.toList,C_ P e (b.sz N),sameO p q with
    |some (x,[]),Bp,Bp=>ga (Ax S p) λm=>Af (m<=M5 P e) (k ⟨.AG nk,[],[(nk, .row e b (TO m x))]⟩ (nk+1))
    |_,_,_=>C5
   |none=>C5
  |_,_=>C5
 |_=>C5
 where
 sameO:El->El->Bool
  | .tmp i, .tmp j=>Hc i j
  | .const (.int _ i), .const (.int _ j)=>match i,j with
   | .ofNat i, .ofNat j=>Hc i j
   |_,_=>Aj
  |_,_=>Aj
theorem vC(T:o.op= .makeSlice t p q)(L:∀j,nk<=j->Rr j=C5)(h:zl P S nk t p q k=Ac r):A1 P C S Rr nk o k r:=by
 have i:∀ {η:Nat->BZ} {H:Hp} {a:Act},(∀x∈o.op.operands,(Ax S x).is C η H (a.eval x))->(Ax S p).is C η H (a.eval p):=λs=>s p (by grind[ZQ]);unfold zl at h;split at h
 ·rename_i e U;split at h
  ·rename_i te u V M;split at h
   ·rename_i z W;split at h
    ·rename_i x l I b;obtain⟨m,h,Q⟩:=Og (C:=C) h;replace h:=AE h;obtain⟨hc,h⟩:=h;obtain⟨bytes,z',f,_,E,K,_⟩:=D9 I;refine .new h (Afj (L nk (Aae _)) λη H O a s hr=>?_) λ_ _=>trivial;obtain⟨Y,n⟩:=Q (i s);have c:∃g,a.eval q= .int g (m:Int):=by
      unfold zl.sameO at b;split at b;· have:=AI b;subst this;exact⟨Y,n⟩
      ·split at b;· have:=AI b;subst this;injection n with h1 F;exact⟨_,by show BZ.int _ _=_;rw[F]⟩
       ·cases b
      grind
     obtain⟨g,c⟩:=c;obtain⟨X,y,g1,g2,A⟩:=f.ex;have B:X=u:=by rw[M]at y;exact(Abp y).symm
     subst B;have D:z'=z:=by rw[W]at A;exact(Abp A).symm
     subst D;obtain⟨pre,w,d⟩:=CC (H:=H) l;rw[Adi]at w;rw[T];refine(Z2 U f K E n c hc (by rw[w];exact d)).mono ?_;rintro v H' O' ⟨⟨rfl,Z,rfl,J⟩,G⟩;exact⟨rfl,_,v,rfl,⟨Z,by rw[AA],J⟩,by rw[AA],G⟩
    grind
   grind
  grind
 grind
def ib(C:List (SV N.T))(S:Nat->SV N.T)(a:Ty):Nat->List (Nat×El)->Option (List (a.den N.T))
 |_,[]=>Ac []
 |i,(j,x)::ps=>match Hc i j,Tq C a (Ax S x),ib C S a (i+1) ps with
  |true,Ac y,Ac l=>Ac (y::l)
  |_,_,_=>C5
theorem V5{f:Ty}{n:Nat}(g:f.sz N=n){η:Nat->BZ}{H:Hp}{a:Act} :∀ {ps:List (Nat×El)} {i:Nat} {l:List (f.den N.T)} {cs:List BZ},ib C S f i ps=Ac l->(∀p∈ps,(Ax S p.2).is C η H (a.eval p.2))->cs.length=(i+ps.length)*n->
  ∃xs,mU (λi=>Ac (i*n,n)) cs.toArray (ps.map λp=>(p.1,a.eval p.2))=Ac (cs.take (i*n)++xs).toArray/\A2 (N.c f) H l xs/\l.length=ps.length
 | [],i,l,cs,h,_,hc=>by cases h;refine⟨[],?_,rfl,rfl⟩;grind[mU]
 |(j,x)::ps,i,l,cs,h,m,hc=>by
  unfold ib at h;split at h
  ·rename_i y F v D w;cases h;have e:=AI v;subst e;obtain⟨q,E⟩:=CN (DH D (m (i,x) (by simp)));have b:=Bf q;rw[g]at b;simp only[Abn]at hc;have z:i*n+n<=cs.length:=by grind
   have B:(Cq cs (i*n) (a.eval x).cells.toList).length=(i+1+ps.length)*n:=by grind[Cq]
   obtain⟨xs,s,t,u⟩:=V5 g w (λp A=>m p (by grind)) B;refine⟨(a.eval x).cells.toList++xs,?_,⟨_,xs,rfl,q,t⟩,by simp[u]⟩;rw[Aar,Ks (off:=i*n) (size:=n) rfl (by simpa using b) (by simp at b⊢;omega)];rw[s];rw[<-Aaj];unfold Cq;rw[Ach (by simp[b,Aeb];omega),Abm (by simp[b,Aeb];omega)]
  grind
def bsK(P:GG)(C:List (SV N.T))(S:Nat->SV N.T)(nk:Nat)(t:Gj)(len:Nat)(ps:List (Nat×El))(k:Bw N.T->Nat->Option R):Option R:=match P.underlying t with
 |some (.slice e)=>match LW N P e with
  |some a=>match C_ P e (a.sz N),Hc ps.length len&&(az 0 len&&iK (len*a.sz N) 16777216),ib C S a 0 ps with
   |true,Bp,Ac l=>k ⟨.AG nk,[],[(nk, .row e a l)]⟩ (nk+1)
   |_,_,_=>C5
  |none=>C5
 |_=>C5
theorem vF{len:Nat}{ps:List (Nat×El)}(U:o.op= .buildSlice t len ps.toArray)(Q:∀j,nk<=j->Rr j=C5)(h:bsK P C S nk t len ps k=Ac r):A1 P C S Rr nk o k r:=by
 have n:∀ {η:Nat->BZ} {H:Hp} {a:Act},(∀x∈o.op.operands,(Ax S x).is C η H (a.eval x))->∀p∈ps,(Ax S p.2).is C η H (a.eval p.2):=λs p Y=>s p.2 (by grind[ZQ]);unfold bsK at h;split at h
 ·rename_i e V;split at h
  ·rename_i w W;split at h
   ·rename_i l L f T;simp only[AT]at f;obtain⟨g,m,M⟩:=f;have I:=AI g;subst I;obtain⟨bytes,z,q,X,J,f,_⟩:=D9 L;refine .new h (Afj (Q nk (Aae _)) λη H O a s Z=>?_) λ_ _=>trivial;have b:(((Array.range (ps.length*w.sz N)).map (z.cells[· %z.cells.size]!)).toList:List BZ).length=(0+ps.length)*w.sz N:=by simp
    obtain⟨E,y,A,B⟩:=V5 (C:=C) (η:=η) (H:=H) (a:=a) rfl T (n s) b;rw[Aei,Aef,Acd,Array.toArray_toList]at y;have u:=A.len;rw[Bn,B]at u;rw[U];refine BM.emp ((Age 0 (Ajy (ρ:=λ_=>undef) (i:=0) 0 V q rfl (by omega) (by simpa using Nat.mul_pos (by simpa using m) J) (JD ps) y (by omega) rfl) ?_).mono ?_);· rintro v F G ⟨rfl,rfl,D⟩;refine⟨e,w.sz N,ps.length,E,?_⟩;rfl
    ·rintro v F G ⟨⟨rfl,rfl,D⟩,K⟩;rw[D];exact⟨rfl,_,v,rfl,⟨E,by rw[AA,B],A⟩,by rw[AA],K⟩
   grind
  grind
 grind
def qR(P:GG)(S:Nat->SV N.T)(Rr:Nat->Option (SR N.T))(nk:Nat)(t:Gj)(x y:El)(k:Bw N.T->Nat->Option R):Option R:=match P.underlying t,Ax S x with
 |some (.slice e), .AG b=>match Rr b,intOf (Ax S y)with
  |some (.row g a l),Ac (_,h)=>match Hc g e&&C_ P e (a.sz N)with
   |true=>Af (0<=h/\h<=((l.length:Nat):Int)) (k ⟨.AG nk,[],[(nk, .row g a (l.take h.toNat)),(b, .gone)]⟩ (nk+1))
   |false=>C5
  |_,_=>C5
 |_,_=>C5
theorem oZ{y:El}(Q:o.op= .slice t x C5 (Ac y) C5)(K:∀j,nk<=j->Rr j=C5)(h:qR P S Rr nk t x y k=Ac r):A1 P C S Rr nk o k r:=by
 have p:∀ {η:Nat->BZ} {H:Hp} {a:Act},(∀x∈o.op.operands,(Ax S x).is C η H (a.eval x))->(Ax S x).is C η H (a.eval x):=λd=>d x (by grind[ZQ]);have q:∀ {η:Nat->BZ} {H:Hp} {a:Act},(∀x∈o.op.operands,(Ax S x).is C η H (a.eval x))->(Ax S y).is C η H (a.eval y):=λd=>d y (by grind[ZQ]);unfold qR at h;split at h
 ·rename_i e b U T;split at h
  ·rename_i g te l ik L u M;split at h
   ·rename_i m;replace h:=AE h;obtain⟨hc,h⟩:=h;rw[AT]at m;have D:=AI m.1;subst D;obtain⟨bytes,z,V,Y,h0,J,_⟩:=D9 m.2;refine .mov h u (Aia u (by simp) (K nk (Aae _)) λη H O a X i d f F hr=>?_) λ_ _=>trivial;obtain⟨xs,E,I⟩:=F;subst E;have v:=p d;rw[T]at v;have W:=AU (C:=C) M (q d);rw[<-v.1,<-Bn]at f;have n:i<O.length:=(IS.1 f).1;rw[Q];refine(Age i (Aka (c:=N.c te) (l:=l) U (by rw[Bn];omega) rfl (congrArg Ac W) f hc) ?_).mono ?_;· rintro w A B ⟨rfl,rfl⟩;exact⟨_,_,_,_,by rw[List.getElem?_set_self n]⟩
    ·rintro w A B ⟨⟨rfl,rfl⟩,G⟩;have s:=I.take L.toNat;refine⟨rfl,_,w,rfl,⟨_,by rw[AA,Bn,Abg,Adh (by omega)],?_⟩,by rw[AA],G⟩;rw[Bn]at s;exact s
   grind
  grind
 grind
end
end
section
variable {N : C7} {R : Type} {P : GG} {C : List (SV N.T)} {S : Nat -> SV N.T} {Rr : Nat -> Option (SR N.T)} {nk : Nat} {o : KV} {k : Bw N.T -> Nat -> Option R} {r : R}
section
variable{t tn:Gj}{x p q:El}
theorem cN{e:Gj}{T:Gj}{a:Act}{d:Ty}{x:d.den N.T}{kn A:Lc}{m bytes:Nat}{z:BZ}{H:Hp}{O:List Aw}(ht:P.underlying t=Ac (.slice e))(y:P.underlying tn=Ac (.int kn))(hz:TI P e (d.sz N) bytes z)(j:z.cells.size=d.sz N)(Z:m+1<=Ah)(G:(m+1)*bytes<=140737488355328)
  (h0:0<d.sz N) (hp:a.eval p= .slice C5 0 0) (hq:a.eval q= .int A ((m+1:Nat):Int)) (h:(N.c d).BP H x z.cells.toList):
  BM P (.call {callee:= .builtin .append,args:= #[p,q],argTypes:= #[t,tn]}) T (EV a) H O (λv B D=>(B=H/\∃xs,D= .row v e (d.sz N) (TO (m+1) x).length xs::O/\A2 (N.c d) H (TO (m+1) x) xs)/\v.oneCell'=Bp):=by
 refine Age 0 (.Ao λE w o ho W I hs=>?_) ?_
 ·obtain⟨i,Y,g1,F,M⟩:=hz.ex;have J:=Go.Lib.run_append_grow_zeros (P:=P) w t tn T e i z A kn ht y Y M C5 0 0 [] (by rfl) (m+1) (by omega) (by omega) (by omega) (by grind) (by grind) (by grind[Builtin.nextslicecap]);have V:A2 (N.c d) H (TO (m+1) x) (madeCells z.cells ((m+1)*d.sz N)).toList:=by
   grind[Aib,Bn]
  have L:oa z.cells (m+1)=madeCells z.cells ((m+1)*d.sz N):=by simp_all[oa,madeCells]
  have s:=grownCap_ge w (0+(m+1)) 0 e;have u:=grownCap_le_maxLen w (0+(m+1)) 0 e (by simp only[maxLen,Ah]at*;omega);have X:w.grownBy (w.drew.alloc (.cells (([]:List BZ).toArray++oa z.cells (m+1)++oa z.cells (grownCap w (0+(m+1)) 0 e-(0+(m+1)))) e)) C5:=by have:=IG.grownBy_alloc w.drew (.cells (([]:List BZ).toArray++oa z.cells (m+1)++oa z.cells (grownCap w (0+(m+1)) 0 e-(0+(m+1)))) e) C5;exact⟨this.os,this.tape,this.output,this.size,this.block⟩
  refine⟨.slice (Ac ⟨w.heap.size,0,C5⟩) (0+(m+1)) (grownCap w (0+(m+1)) 0 e),_,H,_,?_,Hp.le.refl H,⟨rf,_,by rw[Afk],V⟩,hs.push (r:= .row (.slice (Ac ⟨w.heap.size,0,C5⟩) (0+(m+1)) (grownCap w (0+(m+1)) 0 e)) e (d.sz N) (m+1) (madeCells z.cells ((m+1)*d.sz N)).toList) X ?_ (λb G=>by simp[Aw.has,BZ.ownBlock]at G;omega)⟩;· have Q:E.eval p= .slice C5 0 0:=I p _ (congrArg Ac hp);have U:E.eval q= .int A ((m+1:Nat):Int):=I q _ (congrArg Ac hq);simp only[Ki,ho,resolve,invoke,builtin];simp[Q,U,resolve,invoke,builtin,W]at J⊢;rw[J];rfl
  ·refine⟨by simp[size_madeCells], .inr ⟨w.heap.size,grownCap w (0+(m+1)) 0 e,([]:List BZ).toArray++oa z.cells (m+1)++oa z.cells (grownCap w (0+(m+1)) 0 e-(0+(m+1))),by rw[Abl],Abh _,(by show(w.heap.push _)[w.heap.size]?=_;simp),by omega,u,?_,?_⟩⟩;· simp[size_zeroCells,j];rw[<-Adp];congr 1;rw[Abl]at s;omega
   ·rw[L];simp[Adw,size_madeCells]
 grind
def rH(
     P:GG) (S:Nat->SV N.T) (nk:Nat) (p q:El) (t tn:Gj) (k:Bw N.T->Nat->Option R):Option R:=match P.underlying t,P.underlying tn,Ax S p with
 |some (
     .slice e),Ac (.int _), .raw (.slice C5 0 0)=>match LW N P e,P.info? e with
  |some b,Ac a=>match a.zero with
   |some z=>match parse N 16 b z.cells.toList,C_ P e (b.sz N)with
    |some (x,[]),Bp=>ga (Ax S q) λm=>match m with
     |0=>C5
     |m+1=>Af (m+1<=M5 P e) (k ⟨.AG nk,[],[(nk, .row e b (TO (m+1) x))]⟩ (nk+1))
    |_,_=>C5
   |none=>C5
  |_,_=>C5
 |_,_,_=>C5
theorem pa(l:o.op= .call {callee:= .builtin .append,args:= #[p,q],argTypes:= #[t,tn]})(T:∀j,nk<=j->Rr j=C5)(h:rH P S nk p q t tn k=Ac r):A1 P C S Rr nk o k r:=by
 have n:∀ {η:Nat->BZ} {H:Hp} {a:Act},(∀x∈o.op.operands,(Ax S x).is C η H (a.eval x))->(Ax S p).is C η H (a.eval p):=λd=>d p (by grind[ZQ,fT]);have s:∀ {η:Nat->BZ} {H:Hp} {a:Act},(∀x∈o.op.operands,(Ax S x).is C η H (a.eval x))->(Ax S q).is C η H (a.eval q):=λd=>d q (by simp_all[ZQ,fT]);unfold rH at h;split at h
 ·rename_i e kn X w W;split at h
  ·rename_i te A Y U;split at h
   ·rename_i z hz;split at h
    ·rename_i x u K;obtain⟨m,h,V⟩:=Og (C:=C) h;split at h;· cases h
     ·replace h:=AE h;obtain⟨hc,h⟩:=h;obtain⟨bytes,z',g,y,I,M,_⟩:=D9 K;obtain⟨i,Q⟩:=M _ hc;refine .new h (Afj (T nk (Aae _)) λη H O a d hr=>?_) λ_ _=>trivial;obtain⟨ik,Z⟩:=V (s d);have b:=n d;rw[W]at b;obtain⟨i',D,g1,g2,E⟩:=g.ex;have F:i'=A:=by rw[U]at D;exact(Abp D).symm
      subst F;have G:z'=z:=by rw[hz]at E;exact(Abp E).symm
      subst G;obtain⟨pre,B,f⟩:=CC (H:=H) u;rw[Adi]at B;rw[l];refine(cN X w g y i (by omega) I b Z (by rw[B];exact f)).mono ?_;rintro v H' O' ⟨⟨rfl,xs,rfl,L⟩,J⟩;exact⟨rfl,_,v,rfl,⟨xs,by rw[AA],L⟩,by rw[AA],J⟩
    trivial
   grind
  grind
 grind
def qS(P:GG)(S:Nat->SV N.T)(nk:Nat)(x:El)(t:Gj)(k:Bw N.T->Nat->Option R):Option R:=match P.underlying t,Ax S x with
 |some (.slice _), .raw (.slice C5 0 0)=>k ⟨.na 0,[],[]⟩ nk
 |_,_=>C5
theorem o0(f:o.op= .call {callee:= .builtin .cap,args:= #[x],argTypes:= #[t]})(h:qS P S nk x t k=Ac r):A1 P C S Rr nk o k r:=by
 unfold qS at h;split at h;· rename_i e j i;refine .y h (Abv λη H O a l _=>?_) λ_ _=>trivial;have c:=l x (by grind[ZQ,fT]);rw[i]at c;refine⟨.int .i64 ((0:Nat):Int),?_,rfl,Abh _⟩;rw[f];refine Au.Ao λm w n d _ g _=>?_;have:=g x _ (congrArg Ac c);simp[Ki,d,this,resolve,invoke,builtin,Builtin.cap_,AX j,goInt]
 grind
def qP(P:GG)(S:Nat->SV N.T)(nk:Nat)(t:Gj)(x y:El)(k:Bw N.T->Nat->Option R):Option R:=match P.underlying t,Ax S x,Ax S y with
 |some (.slice e), .raw (.slice C5 0 0), .na 0=>match(P.info? e).isSome with
  |true=>k ⟨.raw (.slice C5 0 0),[],[]⟩ nk
  |false=>C5
 |_,_,_=>C5
theorem fP{y:El}(f:o.op= .slice t x C5 (Ac y) C5)(h:qP P S nk t x y k=Ac r):A1 P C S Rr nk o k r:=by
 unfold qP at h;split at h
 ·rename_i e p n q;split at h;· rename_i d;obtain⟨s,d⟩:=Abk.1 d;refine .y h (Abv λη H O a j _=>?_) λ_ _=>trivial;have b:=j x (by grind[ZQ]);have c:=j y (by rw[f];simp[ZQ]);rw[n]at b;rw[q]at c;have c:a.eval y= .int .i64 ((0:Nat):Int):=c.1;refine⟨.slice C5 0 0,?_,rfl⟩;rw[f];refine Au.Ao λu w v g _ i _=>?_;have l:=i x _ (congrArg Ac b);have m:=i y _ (congrArg Ac c);simp[Ki,g,l,m,rj,Instr.slice,Instr.sliceBounds,Instr.sliceBound,AX p,sizeOf,typeInfo,d,asIntOf,asInt]
  grind
 grind
end
end
section
variable {N : C7} {R : Type} {P : GG} {C : List (SV N.T)} {S : Nat -> SV N.T} {Rr : Nat -> Option (SR N.T)} {nk : Nat} {o : KV} {k : Bw N.T -> Nat -> Option R} {r : R}
section
variable{t:Gj}{x:El}{e:Gj}{H:Hp}{a:Option Addr}{n:Nat}{T:Gj}{O:List Aw}{size bytes:Nat}{z:BZ}{cap:Nat}{kh km:Lc}{h m:Int}{s:El}{d:Gj}{E:El->Option BZ}
theorem fp{kl:Lc}{l:Int}(ht:P.underlying t=Ac (.slice e))(d:TI P e size bytes z)(h0:0<=l)(h1:l<=h)(h2:h<=m)(h3:m<=(cap:Nat))(w:IG):
  (rj t (.slice a n cap) (Ac (.int kl l)) (Ac (.int kh h)) (Ac (.int km m))).run P w= .ok (sliced a l.toNat h.toNat m.toNat size) w:=by
 have b:=Qf ht;have c:(qG (P.elem t)).run P w= .ok size w:=by rw[Qg ht];exact d.sizeOf
 grind[iT,run_sliceAt_slice,run_slice_lhm]
theorem fq(ht:P.underlying t=Ac (.slice e))(d:TI P e size bytes z)(h0:0<=h)(h2:h<=m)(h3:m<=(cap:Nat))(w:IG):
  (rj t (.slice a n cap) C5 (Ac (.int kh h)) (Ac (.int km m))).run P w= .ok (sliced a 0 h.toNat m.toNat size) w:=by
 have b:=Qf ht;have c:(qG (P.elem t)).run P w= .ok size w:=by rw[Qg ht];exact d.sizeOf
 grind[iT,run_sliceAt_slice,run_slice_hm]
def bN(P:GG)(S:Nat->SV N.T)(Rr:Nat->Option (SR N.T))(nk:Nat)(t:Gj)(x:El)(lo:Option El)(hi f:El)(k:Bw N.T->Nat->Option R):Option R:=match P.underlying t,intOf (Ax S hi),intOf (Ax S f)with
 |some (.slice e),Ac (_,h),Ac (_,m)=>match lo,Ax S x with
  |some lo, .AG b=>match Rr b,intOf (Ax S lo)with
   |some (.row g c l),Ac (_,a)=>match Hc g e&&C_ P e (c.sz N)with
    |true=>Af ((0<=a/\a<h)/\(h=m/\m<=((l.length:Nat):Int))) (k ⟨.px [b] (.sub a.toNat (h-a).toNat c),[b],[]⟩ nk)
    |false=>C5
   |_,_=>C5
  |none, .d (.sl c) l=>match C_ P e (c.sz N)with
   |true=>Af (h=((Fw (show List (c.den N.T)from l):Nat):Int)/\m=h) (k ⟨.px [] (.dx c l),[],[]⟩ nk)
   |false=>C5
  |_,_=>C5
 |_,_,_=>C5
theorem fQ{lo:Option El}{hi V:El}(ho:o.op= .slice t x lo (Ac hi) (Ac V))(h:bN P S Rr nk t x lo hi V k=Ac r):A1 P C S Rr nk o k r:=by
 have f:∀ {η:Nat->BZ} {H:Hp} {a:Act} {y:El},y=x\/y=hi\/y=V\/Ac y=lo->(∀x∈o.op.operands,(Ax S x).is C η H (a.eval x))->(Ax S y).is C η H (a.eval y):=λ{η H a y} Z s=>s y (by
  rw[ho];cases lo with
  |none=>rcases Z with rfl|rfl|rfl|Z<;>first|(cases Z)|simp[ZQ]
  |some z=>rcases Z with rfl|rfl|rfl|Z<;>first|grind[ZQ]|simp[ZQ]);unfold bN at h;split at h;case h_2=>grind
 rename_i e kh q km mm ht hhi hmx;split at h
 ·rename_i lo b hs;split at h
  ·rename_i g J l ka A hb hlo;split at h
   ·rename_i hI;obtain⟨⟨⟨W,c2⟩,c3,c4⟩,h⟩:=AE h;rw[AT]at hI;obtain⟨bytes,z,U,hzs,M,hbb,_⟩:=D9 hI.2;refine .y h (λη H Of a w Y hn' T hinv s G hfr K Q hK=>?_) λτ _=>trivial;rcases G b (.inl (by simp)) _ hb with e|⟨X,h1,xs,e3,hL⟩;· grind
    subst e3;obtain⟨i,h2,_⟩:=Ja Of hn' h1;have e1:a.eval x=η b:=by
     have:(SV.AG b:SV N.T).is C η H (a.eval x):=by grind
     exact this.1
    have L:=AU hhi (f (.inr (.inl rfl)) s);have e3:=AU hmx (f (.inr (.inr (.inl rfl))) s);have e4:=AU hlo (f (.inr (.inr (.inr rfl))) s);obtain⟨d,c,e5,hle⟩:∃d c,η b= .slice (Ac d) l.length c/\l.length<=c:=by
     rcases(T.ID h2).1 with⟨_,M⟩|⟨d,c,e,hc⟩;· omega
     grind
    have hop:Au P o.op o.type (EV a) H (Y.map (·.2)++Of) (.slice (Ac (d.add (A.toNat*J.sz N))) (q-A).toNat (q-A).toNat):= .Ao λE w o B _ F _=>by
     have G:=fp (a:=Ac d) (n:=l.length) (cap:=c) (kl:=ka) (kh:=kh) (km:=km) ht U W (by omega:A<=q) (by omega:q<=mm) (by omega) w;have hsl:sliced (Ac d) A.toNat q.toNat mm.toNat (J.sz N)= .slice (Ac (d.add (A.toNat*J.sz N))) (q-A).toNat (q-A).toNat:=by unfold sliced;rw[if_neg (by omega)];simp only[Adg,BZ.slice.injEq,true_and];omega
     rw[hsl]at G;have I:E.eval x= .slice (Ac d) l.length c:=F x _ (congrArg Ac (e1.trans e5));have q2:E.eval hi= .int kh q:=F hi _ (congrArg Ac L);have q3:E.eval V= .int km mm:=F V _ (congrArg Ac e3);have q4:E.eval lo= .int ka A:=F lo _ (congrArg Ac e4);rw[ho]at B;simp[Ki,B,I,q2,q3,q4,G]
    refine Afa (hop a w o rfl rfl (λx u e=>by simpa using e) T) T λw' hw'=>?_;refine hK _ w' H η Y (Hp.le.refl H) (λ_ _=>rfl) (λ_ _=>rfl) (λk sr h=>by cases h) hn' (λk hk=> .inl hk) hw' ⟨d,l.length,c,?_,by omega,rfl⟩;grind
   grind
  grind
 ·rename_i J l hs;split at h
  ·rename_i hI;obtain⟨⟨W,c2⟩,h⟩:=AE h;obtain⟨bytes,z,U,hzs,M,hbb,_⟩:=D9 hI;refine .y h (Abv λη H O a s _=>?_) λ_ _=>trivial;obtain⟨cs,⟨v,rfl,hv⟩,L⟩:(SV.d (.sl J) l:SV N.T).is C η H (a.eval x):=by rw[<-hs];exact f (.inl rfl) s
   have L:[v]=[a.eval x]:=L;cases L;have L:=AU hhi (f (.inr (.inl rfl)) s);have e3:=AU hmx (f (.inr (.inr (.inl rfl))) s);obtain⟨d,c,e5,hle⟩:∃d c,a.eval x= .slice d l.length c/\l.length<=c:=by
    rcases hv.sl with⟨e,M⟩|⟨d,c,e,hc⟩;· exact⟨C5,0,by rw[e,M],by omega⟩
    ·exact⟨Ac d,c,e,hc⟩
   obtain⟨p,hv',e6⟩:∃p,GY (N.c J) H l (.slice p l.length l.length)/\sliced d 0 l.length l.length (J.sz N)= .slice p l.length l.length:=by
    obtain⟨⟨xs,I,q2⟩,q3⟩:=hv;rw[e5]at I;refine⟨d,⟨⟨xs,⟨I.len,?_,?_⟩,q2⟩,q3⟩,?_⟩
    ·rcases I.sl with⟨e,M⟩|⟨a',c',e,hc⟩;· left;injection e with e _ _;exact⟨by rw[e,M],M⟩
     ·right;injection e with e _ e';exact⟨a',l.length,by rw[e],Aae _⟩
    ·intro j u hj;have:=I.cells j u hj;cases d<;>exact this
    ·unfold sliced;cases d with
     |none=>simp
     |some d=>
      simp only[Adg,Aei,Nat.sub_zero];have:d.add 0=d:=Iv d;rw[this];simp
   refine⟨.slice p l.length l.length,?_,⟨p,rf⟩,[_],⟨_,rf,hv'⟩,rf⟩;rw[ho];refine .Ao λE w o B _ F _=>?_;have G:=fq (a:=d) (n:=l.length) (cap:=c) (kh:=kh) (km:=km) (h:=q) (m:=mm) ht U (by omega) (by omega) (by rw[c2,W];exact_mod_cast hle) w;rw[c2,W]at G;rw[show((l.length:Nat):Int).toNat=l.length from rfl,e6]at G;have I:E.eval x= .slice d l.length c:=F x _ (congrArg Ac e5);have q2:E.eval hi= .int kh q:=F hi _ (congrArg Ac L);have q3:E.eval V= .int km mm:=F V _ (congrArg Ac e3);rw[W]at q2;rw[c2,W]at q3;simp[Ki,B,I,q2,q3,G]
  ·cases h
 grind
def qg(P:GG)(S:Nat->SV N.T)(Rr:Nat->Option (SR N.T))(nk:Nat)(t:Gj)(x y:El)(k:Bw N.T->Nat->Option R):Option R:=match P.underlying t,intOf (Ax S y),Ax S x with
 |some (.slice e),Ac (_,j), .px [b] (.sub i m c)=>match Rr b with
  |some (.row _ a l)=>match Pn P e (c.sz N)&&c.JE a with
   |true=>Af (0<=j/\j<(m:Int)) (Ab (idx l ((i:Int)+j)) λz=>k ⟨.D_ b ((i:Int)+j) 0 a z,[b],[]⟩ nk)
   |false=>C5
  |_=>C5
 |_,_,_=>C5
theorem oT{y:El}(u:o.op= .indexAddr t x y)(h:qg P S Rr nk t x y k=Ac r):A1 P C S Rr nk o k r:=by
 have v:∀ {η:Nat->BZ} {H:Hp} {a:Act},(∀x∈o.op.operands,(Ax S x).is C η H (a.eval x))->(Ax S x).is C η H (a.eval x):=λd=>d x (by grind[ZQ]);have w:∀ {η:Nat->BZ} {H:Hp} {a:Act},(∀x∈o.op.operands,(Ax S x).is C η H (a.eval x))->(Ax S y).is C η H (a.eval y):=λd=>d y (by grind[ZQ]);unfold qg at h;split at h;case h_2=>grind
 rename_i e X j b i m B Q L M;split at h;case h_2=>grind
 rename_i g U l K;split at h;case h_2=>grind
 rename_i s;rw[AT]at s;have I:=Adn s.2;subst I;obtain⟨bytes,zv,A⟩:=Dl s.1;obtain⟨⟨F,G⟩,h⟩:=AE h;obtain⟨z,T,h⟩:=Bh h;refine .y h (Abv λη H O a d _=>?_) λτ _ W Z Y p=>?_
 ·obtain⟨D,n,c,q,V,E⟩:(SV.px [b] (.sub i m B):SV N.T).is C η H (a.eval x):=by rw[<-M];exact v d
  have q:η b= .slice (Ac D) n c:=by simpa using q
  have J:=AU L (w d);refine⟨AL (a.eval x) (j.toNat*B.sz N),?_,?_,D,n,c,q⟩;· rw[u];exact Agl Q A rfl (.inr ⟨_,_,E,Aae _⟩) (congrArg Ac J) ⟨F,G⟩
  ·rw[E,q];simp only[AL,BZ.pointer.injEq,Aea,Agr];rw[C6,<-Adp];congr 2;omega
 ·rw[K]at p;cases p;exact⟨Ty.Sn B,by rw[T];rfl⟩
theorem iU{a:Act}{f:Ty}{l d:List (f.den N.T)}{ys:List BZ}{u:Option Addr}(ht:P.underlying t=Ac (.slice e))(hI:C_ P e (f.sz N)=Bp)(A:a.eval s= .slice u l.length l.length)(hv:GY (N.c f) H l (.slice u l.length l.length))
  (W:A2 (N.c f) H d ys) (n:∀w,SH w H O->GK.Src w (a.eval x) (f.sz N) d.length ys) (hc:l.length+d.length<=M5 P e) (h2:d≠ []):
  BM P (.call {callee:= .builtin .append,args:= #[s,x],argTypes:= #[t,t]}) T (EV a) H O (λv' D E=>(D=H/\∃xs,E= .row v' e (f.sz N) (l++d).length xs::O/\A2 (N.c f) H (l++d) xs)/\v'.oneCell'=Bp):=by
 obtain⟨bytes,z,hz,X,G,J,_⟩:=D9 hI;obtain⟨xs,q,V⟩:=hv.ex;rw[Bn]at q;cases u with
 |none=>
  have hl:l=[]:=by rcases q.sl with⟨_,G⟩|⟨F,c',e,hc⟩;all_goals grind
  subst hl;refine BM.IE ((QA (i:=0) (l:=[]) (xs:=[]) ht hI A rfl rfl W (λw A=>n w ?_) hc).mono ?_);· have:=A.mQ 1;grind
  grind
 |some u=>
  obtain⟨hc,hbm⟩:=J _ hc;refine Age 0 (.Ao λF w o ho hT he U=>?_) ?_
  ·obtain⟨ii,K,g1,g2,g3⟩:=hz.ex;obtain⟨y,Q⟩:=n w U;have hpos:0<d.length:=by grind
   rcases Q with⟨_,h0'⟩|⟨Z,cx,I,j⟩;· omega
   obtain⟨L,M⟩:=U.TC q;rcases M with⟨e,_⟩|⟨ad',c',e,p⟩;· grind
   injection e with e _ _;injection e with e;subst e;obtain⟨v',w',hr,Y,k2⟩:=run_append_arg_grows (P:=P) w t o.type e ii z (f.sz N) bytes ht K g3 g1 g2 X G u l.length l.length xs L p Z d.length cx ys y j (by omega) (by simp only[maxLen,Ah]at*;omega) (by omega);refine⟨v',w',H,_,?_,Hp.le.refl H,⟨rfl,xs++ys,rfl,V.app W⟩,U.push (r:= .row v' e (f.sz N) (l++d).length (xs++ys)) k2 ?_ (λb J=>?_)⟩;· have q1:F.eval s= .slice (Ac u) l.length l.length:=he s _ (congrArg Ac A);have q2:F.eval x= .slice (Ac Z) d.length cx:=he x _ (congrArg Ac I);simp[Ki,ho,resolve,invoke,builtin,q1,q2,hr,iT]
   ·rw[Aac];exact⟨Y.1,Y.2.imp id λ⟨g,cap,cur,e,_,h⟩=>⟨g,cap,cur,e,Abh _,h⟩⟩
   ·exact(IG.ownsRow.lt Y b J).1
  grind
def rI(P:GG)(S:Nat->SV N.T)(Rr:Nat->Option (SR N.T))(nk:Nat)(s x:El)(t:Gj)(k:Bw N.T->Nat->Option R):Option R:=match P.underlying t,Ax S s with
 |some (.slice e), .px _ (.dx b l)=>match C_ P e (b.sz N),WY S Rr b x with
  |true,Ac (a,c)=>Af (l.length+a.length<=M5 P e/\0<a.length) (k ⟨.AG nk,c,[(nk, .row e b (l++a))]⟩ (nk+1))
  |_,_=>C5
 |_,_=>C5
theorem pb(i:o.op= .call {callee:= .builtin .append,args:= #[s,x],argTypes:= #[t,t]})(B:∀j,nk<=j->Rr j=C5)(h:rI P S Rr nk s x t k=Ac r):A1 P C S Rr nk o k r:=by
 have m:∀ {η:Nat->BZ} {H:Hp} {a:Act},(∀x∈o.op.operands,(Ax S x).is C η H (a.eval x))->(Ax S s).is C η H (a.eval s):=λc=>c s (by grind[ZQ,fT]);have n:∀ {η:Nat->BZ} {H:Hp} {a:Act},(∀x∈o.op.operands,(Ax S x).is C η H (a.eval x))->(Ax S x).is C η H (a.eval x):=λc=>c x (by simp_all[ZQ,fT]);unfold rI at h;split at h;case h_2=>grind
 rename_i e I J l F E;split at h;case h_2=>grind
 rename_i V W z d;obtain⟨⟨hc,u⟩,h⟩:=AE h;refine .new h (Afj (B nk (Aae _)) λη H O a c D=>?_) λ_ _=>trivial;obtain⟨⟨T,q⟩,U,⟨v,rfl,w⟩,f⟩:(SV.px I (.dx J l):SV N.T).is C η H (a.eval s):=by rw[<-E];exact m c
 have f:[v]=[a.eval s]:=f;cases f;obtain⟨X,G,p⟩:=Lt d (n c) D;rw[i];rw[q]at w;refine(iU F z q w G p hc (λe=>by rw[e]at u;simp at u)).mono ?_;rintro K M Q ⟨⟨rfl,L,rfl,A⟩,y⟩;exact⟨rfl,_,K,rfl,⟨L,by rw[AA],A⟩,by rw[AA],y⟩
def pv(P:GG)(S:Nat->SV N.T)(nk:Nat)(t:Gj)(x:El)(k:Bw N.T->Nat->Option R):Option R:=match P.underlying t,Ax S x with
 |some (.slice _), .d (.sl a) l=>match(show List (a.den N.T)from l)with
  | []=>k ⟨.px [] .ub,[],[]⟩ nk
  |_::_=>k ⟨.lb Aj,[],[]⟩ nk
 |_,_=>C5
theorem Vw{b:BinOp}(j:b= .eql){Ty:Gj}{c:Nat}(ht:P.underlying t=Ac (.slice e))(m:E x=Ac (.slice a n c)):Au P (.binOp b t x (.const (.slice C5 0 0)) Ty) T E H O (.bool a.isNone):= .Ao λg w o l _ i p=>by
 have h:(binOp .eql t (.slice a n c) (.slice C5 0 0)).run P w= .ok (.bool a.isNone) w:=by
  have h:∀d:Nat,(mP (d+1) t (.slice a n c) (.slice C5 0 0)).run P w= .ok a.isNone w:=λd=>by cases a<;>simp[mP,AX ht]
  simp_all[binOp,pure,bool,pX,Alw]
 have hc:g.eval (.const (.slice C5 0 0))= .slice C5 0 0:=rfl;simp_all[Ki,eqGuard]
theorem oE{Ty:Gj}(m:o.op= .binOp .eql t x (.const (.slice C5 0 0)) Ty)(h:pv P S nk t x k=Ac r):A1 P C S Rr nk o k r:=by
 have p:∀ {η:Nat->BZ} {H:Hp} {a:Act},(∀x∈o.op.operands,(Ax S x).is C η H (a.eval x))->(Ax S x).is C η H (a.eval x):=λd=>d x (by grind[ZQ]);unfold pv at h;split at h;case h_2=>grind
 rename_i e q l u B;have key:∀ {η:Nat->BZ} {H:Hp} {a:Act},(∀x∈o.op.operands,(Ax S x).is C η H (a.eval x))->∃b n c,a.eval x= .slice b n c/\(b=C5->n=0)/\n=(show List (q.den N.T)from l).length:=λ{η H a} d=>by
  obtain⟨F,⟨v,rfl,D⟩,f⟩:(SV.d (.sl q) l:SV N.T).is C η H (a.eval x):=by grind
  have f:[v]=[a.eval x]:=f;rcases D.sl with⟨e,w⟩|⟨b,c,e,_⟩;all_goals grind
 split at h;· refine .y h (Abv λη H O a d _=>?_) λ_ _=>trivial;obtain⟨b,n,c,i,_,_⟩:=key d;exact⟨_,by rw[m];exact Vw rfl u (congrArg Ac i),_,rfl⟩
 ·refine .y h (Abv λη H O a d _=>?_) λ_ _=>trivial;obtain⟨b,n,c,i,f,s⟩:=key d;refine⟨_,by rw[m];exact Vw rfl u (congrArg Ac i),?_⟩;cases b with
  |some b=>rfl
  |none=>
   grind
def X4:List Int->Aq:=λl=>l.map λn=>UInt8.ofNat n.toNat
theorem aB{H:Hp} :∀ {l:List Int} {xs:List BZ},A2 (N.c (.int .u8)) H l xs->xs=(X4 l).map λb=>BZ.int .u8 (b.toNat:Int)
 | [],_,h=>h
 |n::l,_,⟨g,xs,e,a,f⟩=>by
  obtain⟨a,c⟩:=DY.1 a;have c:0<=n/\n<=255:=c;subst e;subst a;have d:((UInt8.ofNat n.toNat).toNat:Int)=n:=by grind[UInt8.toNat_ofNat']
  rw[aB f];show [BZ.int .u8 n]++_=BZ.int .u8 ((UInt8.ofNat n.toNat).toNat:Int)::_;rw[d];rfl
def rm(P:GG)(S:Nat->SV N.T)(nk:Nat)(s d:Gj)(x:El)(k:Bw N.T->Nat->Option R):Option R:=match P.underlying s,P.underlying d,Ax S x with
 |some (.slice e),Ac .string, .d (.sl (.int .u8)) l=>match P.underlying e with
  |some (.int .u8)=>k ⟨.d .str (X4 l),[],[]⟩ nk
  |_=>C5
 |some (.slice e),Ac .string, .raw (.slice C5 0 0)=>match P.underlying e with
  |some (.int .u8)=>k ⟨.d .str [],[],[]⟩ nk
  |_=>C5
 |some (.int _),Ac .string,s=>match intOf s with
  |some (_,n)=>Af (0<=n/\n<128) (k ⟨.d .str [UInt8.ofNat n.toNat],[],[]⟩ nk)
  |none=>C5
 |_,_,_=>C5
theorem XM{n:Int}(h0:0<=n)(h1:n<128):Utf8.encode n=⟨⟨[UInt8.ofNat n.toNat]⟩⟩:=by grind[Utf8.valid,validRune,Utf8.encode]
theorem Wr{s:Gj}{l:List Int}{v:BZ}(u:P.underlying s=Ac (.slice e))(n:P.underlying d=Ac .string)(p:P.underlying e=Ac (.int .u8))(y:E x=Ac v)(G:GY (N.c (.int .u8)) H l v):Au P (.convert s d x) T E H O (sv (X4 l)):= .Ao λJ w o t _ m I=>by
 obtain⟨K,B,g⟩:=G.ex;have i:=aB g;obtain⟨q,hc⟩:=I.TC B;rcases hc with⟨rfl,A⟩|⟨z,c,rfl,a⟩
 ·have F:l=[]:=OF.1 A;subst F;have:=run_convert_bytes_string (P:=P) w s d e C5 0 0 u p n;have g:(Conv.bytesToString (.slice C5 0 0)).run P w= .ok (.string ByteArray.empty) w:=by rfl
  rw[g]at this;simp[Ki,t,m x _ y,this];rfl
 ·have h:(X4 l).length=l.length:=by simp[X4]
  have:=run_convert_bytes_back (P:=P) w s d e z c (X4 l) u p n (λj D=>a j _ (by grind));rw[h]at this;simp only[Ki,t,m x _ y];simp;erw [this];rfl
theorem o5{s:Gj}(g:o.op= .convert s d x)(h:rm P S nk s d x k=Ac r):A1 P C S Rr nk o k r:=by
 have b:∀ {η:Nat->BZ} {H:Hp} {a:Act},(∀x∈o.op.operands,(Ax S x).is C η H (a.eval x))->(Ax S x).is C η H (a.eval x):=λc=>c x (by grind[ZQ]);unfold rm at h;split at h
 ·rename_i e l j i f;split at h
  ·rename_i u;refine .y h (Abv λη H O a c _=>?_) λ_ _=>trivial;obtain⟨E,⟨v,rfl,m⟩,t⟩:(SV.d (.sl (.int .u8)) l:SV N.T).is C η H (a.eval x):=by grind
   have t:[v]=[a.eval x]:=t;cases t;exact⟨_,by rw[g];exact Wr j i u rfl m,[_],rfl,rfl⟩
  grind
 ·rename_i e j i f;split at h
  ·rename_i u;refine .y h (Abv λη H O a c _=>?_) λ_ _=>trivial;have m:a.eval x= .slice C5 0 0:=by
    have:(SV.raw (.slice C5 0 0):SV N.T).is C η H (a.eval x):=by grind
    trivial
   exact⟨_,by rw[g];exact Wr (N:=N) (l:=[]) j i u (congrArg Ac m) GY.nil,[_],rf,rf⟩
  grind
 ·rename_i q j i;split at h;· rename_i B n A;obtain⟨hc,h⟩:=AE h;refine .y h (Abv λη H O a c _=>?_) λ_ _=>trivial;have m:=AU A (b c);refine⟨sv [UInt8.ofNat n.toNat],?_,[_],rfl,rfl⟩;rw[g];refine .Ao λD w o g _ z F=>?_;have:=run_convert_int_string (P:=P) w s d B n (by rw[j];rfl) i;rw[XM hc.1 hc.2]at this;simp[Ki,g,z x _ (congrArg Ac m),this];rfl
  trivial
 grind
end
end
section
variable {P : GG} {T : Gj} {E : El -> Option BZ} {H : Hp} {O : List Aw}
theorem Akc{s x:El}{t u e:Gj}{v:BZ}{i m:Nat}{str:Aq}{xs:List BZ}(ht:P.underlying t=Ac (.slice e))(y:P.underlying u=Ac .string)(Z:TI P e 1 1 (.int .u8 0))(Y:E s=Ac v)(L:E x=Ac (sv str))
  (hi:O[i]?=Ac (.row v e 1 m xs)) (hb:m+str.length<=Ah):
  BM P (.call {callee:= .builtin .append,args:= #[s,x],argTypes:= #[t,u]}) T E H O (λv' N R=>N=H/\R=O.set i (.row v' e 1 (m+str.length) (xs++Lib.byteCells str))):=by
 intro a w o next Q X hT J K k;have c:=K.ok i _ hi;obtain⟨ii,j,q,A,B⟩:=Z.ex;have d:(ByteArray.mk (Array.mk str)).size=str.length:=rfl;have F:Lib.strCells (ByteArray.mk (Array.mk str))=Lib.byteCells str:=rfl;obtain⟨v',w',r,M,k2,k3⟩:=Lib.run_append_own_string (P:=P) w 0 t u o.type e ii ht y j B q A v m xs c ⟨⟨str⟩⟩ (by simp only[maxLen,Ah]at*;omega) (by grind) (Abh _);unfold KV.wp;simp only[sv]at L;simp[Ki,X,resolve,invoke,builtin,J s _ Y,J x _ L,r,iT];refine k v' w' H _ (Hp.le.refl H) ⟨rfl,rfl⟩ (K.set hi k2 M (λb h=>?_));rcases c.2 with⟨rfl,D⟩|⟨g,cap,cur,rfl,_,V,W,U,C,G⟩;· right;subst D;have I:xs=[]:=Abc (by rw[c.1,Aei]);obtain⟨v2,w2,f,q1,_,_⟩:=Lib.run_append_own_string (P:=P) w w.heap.size t u o.type e ii ht y j B q A (.slice C5 0 0) 0 [] (IG.ownsRow_nil w _ e _) ⟨⟨str⟩⟩ (by simp only[maxLen,Ah]at*;omega) (by grind) (Aae _);rw[r]at f;injection f with p z;subst p;exact(IG.ownsRow.lt q1 b h).1
 ·by_cases l:m+str.length<=cap;· left;have f:=Lib.run_append_room_string (P:=P) w t u o.type e ii ht y j q g m cap cur V ⟨⟨str⟩⟩ l (by omega);rw[r]at f;injection f with p z;rw[p]at h;exact h
  ·have f:=Lib.run_append_grow_string (P:=P) w t u o.type e ii (.int .u8 0) ht y j B ⟨g,0,C5⟩ m cap xs (by rw[c.1,q]) (c.cells (g:=g) rfl) ⟨⟨str⟩⟩ (by omega) (by simp only[Ah]at*;omega) (by rw[A,d];exact growslice_fits (by omega) (by simp only[Ah]at*;omega));grind[Aw.has,BZ.ownBlock]
end
section
variable {N : C7} {R : Type} {P : GG} {C : List (SV N.T)} {S : Nat -> SV N.T} {Rr : Nat -> Option (SR N.T)} {nk : Nat} {o : KV} {k : Bw N.T -> Nat -> Option R} {r : R}
section
variable{t:Gj}{x:El}{H:Hp}{e:Gj}
def cr:Aq->List Int:=λl=>l.map λb=>(b.toNat:Int)
theorem VG{H:Hp} :∀l:Aq,A2 (N.c (.int .u8)) H (cr l) (Lib.byteCells l)
 | []=>rfl
 |b::l=>⟨[.int .u8 (b.toNat:Int)],Lib.byteCells l,rfl,DY.2 ⟨rfl,by have:=b.toNat_lt;show(0:Int)<=b.toNat/\(b.toNat:Int)<=255;omega⟩,VG l⟩
def u8I(P:GG)(e:Gj):Bool:=match P.info? e with
 |some a=>Hc a.size 1&&(Hc a.bytes 1&&match a.zero with
  |some (.int .u8 0)=>Bp
  |_=>Aj)
 |none=>Aj
theorem nO(h:u8I P e=Bp):TI P e 1 1 (.int .u8 0):=by
 unfold u8I at h;split at h
 ·rename_i a f;simp only[AT]at h;obtain⟨c,d,b⟩:=h;split at b;· rename_i g;exact⟨a,f,AI c,AI d,g⟩
  grind
 grind
def rJ(P:GG)(S:Nat->SV N.T)(Rr:Nat->Option (SR N.T))(nk:Nat)(s x:El)(t u:Gj)(k:Bw N.T->Nat->Option R):Option R:=match P.underlying t,P.underlying u,Ax S s,S3 (Ax S x)with
 |some (.slice e),Ac .string, .AG b,Ac str=>match Rr b with
  |some (.row g (.int .u8) l)=>match Hc g e&&u8I P e with
   |true=>Af (Fw (show List Int from l)+str.length<=Ah) (k ⟨.AG nk,[],[(nk, .row g (.int .u8) (show List Int from(show List Int from l)++cr str)),(b, .gone)]⟩ (nk+1))
   |false=>C5
  |_=>C5
 |_,_,_,_=>C5
theorem pc{s:El}{u:Gj}(w:o.op= .call {callee:= .builtin .append,args:= #[s,x],argTypes:= #[t,u]})(Q:∀j,nk<=j->Rr j=C5)(h:rJ P S Rr nk s x t u k=Ac r):A1 P C S Rr nk o k r:=by
 have y:∀ {η:Nat->BZ} {H:Hp} {a:Act},(∀x∈o.op.operands,(Ax S x).is C η H (a.eval x))->(Ax S s).is C η H (a.eval s):=λd=>d s (by grind[ZQ,fT]);have z:∀ {η:Nat->BZ} {H:Hp} {a:Act},(∀x∈o.op.operands,(Ax S x).is C η H (a.eval x))->(Ax S x).is C η H (a.eval x):=λd=>d x (by simp_all[ZQ,fT]);unfold rJ at h;split at h;case h_2=>grind
 rename_i e b str U V T n;split at h;case h_2=>cases h
 rename_i g l A;split at h;case h_2=>cases h
 rename_i q;rw[AT]at q;have F:=AI q.1;subst F;obtain⟨hc,h⟩:=AE h;change List Int at l;refine .mov h A (Aia A (by simp) (Q nk (Aae _)) λη H O a X i d f K Z=>?_) λ_ _=>trivial;obtain⟨Y,G,M⟩:=K;subst G;have B:=y d;rw[T]at B;have I:a.eval x=sv str:=IP n (z d);rw[<-B.1]at f;have v:i<O.length:=(IS.1 f).1;rw[w];refine(Age i (Akc U V (nO q.2) rfl (congrArg Ac I) f hc) ?_).mono ?_;· rintro p D E ⟨rfl,rfl⟩;exact⟨_,_,_,_,by rw[List.getElem?_set_self v]⟩
 ·rintro p D E ⟨⟨rfl,rfl⟩,L⟩;refine⟨rfl,_,p,rfl,⟨_,?_,M.app (VG str)⟩,by rw[AA],L⟩;rw[AA];have J:Fw (l++cr str)=l.length+str.length:=by simp[cr]
  show Aw.row p g 1 (l.length+str.length) _=Aw.row p g 1 (Fw (l++cr str)) _;rw[J]
def rn(P:GG)(nk:Nat)(t:Gj)(k:Bw N.T->Nat->Option R):Option R:=match P.underlying t with
 |some (.slice e)=>match LW N P e with
  |some a=>match C_ P e (a.sz N)with
   |true=>k ⟨.AG nk,[],[(nk, .row e a [])]⟩ (nk+1)
   |false=>C5
  |none=>C5
 |_=>C5
theorem iN{size bytes:Nat}{z:BZ}{T:Gj}{E:El->Option BZ}{O:List Aw}(ht:P.underlying t=Ac (.slice e))(l:TI P e size bytes z):
  BM P (.buildSlice t 0 #[]) T E H O (λv d f=>d=H/\v.oneCell'=Bp/\f= .row v e size 0 []::O):= .Ao λa w o i _ m j=>by
 refine⟨.slice (Ac ⟨w.heap.size,0,C5⟩) 0 0,w.alloc (.cells #[] e),H,_,?_,Hp.le.refl H,⟨rf,rf,rf⟩,j.push (IG.grownBy_alloc w _ C5) ?_ (λb h=>by grind[Aw.has,BZ.ownBlock])⟩;· simp[Ki,i,Instr.buildSlice,AX ht,l.sizeOf,mU,newRow];grind
 ·exact⟨by simp, .inr ⟨w.heap.size,0, #[],rf,Abh _,heap_alloc_new w _,Aae _,Abh _,by simp,by simp⟩⟩
theorem o6(i:o.op= .buildSlice t 0 #[])(g:∀j,nk<=j->Rr j=C5)(h:rn P nk t k=Ac r):A1 P C S Rr nk o k r:=by
 unfold rn at h;split at h;case h_2=>grind
 rename_i e l;split at h;case h_2=>grind
 rename_i u m;split at h;case h_2=>grind
 rename_i f;obtain⟨bytes,z,c,_⟩:=D9 f;refine .new h (Afj (g nk (Aae _)) λη H O a s q=>?_) λ_ _=>trivial;rw[i];refine(iN l c).mono ?_;rintro v n p ⟨rfl,d,rfl⟩;exact⟨rfl,_,v,rfl,⟨[],by grind[AA],rfl⟩,by rw[AA],d⟩
def nM(P:GG)(S:Nat->SV N.T)(Rr:Nat->Option (SR N.T))(nk:Nat)(x:El)(T:Gj)(k:Bw N.T->Nat->Option R):Option R:=match Ax S x,P.underlying T with
 | .AG b,Ac (.pointer _)=>match Rr b with
  |some (.row _ (.int .u8) l)=>k ⟨.px [b] (.sd (Fw (show List Int from l))),[b],[]⟩ nk
  |_=>C5
 |_,_=>C5
theorem oz(A:o.op= .call {callee:= .builtin .unsafeSliceData,args:= #[x],argTypes:= #[t]})(h:nM P S Rr nk x o.type k=Ac r):A1 P C S Rr nk o k r:=by
 have E:∀ {η:Nat->BZ} {H:Hp} {a:Act},(∀x∈o.op.operands,(Ax S x).is C η H (a.eval x))->(Ax S x).is C η H (a.eval x):=λI=>I x (by grind[ZQ,fT]);unfold nM at h;split at h;case h_2=>grind
 rename_i b J hs W;split at h;case h_2=>grind
 rename_i g l Z;refine .y h (λη H L a w Y q d M I hr hfr K Q V=>?_) λτ _=>trivial;rcases hr b (.inl (by simp)) _ Z with e|⟨X,T,xs,O,hL⟩;· grind
 subst O;obtain⟨i,U,_⟩:=Ja L q T;have m:a.eval x=η b:=by
  have:(SV.AG b:SV N.T).is C η H (a.eval x):=by grind
  exact this.1
 have c:=d.ok i _ U;have f:∀v B,SH B H (Y.map (·.2)++L)->(∃p,v= .pointer p)->(0<l.length->v=AL (η b) 0)->(Ki a.eval o).run P w= .ok (.value v) B->o.wp P a w K Q:=λv B G q1 q2 s=>by unfold KV.wp;rw[s];exact V v B H η Y (Hp.le.refl H) (λ_ _=>rfl) (λ_ _=>rfl) (λk sr h=>by cases h) q (λk hk=> .inl hk) G ⟨q1,λh=>⟨η b,rfl,q2 h⟩⟩
 rcases c.2 with⟨u,h0⟩|⟨z,cap,cur,u,_,hg,hnc,hcm,hcs,F⟩;· refine f (.pointer C5) w d ⟨C5,rfl⟩ (λh=>by omega) ?_;have h:=Lib.run_unsafeSliceData_nil (P:=P) w #[t] o.type 0 0;rw[u]at m;simp[Ki,A,resolve,invoke,builtin,m,h]
 ·by_cases n:cap=0
  ·subst n;refine f (.pointer (Ac ⟨w.heap.size,0,C5⟩)) (w.alloc (.view ⟨z,0,C5⟩ J)) ?_ ⟨_,rfl⟩ (λh=>by omega) ?_;· have:=(d.alloc (.view ⟨z,0,C5⟩ J)).drop 0;simpa using this
   ·have h:=Lib.run_unsafeSliceData_zero (P:=P) w #[t] o.type J W ⟨z,0,C5⟩ l.length (sh:=(g,cur.size)) (by simp[IG.shape?,hg]);rw[u]at m;simp[Ki,A,resolve,invoke,builtin,m,h]
  ·refine f (AL (η b) 0) w d ⟨_,by rw[u];rfl⟩ (λ_=>rfl) ?_;have h:=Lib.run_unsafeSliceData_row (P:=P) w #[t] o.type ⟨z,0,C5⟩ l.length cap n;rw[u]at m⊢;simp[Ki,A,resolve,invoke,builtin,m,h,AL,w8]
def nL(P:GG)(S:Nat->SV N.T)(Rr:Nat->Option (SR N.T))(nk:Nat)(x y:El)(pt:Gj)(k:Bw N.T->Nat->Option R):Option R:=match Ax S x,intOf (Ax S y),P.underlying pt with
 | .px [b] (.sd m),Ac (.i64,n),Ac (.pointer e)=>match Rr b,Hc (P.cellsOf e) 1 with
  |some (.row g (.int .u8) l),Bp=>match Hc g e with
   |true=>Af (n=((Fw (show List Int from l):Nat):Int)/\m=Fw (show List Int from l)) (k ⟨.d .str (X4 l),[],[(b, .gone)]⟩ nk)
   |false=>C5
  |_,_=>C5
 |_,_,_=>C5
theorem oy{y:El}{pt it:Gj}(U:o.op= .call {callee:= .builtin .unsafeString,args:= #[x,y],argTypes:= #[pt,it]})(h:nL P S Rr nk x y pt k=Ac r):A1 P C S Rr nk o k r:=by
 have hox:∀ {η:Nat->BZ} {H:Hp} {a:Act},(∀x∈o.op.operands,(Ax S x).is C η H (a.eval x))->(Ax S x).is C η H (a.eval x):=λD=>D x (by grind[ZQ,fT]);have hoy:∀ {η:Nat->BZ} {H:Hp} {a:Act},(∀x∈o.op.operands,(Ax S x).is C η H (a.eval x))->(Ax S y).is C η H (a.eval y):=λD=>D y (by simp_all[ZQ,fT]);unfold nL at h;split at h;case h_2=>grind
 rename_i b m n e hs hn hpt;split at h;case h_2=>grind
 rename_i g l O hce;split at h;case h_2=>grind
 rename_i hge;have:=AI hge;subst this;change List Int at l;obtain⟨⟨V,W⟩,h⟩:=AE h;have t:(X4 l).length=l.length:=by simp[X4]
 refine⟨_,nk,h,λη H L a w Y I A hinv D hr hfr K Q hK=>?_,Aae _,λj d f=>?_,λτ _=>trivial⟩
 ·rcases hr b (.inr (by simp[keys])) _ O with e|⟨X,h1,xs,e3,hL⟩;· grind
  subst e3;obtain⟨i,M,h3⟩:=Ja L I h1;obtain⟨⟨p,hp⟩,hsd⟩:(SV.px [b] (.sd m):SV N.T).is C η H (a.eval x):=by rw[<-hs];exact hox D
  have ey:=AU hn (hoy D);rw[V,<-t]at ey;have F:∀s,SH s H ((Ib Y b .emp).map (·.2)++L)->K (a.put o.dst (sv (X4 l))) s:=λs c=>
   hK _ s H η (Ib Y b .emp) (Hp.le.refl H) (λ_ _=>rfl) (λj d=>Ph λe=>d (by subst e;simp[keys])) (λj sr d=>by
    simp only[Ay]at d;split at d;· cases d;exact .inl rfl
    ·cases d) (by rw[EH];exact I) (λj d=> .inl (by rw[EH]at d;exact d)) c ⟨[_],rfl,rfl⟩;by_cases h0:l=[]
  ·subst h0;have z:Au P o.op o.type (EV a) H (Y.map (·.2)++L) (sv (X4 [])):=by
    rw[U];exact Ald (congrArg Ac hp) (congrArg Ac ey)
   refine Afa (z a w o rfl rfl (λx u e=>by simpa using e) A) A λs c=>F s ?_;rw[<-h3];exact c.set M ⟨rfl,rfl,rfl,Aae _,λ_ _ _=>rfl⟩ trivial (λb O=>by cases O)
  ·have J:0<m:=by rw[W];exact Aee.2 h0
   obtain⟨u,Z,e6⟩:=hsd J;have Z:u=η b:=by simpa using Z.symm
   subst Z;have hLB:A2 cBy H (X4 l) xs:=VH.2 (aB hL);have M:(Y.map (·.2)++L)[i]?=Ac (.row (η b) g 1 (X4 l).length xs):=by rw[t];exact M
   have z:=BM.unsafeString (P:=P) (T:=o.type) (E:=EV a) (x:=x) (y:=y) (pt:=pt) (it:=it) (e:=g) hpt (AI hce) (congrArg Ac e6) (congrArg Ac ey) M hLB (λe=>h0 (by have:=congrArg Fw e;rw[t]at this;exact OF.1 this));refine z a w o K Q U rfl (λx u e=>by simpa using e) A λv s H' O' hle ⟨e7,e8,e9⟩ c=>?_;subst e7;subst e8;subst e9;rw[h3]at c;exact F s c
 grind[keys]
end
end
section
variable {P : GG} {H : Hp} {O : List Aw} {E : El -> Option BZ} {T : Gj} {x y : El} {kk : Lc} {m n : Int} {tys : Array Gj}
theorem Au.max2(f:E x=Ac (.int kk m))(g:E y=Ac (.int kk n)):Au P (.call {callee:= .builtin .max,args:= #[x,y],argTypes:=tys}) T E H O (.int kk (if n>m then n else m)):= .Ao λa w o e _ d _=>by simp[Ki,e,d x _ f,d y _ g,resolve,invoke,builtin,Builtin.max_,Builtin.max2]
theorem Au.min2(f:E x=Ac (.int kk m))(g:E y=Ac (.int kk n)):Au P (.call {callee:= .builtin .min,args:= #[x,y],argTypes:=tys}) T E H O (.int kk (if n<m then n else m)):= .Ao λa w o e _ d _=>by simp[Ki,e,d x _ f,d y _ g,resolve,invoke,builtin,Builtin.min_,Builtin.min2]
theorem Akb{t e:Gj}{size:Nat}{ii:TypeInfo}{v z:BZ}{i m f:Nat}{xs d:List BZ}(ht:P.underlying t=Ac (.slice e))(B:P.info? e=Ac ii)(Y:ii.size=size)(C:tys[0]?=Ac t)(hx:E x=Ac v)(hy:E y=Ac z)
  (hi:O[i]?=Ac (.row v e size m xs)) (q:∀w,SH w H O->GK.Src w z size f d) (h1:∀u∈d,u.oneCell'=Bp):
  BM P (.call {callee:= .builtin .copy,args:= #[x,y],argTypes:=tys}) T E H O (λv' H' O'=>H'=H/\O'=O.set i (.row v e size m (d.take (min f m*size)++xs.drop (min f m*size)))/\v'= .int .i64 (min f m:Nat)):=by
 intro a w o next Q ho hT he N k;have r:=N.ok i _ hi;obtain⟨J,q⟩:=q w N;have Z:=r.1;have sx:=he x _ hx;have sy:=he y _ hy;have s:min f m=0->(vT tys o.type #[v,z]).run P w= .ok (goInt 0) w->o.wp P a w next Q:=λh0 X=>by
  unfold KV.wp;simp[Ki,ho,resolve,invoke,builtin,sx,sy,X,iT];refine k _ w H _ (Hp.le.refl H) ⟨rfl,rfl,?_⟩ ?_;· rw[h0];rfl
  ·rw[h0];simp_all[Aei,Aef,Afg,Acd,Rd]
 rcases r.2 with⟨rfl,rfl⟩|⟨g,cap,cur,rfl,U,hg,W,G,S,D⟩
 ·refine s (by simp) ?_;rcases q with⟨rfl,rfl⟩|⟨L,c,rfl,p⟩;· simp[vT,C,run_underlying ht,Builtin.lenOf,wh,sizeOf,typeInfo,B]
  ·have:=run_loadCells_list (P:=P) w L [] (λj v h=>by grind);simp at this;simp[vT,C,run_underlying ht,Builtin.lenOf,wh,sizeOf,typeInfo,B,this]
 ·rcases q with⟨rfl,rfl⟩|⟨L,c,rfl,p⟩;· refine s (by simp) ?_;simp[vT,C,run_underlying ht,Builtin.lenOf,wh,sizeOf,typeInfo,B,storeCells]
  ·have hle:min f m*size<=d.length:=by rw[J];exact Abi _ (Nat.min_le_left _ _)
   have l:(d.take (min f m*size)).length=min f m*size:=by rw[Abg];omega
   have hl:=run_loadCells_list (P:=P) w L (d.take (min f m*size)) (λj u M=>p j u (by
    rw[Aex]at M;split at M;· exact M
    ·cases M));rw[l]at hl;have I:min f m*size<=cur.size:=by rw[S];exact Abi _ (by omega)
   have K:=run_storeCells_at P g 0 e (d.take (min f m*size)) 0 cur w hg (by simpa [l]using I) (λu hu=>h1 u (Acl hu));simp only[Abl,Aef,Acd,l]at K;have X:(vT tys o.type #[.slice (Ac ⟨g,0,C5⟩) m cap, .slice (Ac L) f c]).run P w= .ok (goInt (Nat.min f m:Nat)) (w.setRow g (d.take (min f m*size)++cur.toList.drop (min f m*size)).toArray):=by simp[vT,C,run_underlying ht,Builtin.lenOf,wh,sizeOf,typeInfo,B,Y,hl,K]
   unfold KV.wp;simp[Ki,ho,resolve,invoke,builtin,sx,sy,X,iT];refine k _ _ H _ (Hp.le.refl H) ⟨rfl,rfl,by simp[goInt,Nat.min_def]⟩ (N.set hi (EY w g _) ?_ (λb hb=> .inl hb));refine⟨?_, .inr ⟨g,cap,(d.take (min f m*size)++cur.toList.drop (min f m*size)).toArray,rfl,U,setRow_heap w g cur _ e _ hg,W,G,?_,?_⟩⟩;· rw[Aac,l,Ajr,Z];have:min f m*size<=m*size:=Abi _ (Nat.min_le_right _ _);omega
   ·simp[l];omega
   ·have V:min f m*size<=m*size:=Abi _ (Nat.min_le_right _ _);simp only[Adw,l];rw[Abm (by rw[l];exact V),<-D,Ahf]
end
section
variable {N : C7} {R : Type} {P : GG} {C : List (SV N.T)} {S : Nat -> SV N.T} {Rr : Nat -> Option (SR N.T)} {nk : Nat} {o : KV} {k : Bw N.T -> Nat -> Option R} {r : R}
section
variable{x y:El}{tys:Array Gj}{α:Type}{t:Gj}
def pJ(S:Nat->SV N.T)(nk:Nat)(x y:El)(k:Bw N.T->Nat->Option R):Option R:=match intOf (Ax S x),intOf (Ax S y)with
 |some (a,m),Ac (b,n)=>match kb a b with
  |true=>Aa a (if n>m then n else m) (k ⟨.d (.int a) (if n>m then n else m),[],[]⟩ nk)
  |false=>C5
 |_,_=>C5
def pH(S:Nat->SV N.T)(nk:Nat)(x y:El)(k:Bw N.T->Nat->Option R):Option R:=match intOf (Ax S x),intOf (Ax S y)with
 |some (a,m),Ac (b,n)=>match kb a b with
  |true=>Aa a (if n<m then n else m) (k ⟨.d (.int a) (if n<m then n else m),[],[]⟩ nk)
  |false=>C5
 |_,_=>C5
theorem oL(c:o.op= .call {callee:= .builtin .max,args:= #[x,y],argTypes:=tys})(h:pJ S nk x y k=Ac r):A1 P C S Rr nk o k r:=by
 unfold pJ at h;split at h
 ·rename_i q m p n j l;split at h;· rename_i i;have e:=OC i;subst e;obtain⟨_,d,f⟩:=BV h;refine .y f (Abv λη H O a g _=>⟨_,?_,D0 d⟩) λ_ _=>trivial;rw[c];exact Au.max2 (congrArg Ac (AU j (g x (by simp_all[ZQ,fT])))) (congrArg Ac (AU l (g y (by rw[c];simp[ZQ,fT]))))
  grind
 grind
theorem oK(c:o.op= .call {callee:= .builtin .min,args:= #[x,y],argTypes:=tys})(h:pH S nk x y k=Ac r):A1 P C S Rr nk o k r:=by
 unfold pH at h;split at h
 ·rename_i q m p n j l;split at h;· rename_i i;have e:=OC i;subst e;obtain⟨_,d,f⟩:=BV h;refine .y f (Abv λη H O a g _=>⟨_,?_,D0 d⟩) λ_ _=>trivial;rw[c];exact Au.min2 (congrArg Ac (AU j (g x (by simp_all[ZQ,fT])))) (congrArg Ac (AU l (g y (by rw[c];simp[ZQ,fT]))))
  grind
 grind
def im{α:Type}(l a:List α):List α:=a.take (min a.length l.length)++l.drop (min a.length l.length)
theorem bS(l b:List α):(im l b).length=l.length:=by grind[im]
theorem Ov{α:Type}{c:Cd α}{H:Hp} :∀ {l:List α} {xs:List BZ} (m:Nat),A2 c H l xs->A2 c H (l.drop m) (xs.drop (m*c.sz))
 |l,xs,0,h=>by grind
 | [],xs,m+1,h=>by grind[A2]
 |a::l,_,m+1,⟨b,d,e,g,i⟩=>by
  have:=Ov m i;have e:(b++d).drop ((m+1)*c.sz)=d.drop (m*c.sz):=by
   have j:=c.len g;have f:(m+1)*c.sz=b.length+m*c.sz:=by grind
   grind[wO,List.drop_left]
  grind
def bT(P:GG)(S:Nat->SV N.T)(Rr:Nat->Option (SR N.T))(nk:Nat)(x y:El)(t:Gj)(k:Bw N.T->Nat->Option R):Option R:=match P.underlying t,Ax S x with
 |some (.slice e), .AG b=>match Rr b with
  |some (.row g c l)=>match Hc g e&&C_ P e (c.sz N),WY S Rr c y with
   |true,Ac (a,d)=>Af (min a.length l.length<=Ah) (k ⟨.na (min a.length l.length),d,[(b, .row g c (im l a))]⟩ nk)
   |_,_=>C5
  |_=>C5
 |_,_=>C5
theorem fR{t2:Gj}(q:o.op= .call {callee:= .builtin .copy,args:= #[x,y],argTypes:= #[t,t2]})(h:bT P S Rr nk x y t k=Ac r):A1 P C S Rr nk o k r:=by
 unfold bT at h;split at h
 ·rename_i e b U T;split at h
  ·rename_i g f l A;split at h
   ·rename_i c rd n m;obtain⟨hc,h⟩:=AE h;refine .set h A (Afy A (by simp) λη H O a X i D w L Q=>?_) λ_ _=>trivial;rw[AT]at n;have I:=AI n.1;subst I;obtain⟨F,J,M⟩:=L;subst J;have B:(SV.AG b:SV N.T).is C η H (a.eval x):=by rw[<-T];exact D x (by rw[q];simp[ZQ,fT])
    obtain⟨G,E,s⟩:=Lt m (D y (by rw[q];simp[ZQ,fT])) Q;obtain⟨bytes,z,V,W,_,_,_⟩:=D9 n.2;obtain⟨ii,p,K,_,_⟩:=V.ex;have j:A2 (N.c f) H (im l c) (G.take (min c.length l.length*f.sz N)++F.drop (min c.length l.length*f.sz N)):=by have u:=A2.take (min c.length l.length) E;have v:=Ov (min c.length l.length) M;rw[Bn]at u v;exact u.app v
    refine⟨.row (η b) g (f.sz N) l.length (G.take (min c.length l.length*f.sz N)++F.drop (min c.length l.length*f.sz N)),⟨_,by rw[bS],j⟩,?_⟩;rw[q];rw[<-B.1]at w;refine(Akb (tys:= #[t,t2]) U p K rfl rfl rfl w s E.one).mono ?_;rintro v' Y Z ⟨rfl,rfl,rfl⟩;refine⟨rfl,by rw[B.1],rfl,?_⟩;grind
   grind
  grind
 grind
theorem YU{b:Ty}(a:b.agg=Aj):b.sz N=1:=by unfold Ty.agg at a;grind[Ty.sz]
def fdK(P:GG)(S:Nat->SV N.T)(nk:Nat)(t:Gj)(x:El)(i:Nat)(k:Bw N.T->Nat->Option R):Option R:=match gW P t i with
 |some (off,c,m+1)=>match LW N P c,Ax S x with
  |some b, .d a y=>match a.agg,E' N 16 a y off b with
   |true,Ac z=>k ⟨.d b z,[],[]⟩ nk
   |_,_=>C5
  |_,_=>C5
 |_=>C5
theorem vD{i:Nat}(A:o.op= .field t x i)(h:fdK P S nk t x i k=Ac r):A1 P C S Rr nk o k r:=by
 unfold fdK at h;split at h
 ·rename_i off ft m U;obtain⟨Z,f,F,G,I,J,_⟩:=(jg.of U).ex;split at h
  ·rename_i E L y B V;split at h
   ·rename_i z s n;refine .y h (Abv λη H O a W _=>?_) λ_ _=>trivial;obtain⟨c,Q,e⟩:(SV.d L y:SV N.T).is C η H (a.eval x):=by grind[ZQ]
    have e:(match L.agg with|true=>a.eval x= .agg c.toArray|false=>c=[a.eval x]):=e;rw[s]at e;obtain⟨d,K,j,bytes,zz,D⟩:=J4 B;obtain⟨q,v⟩:=C3 n Q;cases b:E.agg with
    |true=>
     refine⟨.agg (c.toArray.extract off (off+E.sz N)),?_,(c.drop off).take (E.sz N),q,?_⟩;· rw[A];refine Au.Ao λM w X g _ u _=>?_;have:=u x _ rf;simp[Ki,g,this,e,Instr.field,AX F,G,asAgg,part,J,I,Ce K,j,b,D.sizeOf]
     ·unfold CJ;rw[b];simp only[BZ.agg.injEq];simp[List.extract_eq_take_drop]
    |false=>
     have T:=YU (N:=N) b;rw[T]at q v;have l:off<c.length:=by omega
     have hc:(c.drop off).take 1=[c[off]]:=by rw[Aaq l];rfl
     rw[hc]at q;refine⟨c[off],?_,[c[off]],q,?_⟩;· rw[A];refine Au.Ao λM w X g _ u _=>?_;have:=u x _ rfl;simp[Ki,g,this,e,Instr.field,AX F,G,asAgg,part,J,I,Ce K,j,b,l]
     ·unfold CJ;rw[b]
   grind
  grind
 grind
end
end
section
variable {N : C7} {R : Type} {P : GG} {C : List (SV N.T)} {S : Nat -> SV N.T} {Rr : Nat -> Option (SR N.T)} {nk : Nat} {o : KV} {k : Bw N.T -> Nat -> Option R} {r : R}
section
variable{H:Hp}{u t:Gj}{x y:El}
def K3:Ty->Option (List Lc)
 | .int k=>Ac [k]
 | .st t=>K3 t
 | .pr a b=>match K3 a,K3 b with
  |some x,Ac y=>Ac (x++y)
  |_,_=>C5
 |_=>C5
def DA:(t:Ty)->t.den N.T->List Int
 | .int _,x=>[x]
 | .st t,x=>DA t x
 | .pr a b,x=>DA a x.1++DA b x.2
 |_,_=>[]
theorem CE:∀ {t:Ty} {x:t.den N.T} {d:List Lc},K3 t=Ac d->(DA t x).length=d.length
 | .int _,_,_,h=>by cases h;rfl
 | .st t,x,_,h=>CE (t:=t) h
 | .pr a b,x,d,h=>by
  unfold K3 at h;split at h;· rename_i p q e f;cases h;show(DA a x.1++DA b x.2).length=_;rw[Aac,Aac,CE e,CE f]
  grind
theorem YI:∀ {b:List Lc} {xs:List Int} {a:List Lc} {ys:List Int},xs.length=b.length->CP (b++a) (xs++ys)=CP b xs++CP a ys
 | [],[],_,_,_=>rfl
 |k::b,x::xs,_,_,h=>by grind[CP]
 | [],_::_,_,_,h=>by grind
 |_::_,[],_,_,h=>by grind
theorem DZ{H:Hp} :∀ {t:Ty} {x:t.den N.T} {d:List Lc} {cs:List BZ},K3 t=Ac d->(N.c t).BP H x cs->cs=CP d (DA t x)
 | .int k,x,_,cs,h,c=>by cases h;exact(DY.1 c).1
 | .st t,x,_,cs,h,c=>DZ (t:=t) h c
 | .pr a b,x,d,cs,h,c=>by
  unfold K3 at h;split at h;· rename_i p q e j;cases h;obtain⟨l,m,rfl,g,i⟩:=c;show _=CP (p++q) (DA a x.1++DA b x.2);rw[YI (CE e),<-DZ e g,<-DZ j i]
  grind
def two(C:List (SV N.T))(t:Ty)(x y:SV N.T):Option (t.den N.T×t.den N.T):=match Tq C t x,Tq C t y with
 |some a,Ac b=>Ac (a,b)
 |_,_=>C5
def rG(P:GG)(t:Gj)(a:List Lc):Bool:=match P.underlying t with
 |some (.array n e)=>match P.underlying e with
  |some (.int k)=>(Pn P e 1&& !P.eqGuardType P.depth t)&&(Hc a.length n&&a.all λj=>kb j k)
  |_=>Aj
 |_=>Aj
theorem LO{k:Lc} :∀ {a:List Lc} {xs:List Int},(∀j∈a,j=k)->xs.length=a.length->CP a xs=xs.map (BZ.int k)
 | [],[],_,_=>rfl
 |j::a,x::xs,h,c=>by simp only[CP,List.zipWith_cons_cons,Aar,h j (by simp)];congr 1;exact LO (λj b=>h j (by grind)) (by grind)
 | [],_::_,_,h=>by grind
 |_::_,[],_,h=>by rfl
theorem Akr{O:List Aw}{E:El->Option BZ}{T:Gj}{ne:Bool}{d:List Lc}{xs ys:List Int}(b:rG P t d=Bp)(g:E x=Ac (.agg (CP d xs).toArray))(h:E y=Ac (.agg (CP d ys).toArray))(h1:xs.length=d.length)(h2:ys.length=d.length):
  Au P (.binOp (match ne with|true=> .neq|false=> .eql) t x y u) T E H O (.bool (match ne with|true=> !decide (xs=ys)|false=>Di (xs=ys))):=by
 unfold rG at b;split at b
 ·rename_i n e p;split at b;· rename_i k l;simp only[AT,Aed]at b;obtain⟨⟨q,i⟩,c,s⟩:=b;have c:=AI c;have m:∀j∈d,j=k:=λj v=>OC (No.1 s j v);obtain⟨bytes,z,f⟩:=Dl q;rw[LO m h1]at g;rw[LO m h2]at h;cases ne with
   |true=>grind[Ajh]
   |false=>exact Ajg i p l f g h (h1.trans c) (h2.trans c)
  grind
 grind
def zD(P:GG)(C:List (SV N.T))(S:Nat->SV N.T)(nk:Nat)(ne:Bool)(t:Gj)(x y:El)(k:Bw N.T->Nat->Option R):Option R:=match LW N P t with
 |some .bs=>match P.underlying t with
  |some (.array 4 e)=>match P.underlying e,Pn P e 1,P.eqGuardType P.depth t,two C .bs (Ax S x) (Ax S y)with
   |some (.int .u64),Bp,Aj,Ac (a,b)=>match ne with
    |false=>k ⟨.d .bool (eC a b),[],[]⟩ nk
    |true=>k ⟨.d .bool (!eC a b),[],[]⟩ nk
   |_,_,_,_=>C5
  |_=>C5
 |some (.st u)=>match K3 u,two C (.st u) (Ax S x) (Ax S y)with
  |some c,Ac (a,b)=>match R1 P t c with
   |true=>match ne with
    |false=>k ⟨.d .bool (Di (DA u a=DA u b)),[],[]⟩ nk
    |true=>k ⟨.d .bool (!decide (DA u a=DA u b)),[],[]⟩ nk
   |false=>match rG P t c with
    |true=>k ⟨.d .bool (match ne with|true=> !decide (DA u a=DA u b)|false=>Di (DA u a=DA u b)),[],[]⟩ nk
    |false=>C5
  |_,_=>C5
 |_=>C5
theorem Pj{t:Ty}{x y:SV N.T}{a b:t.den N.T}{η:Nat->BZ}{v w:BZ}(h:two C t x y=Ac (a,b))(e:x.is C η H v)(f:y.is C η H w):(SV.d t a).is C η H v/\(SV.d t b).is C η H w:=by grind[two,DH]
theorem ok_eq{ne:Bool}(s:o.op= .binOp (match ne with|true=> .neq|false=> .eql) t x y u)(h:zD P C S nk ne t x y k=Ac r):A1 P C S Rr nk o k r:=by
 have v:∀ {η:Nat->BZ} {H:Hp} {a:Act},(∀x∈o.op.operands,(Ax S x).is C η H (a.eval x))->(Ax S x).is C η H (a.eval x):=λc=>c x (by grind[ZQ]);have A:∀ {η:Nat->BZ} {H:Hp} {a:Act},(∀x∈o.op.operands,(Ax S x).is C η H (a.eval x))->(Ax S y).is C η H (a.eval y):=λc=>c y (by grind[ZQ]);unfold zD at h;split at h
 ·split at h
  ·rename_i e K;split at h
   ·rename_i a b I Q J D;obtain⟨bytes,z,B⟩:=Dl Q;have val:∀ {η:Nat->BZ} {H:Hp} {f:Act},(∀x∈o.op.operands,(Ax S x).is C η H (f.eval x))->f.eval x= .agg (NK a)/\f.eval y= .agg (NK b):=λc=>by
     obtain⟨⟨F,g,m⟩,G,i,n⟩:=Pj D (v c) (A c);subst g;subst i;have m:_=BZ.agg (NK a).toList.toArray:=m;have n:_=BZ.agg (NK b).toList.toArray:=n;exact⟨m,n⟩
    split at h;· refine .y h (Abv λη H O f c _=>?_) λ_ _=>trivial;obtain⟨p,q⟩:=val c;exact⟨_,by rw[s];exact Ait J K I B (congrArg Ac p) (congrArg Ac q),CO⟩
    ·refine .y h (Abv λη H O f c _=>?_) λ_ _=>trivial;obtain⟨p,q⟩:=val c;exact⟨_,by rw[s];exact Aip J K I B (congrArg Ac p) (congrArg Ac q),CO⟩
   grind
  grind
 ·rename_i w M;split at h
  ·rename_i L a b l D;split at h
   ·rename_i E;have val:∀ {η:Nat->BZ} {H:Hp} {f:Act},(∀x∈o.op.operands,(Ax S x).is C η H (f.eval x))->f.eval x= .agg (CP L (DA w a)).toArray/\f.eval y= .agg (CP L (DA w b)).toArray:=λc=>by
     obtain⟨⟨F,g,m⟩,G,i,n⟩:=Pj D (v c) (A c);have g:=DZ (t:=w) l g;have i:=DZ (t:=w) l i;subst g;subst i;exact⟨m,n⟩
    split at h;· refine .y h (Abv λη H O f c _=>?_) λ_ _=>trivial;obtain⟨p,q⟩:=val c;exact⟨_,by rw[s];exact Aks E (congrArg Ac p) (congrArg Ac q) (CE l) (CE l),CO⟩
    ·refine .y h (Abv λη H O f c _=>?_) λ_ _=>trivial;obtain⟨p,q⟩:=val c;exact⟨_,by rw[s];exact Akx E (congrArg Ac p) (congrArg Ac q) (CE l) (CE l),CO⟩
   ·split at h;· rename_i E;refine .y h (Abv λη H O f c _=>?_) λ_ _=>trivial;obtain⟨⟨F,g,m⟩,G,i,n⟩:=Pj D (v c) (A c);have g:=DZ (t:=w) l g;have i:=DZ (t:=w) l i;subst g;subst i;exact⟨_,by rw[s];exact Akr (ne:=ne) E (congrArg Ac m) (congrArg Ac n) (CE l) (CE l),CO⟩
    ·cases h
  ·cases h
 grind
def cC(P:GG)(C:List (SV N.T))(S:Nat->SV N.T)(nk:Nat)(b:BinOp)(t:Gj)(x y:El)(k:Bw N.T->Nat->Option R):Option R:=match wY P t with
 |true=>match b with
  | .eql=>zD P C S nk Aj t x y k
  | .neq=>zD P C S nk Bp t x y k
  |_=>C5
 |false=>rz P S nk b t x y k
theorem fS{b:BinOp}(a:o.op= .binOp b t x y u)(h:cC P C S nk b t x y k=Ac r):A1 P C S Rr nk o k r:=by
 unfold cC at h;split at h
 ·split at h;· exact ok_eq (ne:=Aj) a h
  ·exact ok_eq (ne:=Bp) a h
  grind
 grind[o9]
end
end
section
variable{Y:List (Nat×Aw)}{k:Nat}
def FA(Y:List (Nat×Aw))(k:Nat):List (Nat×Aw):=Y.filter λp=> !Nat.beq p.1 k
theorem DC{Y:List (Nat×Aw)}{k j:Nat}(h:j≠k):Ay (FA Y k) j=Ay Y j:=by
 induction Y with
 |nil=>rfl
 |cons p Y b=>
  obtain⟨q,y⟩:=p;simp only[FA,Afm]at b⊢;cases c:Hc q k with
  |true=>
   have:=AI c;simp only[Ahn,Adx,if_false,b,Ay];grind[Hc,absurd,aw]
  |false=>
   grind[Ay]
theorem CF{Y:List (Nat×Aw)}{k j:Nat}(h:j∈keys (FA Y k)):j∈keys Y:=by obtain⟨p,a,e⟩:=By.1 h;exact By.2 ⟨p,(Aba.1 a).1,e⟩
theorem H8(h:(keys Y).Nodup):(keys (FA Y k)).Nodup:=by grind[keys,FA]
theorem XN(h:k∉keys Y):FA Y k=Y:=by
 unfold FA;rw[List.filter_eq_self];intro p b;cases a:Hc p.1 k with
 |true=>exact absurd (By.2 ⟨p,b,AI a⟩) h
 |false=>rfl
theorem bq(Of:List Aw){x:Aw}(d:(keys Y).Nodup)(h:Ay Y k=Ac x):∃i,(Y.map (·.2)++Of)[i]?=Ac x/\(Y.map (·.2)++Of).eraseIdx i=(FA Y k).map (·.2)++Of:=by
 induction Y with
 |nil=>cases h
 |cons p Y g=>
  obtain⟨q,y⟩:=p;simp only[Ay]at h;simp only[keys,Aar,Aaz]at d;cases b:Hc q k with
  |true=>
   rw[b]at h;cases h;have:=AI b;refine⟨0,rfl,?_⟩;have:FA ((q,x)::Y) q=Y:=by unfold FA;rw[Afm];simp only[Agq,Ahn,Adx,if_false];exact XN d.1
   grind
  |false=>
   rw[b]at h;obtain⟨i,e,f⟩:=g d.2 h;refine⟨i+1,by simpa using e,?_⟩;simp_all[FA]
end
section
variable {N : C7}
def GJ(k:Nat)(t:Ty)(l:List (t.den N.T)):SV N.T->SV N.T
 | .AG j=>match Hc j k with
  |true=> .d (.sl t) l
  |false=> .AG j
 | .D_ j i off g x=>match Hc j k with
  |true=> .no
  |false=> .D_ j i off g x
 | .lf s a r=> .lf s (GJ k t l a) (GJ k t l r)
 | .t2 a b=> .t2 (GJ k t l a) (GJ k t l b)
 | .t3 a b c=> .t3 (GJ k t l a) (GJ k t l b) (GJ k t l c)
 | .AK f r e=> .AK f (GJ k t l r) e
 | .vc a r=> .vc (GJ k t l a) (GJ k t l r)
 |s=>s
variable {C : List (SV N.T)} {η : Nat -> BZ} {H : Hp}
theorem CL{g:Nat->BZ->Prop}{k:Nat}{t:Ty}{l:List (t.den N.T)}(h:GY (N.c t) H l (η k)):∀ {s:SV N.T} {v:BZ},s.BS g η H v->(GJ k t l s).BS g η H v
 | .AG j,v,o=>by
  unfold GJ;split;· rename_i E;have:=AI E;subst this;exact⟨[v],⟨v,rfl,by rw[o.1];omega⟩,rfl⟩
  omega
 | .D_ j i off I x,v,o=>by unfold GJ;split;all_goals trivial
 | .lf s a r,v,⟨w,A,u,e,m,n,p,B,D⟩=>⟨w,A,u,e,m,CL h n,p,B,CL h D⟩
 | .t2 a b,v,⟨x,y,e,m,n⟩=>⟨x,y,e,CL h m,CL h n⟩
 | .t3 a b c,v,⟨x,y,z,e,m,n,p⟩=>⟨x,y,z,e,CL h m,CL h n,CL h p⟩
 | .AK f r G,v,⟨q,e,m⟩=>⟨q,e,CL h m⟩
 | .vn,_,h=>h
 | .vc a r,v,⟨u,q,e,m,n⟩=>⟨u,q,e,CL h m,CL h n⟩
 | .d _ _,_,h=>h
 | .na _,_,h=>h
 | .ct _ _,_,h=>h
 | .cb _ _,_,h=>h
 | .lt _ _ _,_,h=>h
 | .lb _,_,h=>h
 | .raw _,_,h=>h
 | .ud,_,h=>h
 | .no,_,h=>h
 | .loc _ _,_,h=>h
 | .pd _ _ _,_,h=>h
 | .mp _,_,h=>h
 | .nl,_,h=>h
 | .px _ _,_,h=>h
 | .Cu _,_,h=>h
end
theorem LA{Y:List (Nat×Aw)}(Of:List Aw){k:Nat}{x:Aw}(h:Ay Y k=Ac x):(Y.map (·.2)++Of)[(keys Y).idxOf k]?=Ac x/\(keys Y).idxOf k<Y.length:=by
 induction Y with
 |nil=>cases h
 |cons p Y f=>
  obtain⟨q,y⟩:=p;simp only[Ay]at h;simp only[keys,Aar];rw[List.idxOf_cons];cases b:Hc q k with
  |true=>
   simp_all
  |false=>
   rw[b]at h;have c:(q==k)=Aj:=by simpa using Abe b
   obtain⟨d,e⟩:=f h;rw[c];unfold keys at d e;exact⟨by simpa using d,by simpa using e⟩
inductive PP where
 |sub (j n:Nat) (t:Ty)
 |sf
 |hc (n:Nat)
inductive SP where
 |v (j:Nat) (t:Ty)
 |AD (j i:Nat)
 |nat (j:Nat)
 |Am
 |kp (t:Ty)
 |c (j:Nat)
 |AG (k:Nat)
 |loc (k off:Nat)
 |AK (f:Nat) (fs:List (Nat×Ty)) (cs:List Nat)
 |nl
 |sv (ls:List (Nat×Nat×Ty))
 |mp (k:Nat)
 |px (ks:List Nat) (p:PP)
 |pd (j:Nat) (t:Ty) (off:Nat)
inductive RP where
 |row (g:Gj) (j:Nat)
 |Ai (g:Gj) (ls:List (Nat×SP))
 |c (j:Nat)
 |map (g:Gj) (j:Nat)
 |Ci (g e:Gj) (h j:Nat)
inductive HT where
 |Ae (t:Ty)
 |nat
structure A_ where
 hs:List HT
 sl:List (Nat×SP)
 ro:List (Nat×RP)
 nk:Nat
section
variable (N : C7)
section
variable{T:Nat->Type}
def HT.den:HT->Type
 | .Ae t=>t.den N.T
 | .nat=>Nat
def BI:List HT->Type
 | []=>Unit
 | [t]=>t.den N
 |t::u::a=>t.den N×BI (u::a)
def asN:SV T->Option Nat
 | .na n| .ct _ n| .cb _ n=>Ac n
 | .raw (.int .i64 (.ofNat n))=>match iK n QX with
  |true=>Ac n
  |false=>C5
 |_=>C5
def uK(C:List (SV N.T)):(h:HT)->SV N.T->Option (h.den N)
 | .Ae t,s=>Tq C t s
 | .nat,s=>asN s
def ep:(h:HT)->h.den N->SV N.T
 | .Ae t,x=> .d t x
 | .nat,n=> .na n
def wm(C:List (SV N.T))(f:Nat->SV N.T):Nat->(a:List HT)->Option (BI N a)
 |_,[]=>Ac ()
 |j,[t]=>uK N C t (f j)
 |j,t::u::b=>match uK N C t (f j),wm C f (j+1) (u::b)with
  |some x,Ac y=>Ac (x,y)
  |_,_=>C5
def Cr:(a:List HT)->BI N a->Nat->SV N.T
 | [],_,_=> .no
 | [t],x,0=>ep N t x
 | [_],_,_+1=> .no
 |t::_::_,x,0=>ep N t x.1
 |_::u::b,x,j+1=>Cr (u::b) x.2 j
def u6(a:List HT)(x:BI N a):List (Nat×Ty)->SV N.T
 | []=> .vn
 |(j,_)::l=> .vc (Cr N a x j) (u6 a x l)
def nX(a:List HT)(x:BI N a):List (Nat×Nat×Ty)->SV N.T
 | []=> .nl
 |(s,j,_)::l=> .lf s (Cr N a x j) (nX a x l)
def inst(a:List HT)(x:BI N a):SP->SV N.T
 | .v j _| .nat j=>Cr N a x j
 | .AD j i=>match Cr N a x j with
  | .na n=> .ct i n
  |s=>s
 | .c j=> .Cu j
 | .AG k=> .AG k
 | .loc k off=> .loc k off
 | .AK f g e=> .AK f (u6 N a x g) e
 | .nl=> .raw (.slice C5 0 0)
 | .sv h=>nX N a x h
 | .mp k=> .mp k
 | .px b (.sub j n t)=>match Cr N a x j,Cr N a x n with
  | .na i, .na m=> .px b (.sub i m t)
  |_,_=> .px b .any
 | .px b .sf=> .px b .sf
 | .px b (.hc n)=> .px b (.hc n)
 | .pd j _ off=>match Cr N a x j with
  | .d t x=> .pd t x off
  |_=> .no
 |_=> .no
def instL(a:List HT)(x:BI N a):List (Nat×SP)->SV N.T
 | []=> .nl
 |(s,p)::b=> .lf s (inst N a x p) (instL a x b)
def instR(a:List HT)(x:BI N a):RP->SR N.T
 | .row g j=>match Cr N a x j with
  | .d (.sl t) l=> .row g t l
  |_=> .gone
 | .Ai g f=> .Ai g (instL N a x f)
 | .c j=> .Cu j
 | .map g j=>match Cr N a x j with
  | .d (.sl (.st (.pr b i))) l=> .map g b i l
  |_=> .gone
 | .Ci g e h j=>match Cr N a x j with
  | .d (.sl (.pr .bool (.sl t))) l=> .Ci g e t h l
  |_=> .gone
def Fz(p:A_)(x:BI N p.hs):St N.T:=⟨p.sl.map λq=>(q.1,inst N p.hs x q.2),p.ro.map λq=>(q.1,instR N p.hs x q.2),p.nk⟩
def RR:SV N.T->Nat->Nat->Option (SV N.T)
 | .lf s a l,off,n=>match az off s with
  |true=>match Hc off 0&&Hc s n with
   |true=>Ac a
   |false=>C5
  |false=>RR l (off-s) n
 |_,_,_=>C5
def TE:SV N.T->Nat
 | .lf s _ l=>s+TE l
 |_=>0
def whole{T:Nat->Type} :SV T->Bool
 | .lf _ _ r=>whole r
 | .nl=>Bp
 |_=>Aj
def WS:SV N.T->Nat
 | .d t _=>t.sz N
 |_=>1
def zg(f:Nat->Nat)(c:Nat):Option (SV N.T)->Bool
 |some (.px [k] .sf)=>Hc (f c) k
 |some (.loc k 0)=>Hc (f c) k
 |some (.raw (.pointer C5))=>Bp
 |_=>Aj
def NC:Nat->List (Nat×SP)->List (Nat×Nat×SP)
 |_,[]=>[]
 |off,(s,p)::l=>(off,s,p)::NC (off+s) l
def AZ(m:List (Nat×Nat))(c:Nat):Nat:=match Ay m c with
 |some k=>k
 |none=>c
def Po(l:List (Nat×SP)):Nat:=l.foldr (λq n=>q.1+n) 0
def kmL(C:List (SV N.T))(b:SV N.T)(l:List (Nat×SP)):List (Nat×Nat):=(NC 0 l).flatMap λq=>match q.2.2,ET N C b q.1 C5 with
 | .AG c,Ac (.AG k)=>[(c,k)]
 | .mp c,Ac (.mp k)=>[(c,k)]
 | .px d .sf,Ac (.px e .sf)=>d.zip e
 | .px [c] .sf,Ac (.loc k _)=>[(c,k)]
 | .AK _ _ d,Ac (.AK _ _ e)=>d.zip e
 |_,_=>[]
def qo(C:List (SV N.T))(b:SV N.T)(l:List (Nat×SP)):List (Nat×SV N.T):=(NC 0 l).flatMap λq=>match q.2.2 with
 | .v j t=>[(j,(ET N C b q.1 (Ac t)).getD .no)]
 | .nat j=>[(j,(ET N C b q.1 C5).getD .no)]
 |_=>[]
end
end
section
variable {N : C7} {C : List (SV N.T)} {CR : List (SR N.T)} {n : Nat} {Of : List Aw} {bs : List (Nat × BZ)} {st : St N.T} {η : Nat -> BZ} {H : Hp} {a : Act} {w : IG}
section
variable{s:SV N.T}{v:BZ}{C':List (SV N.T)}{m:Nat}{h:HT}{x:h.den N}{η':Nat->BZ}{c:List BZ}
theorem rC(h:asN s=Ac m)(b:s.is C η H v):(SV.na m:SV N.T).is C η H v:=by
 unfold asN at h;split at h;· grind
 ·cases h;exact b
 ·cases h;exact⟨b.1,Agp b.2⟩
 ·split at h;· rename_i c;cases h;exact⟨b,Aax c⟩
  grind
 grind
theorem rD(c:uK N C h s=Ac x)(b:s.is C η H v):(ep N h x).is C η H v:=by
 cases h with
 |Ae t=>exact DH (t:=t) c b
 |nat=>exact rC c b
theorem eT(b:(ep N h x).is C η H v):(ep N h x).is C' η' H v:=by cases h<;>exact b
theorem Jz{f:Nat->SV N.T} :∀(b:List HT) (i:Nat) (x:BI N b),wm N C f i b=Ac x->∀j,Cr N b x j= .no\/∃h y,uK N C h (f (i+j))=Ac y/\Cr N b x j=ep N h y
 | [],_,_,_,_=> .inl rfl
 | [t],i,x,h,j=>by
  cases j with
  |zero=>exact .inr ⟨t,x,h,rfl⟩
  |succ j=>exact .inl rfl
 |t::u::c,i,x,h,j=>by
  have h:(match uK N C t (f i),wm N C f (i+1) (u::c)with
   |some x,Ac y=>Ac (x,y)
   |_,_=>C5)=Ac x:=h;split at h;· rename_i y z d e;cases h;cases j with
   |zero=>exact .inr ⟨t,y,d,rfl⟩
   |succ j=>
    have:=Jz (u::c) (i+1) z e j;rw[show i+1+j=i+(j+1) by omega]at this;trivial
  grind
theorem BK:∀ {l:List Nat},Cg l=Bp->l.Nodup
 | [],_=>Afd
 |k::l,h=>by simp only[Cg,AT,Aed]at h;refine Aaz.2 ⟨λb=>?_,BK h.2⟩;grind[AR]
theorem PZ{α:Type}{f:α->Nat} :∀ {l:List α},(l.map f).Nodup->∀ {a b:α},a∈l->b∈l->f a=f b->a=b
 | [],_,_,_,h,_,_=>by grind
 |x::l,c,a,b,m,o,e=>by
  rw[Aar,Aaz]at c;rcases Aav.1 m with g|j<;>rcases Aav.1 o with i|k;· grind
  ·grind
  ·grind
  ·exact PZ c.2 j k e
theorem Gx{b:SV N.T}{q:Nat×Nat×SP}{l:List (Nat×SP)}(h:q∈NC 0 l):(∀j t,q.2.2= .v j t->(j,(ET N C b q.1 (Ac t)).getD .no)∈qo N C b l)/\∀j,q.2.2= .nat j->(j,(ET N C b q.1 C5).getD .no)∈qo N C b l:=
 ⟨λj t e=>Aad.2 ⟨q,h,by grind⟩,λj e=>Aad.2 ⟨q,h,by grind⟩⟩
theorem J1:∀ {l:SV N.T} {cs:List BZ},whole l=Bp->l.is C η H (.agg cs.toArray)->∀x∈cs,x.oneCell'=Bp:=by
 intro l;induction l with
 |lf s a r _ f=>
  intro cs c h x b;obtain⟨g,i,u,rfl,j,k,m,d,e⟩:=Fx h;rcases AS.1 b with b|b;· grind
  ·exact f c e x b
 |nl=>
  intro cs _ h x b;have:cs=[]:=by have h:BZ.agg cs.toArray= .agg #[]:=h;grind
  grind
 |_=>intro cs c _;cases c
theorem HO:∀ {l:SV N.T} {cs:List BZ},whole l=Bp->l.is C η H (.agg cs.toArray)->TE N l=cs.length:=by
 intro l;induction l with
 |lf s a r _ d=>
  intro cs b h;obtain⟨e,f,u,rfl,g,i,j,k,c⟩:=Fx h;have:=d b c;grind[TE]
 |nl=>
  intro cs _ h;have:cs=[]:=by have h:BZ.agg cs.toArray= .agg #[]:=h;grind
  subst this;rfl
 |_=>intro cs b _;cases b
theorem aj:∀ {l s:SV N.T} {off m:Nat} {cs:List BZ},RR N l off m=Ac s->l.is C η H (.agg cs.toArray)->∃u,s.is C η H u/\u.cells.toList=(cs.drop off).take m/\u.cells.toList.length=m:=by
 intro l;induction l with
 |lf s a r _ p=>
  intro sv off m cs h o;obtain⟨y,z,u,rfl,c,j,e,A,k⟩:=Fx o;unfold RR at h;split at h
  ·split at h;· rename_i b;cases h;simp only[AT]at b;have g:=AI b.1;have i:=AI b.2;subst g;subst i;exact⟨u,j,by rw[e,Afg,Ach (by omega),<-c,Aau],by rw[e];exact c⟩
   grind
  ·rename_i b;have b:s<=off:=by
    rcases Aam off s with d|d;· rw[show az off s=Bp by simpa using d]at b;cases b
    ·exact d
   obtain⟨x,q,t,v⟩:=p h k;refine⟨x,q,?_,v⟩;rw[Acr,Aay (by omega),Acd,c];exact t
 |_=>intro sv off m cs h _;simp[RR]at h
structure de(C:List (SV N.T))(Hs:List (Nat×SV N.T))(P:Nat->SV N.T):Prop where
 ok:∀j s,(j,s)∈Hs->P j= .no\/∃h y,uK N C h s=Ac y/\P j=ep N h y
theorem de.is{Hs:List (Nat×SV N.T)}{P:Nat->SV N.T}(h:de C Hs P){j:Nat}(d:(j,s)∈Hs)(f:s.is C η H v):(P j).is C' η' H v:=by
 rcases h.ok j s d with e|⟨g,y,b,c⟩;· rw[e];trivial
 ·rw[c];exact eT (rD b f)
theorem Za{cs:List BZ}{off:Nat}(h:(cs.drop off).take m=c)(d:c.length=m):cs.drop off=c++cs.drop (off+m):=by grind[wO,List.take_append_drop]
theorem Zg{f:Nat->Nat}{c:Nat}{u:BZ}(b:zg N f c (Ac s)=Bp)(h:s.is C η H u) :(SV.px [c] .sf:SV N.T).is C' (λc=>η (f c)) H u/\WS N s=1:=by
 unfold zg at b;split at b;· rename_i k e;cases e;have:=AI b;subst this;trivial
 ·rename_i k e;cases e;have:=AI b;obtain⟨B,d,g⟩:=h;exact⟨.inr ⟨B,by grind,g⟩,rfl⟩
 ·rename_i e;cases e;exact⟨.inl h,rfl⟩
 grind
theorem Cv{sv:SV N.T}(h:xa C η H sv c):c.length=WS N sv:=by
 obtain⟨u,i,b,d⟩:=h;rcases d with⟨j,y,rfl,e⟩|⟨g,f⟩;· exact e
 ·rw[<-b,A9 g];cases sv<;>first|rfl|grind
end
end
def SV.DL{T:Nat->Type}(ρ:Nat->Nat):SV T->SV T
 | .loc k o=> .loc (ρ k) o
 | .AG k=> .AG (ρ k)
 | .mp k=> .mp (ρ k)
 | .D_ _ _ _ _ _=> .no
 | .lf s a l=> .lf s (a.DL ρ) (l.DL ρ)
 | .t2 a b=> .t2 (a.DL ρ) (b.DL ρ)
 | .t3 a b c=> .t3 (a.DL ρ) (b.DL ρ) (c.DL ρ)
 | .AK f l cs=> .AK f (l.DL ρ) (cs.map ρ)
 | .vc a l=> .vc (a.DL ρ) (l.DL ρ)
 | .px e p=> .px (e.map ρ) p
 |s=>s
def SR.DL{T:Nat->Type}(ρ:Nat->Nat):SR T->SR T
 | .Ai g l=> .Ai g (l.DL ρ)
 | .row g t l=> .row g t l
 | .map g a b l=> .map g a b l
 | .Ci g e t h l=> .Ci g e t (ρ h) l
 |_=> .gone
section
variable {N : C7} {C : List (SV N.T)} {η η' : Nat -> BZ} {H : Hp}
section
variable{ρ:Nat->Nat}{C':List (SV N.T)}
theorem Afi{g:Nat->BZ->Prop}{ρ:Nat->Nat} :∀ {s:SV N.T} {v:BZ},(∀k∈s.AJ,η' (ρ k)=η k)->s.BS g η H v->(s.DL ρ).BS g η' H v
 | .d t x,v,_,h=>h
 | .na _,_,_,h=>h
 | .ct _ _,_,_,h=>h
 | .cb _ _,_,_,h=>h
 | .lt _ _ _,_,_,h=>h
 | .lb _,_,_,h=>h
 | .raw _,_,_,h=>h
 | .ud,_,_,h=>h
 | .no,_,_,h=>h
 | .loc k o,_,e,h=>by grind[SV.DL,SV.BS,SV.AJ]
 | .AG k,_,e,h=>by grind[SV.DL,SV.BS,SV.AJ]
 | .D_ _ _ _ _ _,_,_,_=>trivial
 | .pd t x off,v,_,h=>h
 | .mp k,_,e,h=>by grind[SV.DL,SV.BS,SV.AJ]
 | .lf s a l,v,e,⟨A,B,u,m,i,n,q,E,F⟩=>⟨A,B,u,m,i,Afi (λk j=>e k (by grind[SV.AJ])) n,q,E,Afi (λk j=>e k (by grind[SV.AJ])) F⟩
 | .nl,_,_,h=>h
 | .t2 a b,v,e,⟨x,y,m,i,n⟩=>⟨x,y,m,Afi (λk j=>e k (by grind[SV.AJ])) i,Afi (λk j=>e k (by grind[SV.AJ])) n⟩
 | .t3 a b c,v,e,⟨x,y,z,m,i,n,q⟩=>⟨x,y,z,m,Afi (λk j=>e k (by grind[SV.AJ])) i,Afi (λk j=>e k (by grind[SV.AJ])) n,Afi (λk j=>e k (by grind[SV.AJ])) q⟩
 | .AK f l I,v,e,⟨w,m,i⟩=>⟨w,by simp_all[SV.AJ],Afi (λk j=>e k (by grind[SV.AJ])) i⟩
 | .vn,_,_,h=>h
 | .vc a l,v,e,⟨u,w,m,i,n⟩=>⟨u,w,m,Afi (λk j=>e k (by grind[SV.AJ])) i,Afi (λk j=>e k (by grind[SV.AJ])) n⟩
 | .px r p,v,e,h=>by
  have D:(r.map ρ).map η'=r.map η:=by simp_all[SV.AJ]
  show p.is ((r.map ρ).map η') H v;rw[D];exact h
 | .Cu _,_,_,h=>h
theorem SR.Mj{k:Nat}{s:SR N.T}{r:Aw}(f:η' (ρ k)=η k)(e:∀j∈s.AJ,η' (ρ j)=η j)(h:s.is [] η H k r):(s.DL ρ).is C' η' H (ρ k) r:=by
 cases s with
 |Ai g l=>
  obtain⟨B,i,b,a,c⟩:=h;exact⟨B,i,f.trans b,a,SV.BS.imp (λ_ _ ⟨_,h,_⟩=>by grind) (Afi e c)⟩
 |row g t l=>obtain⟨d,b,a⟩:=h;exact⟨d,by grind,a⟩
 |Cu j=>trivial
 |gone=>trivial
 |map g p q l=>obtain⟨B,b,a⟩:=h;exact⟨B,f.trans b,a⟩
 |Ci g o t m l=>obtain⟨d,n,b,a,c⟩:=h;exact⟨d,n,by grind,(e m (by simp[SR.AJ])).trans a,c⟩
theorem SV.Mj{s:SV N.T}{v:BZ}(e:∀k∈s.AJ,η' (ρ k)=η k)(h:s.is [] η H v):(s.DL ρ).is C' η' H v:=
 SV.BS.imp (λ_ _ ⟨_,h,_⟩=>by grind) (Afi e h)
theorem SH.Q1{w:IG}{Y Z:List (Nat×Aw)}{Of:List Aw}(h:SH w H (Y.map (·.2)++Of))(t:(keys Z).Nodup)(u:∀p∈Z,Ay Y p.1=Ac p.2):SH w H (Z.map (·.2)++Of):=by
 refine h.pick (λi=>match Z[i]? with
  |some p=>(keys Y).idxOf p.1
  |none=>Y.length+(i-Z.length)) (λi r E=>?_) λi j B D e=>?_;· cases s:Z[i]? with
  |some p=>
   grind[List.getElem?_append_left,LA,List.mem_of_getElem?]
  |none=>
   grind
 ·have lt:∀ {i:Nat} {p:Nat×Aw},Z[i]?=Ac p->(keys Y).idxOf p.1<Y.length:=λ{i} {p} s=>(LA Of (u p (Aai s))).2;cases b:Z[i]? with
  |some p=>
   cases a:Z[j]? with
   |some q=>
    simp only[b,a]at e;have y:=Dj (u q (Aai a));have n:(keys Y)[(keys Y).idxOf p.1]?=Ac p.1:=by grind
    have x:(keys Y)[(keys Y).idxOf q.1]?=Ac q.1:=by grind
    rw[e,x]at n;have o:=Abp n;have k:(keys Z)[i]?=Ac p.1:=by unfold keys;rw[Abz,b];rfl
    have l:(keys Z)[j]?=Ac q.1:=by unfold keys;rw[Abz,a];rfl
    obtain⟨f,k⟩:=IS.1 k;obtain⟨g,l⟩:=IS.1 l;rcases Acx i j with d|v|d;· exact(Aaw.1 t i j f g d (by rw[k,l];exact o.symm)).elim
    ·exact v
    ·exact(Aaw.1 t j i g f d (by rw[k,l];exact o)).elim
   |none=>
    simp only[b,a]at e;have:=lt b;omega
  |none=>
   cases a:Z[j]? with
   |some q=>
    simp only[b,a]at e;have:=lt a;omega
   |none=>
    simp only[b,a]at e;have z:=Afz.1 b;have A:=Afz.1 a;omega
end
end
structure PQ(N:C7)where
 pi:A_
 po:A_
 rk:Nat
 gone:List Nat
 F:BI N pi.hs->Option (BI N po.hs)
def Ic:List (Nat×SP)->Nat->SP:=λl i=>match Ay l i with
 |some p=>p
 |none=> .Am
section
variable {N : C7}
def Jc(q:PQ N)(y:BI N q.po.hs):SV N.T:=match q.rk with
 |0=> .raw (.tuple #[])
 |1=>inst N q.po.hs y (Ic q.po.sl 0)
 |2=> .t2 (inst N q.po.hs y (Ic q.po.sl 0)) (inst N q.po.hs y (Ic q.po.sl 1))
 |_=> .t3 (inst N q.po.hs y (Ic q.po.sl 0)) (inst N q.po.hs y (Ic q.po.sl 1)) (inst N q.po.hs y (Ic q.po.sl 2))
structure PIn(q:PQ N)(x:BI N q.pi.hs)(η:Nat->BZ)(H:Hp)(Y:List (Nat×Aw))(vs:List BZ):Prop where
 len:vs.length=q.pi.sl.length
 sl:∀p∈q.pi.sl,∃v,vs[p.1]?=Ac v/\(inst N q.pi.hs x p.2).is [] η H v
 ks:keys Y=q.pi.ro.map (·.1)
 ro:∀p∈q.pi.ro,∃X,Ay Y p.1=Ac X/\(instR N q.pi.hs x p.2).is [] η H p.1 X
 inv:N.inv H
structure xb(q:PQ N)(y:BI N q.po.hs)(η η':Nat->BZ)(H':Hp)(Y Y':List (Nat×Aw))(v:BZ):Prop where
 env:∀k,k<q.pi.nk->η' k=η k
 nd:(keys Y').Nodup
 ks:∀k∈keys Y',k∈keys Y\/k∈q.po.ro.map (·.1)
 ro:∀p∈q.po.ro,∃X,Ay Y' p.1=Ac X/\(instR N q.po.hs y p.2).is [] η' H' p.1 X
 st:∀k∈keys Y,k∉q.po.ro.map (·.1)->k∉q.gone->Ay Y' k=Ay Y k
 res:(Jc q y).is [] η' H' v
structure Cp(P:GG)(f:Nat)(q:PQ N):Prop where
 bB:Ts P f
 ok:∀x y,q.F x=Ac y->∀(η:Nat->BZ) (H:Hp) (Of:List Aw) (Y:List (Nat×Aw)) (vs:List BZ),(keys Y).Nodup->PIn q x η H Y vs->
  Td P f vs H (Y.map (·.2)++Of) (λv H' O'=> ∃η' Y',O'=Y'.map (·.2)++Of/\xb q y η η' H' Y Y' v)
def zc(q:PQ N):Bool:=((q.pi.ro.map (·.1)).all λk=>az k q.pi.nk)&&(Cg (q.pi.ro.map (·.1))&&(Cg (q.po.ro.map (·.1))&&(iK q.pi.nk q.po.nk&&(((q.po.ro.map (·.1)).all λk=>B3 (q.pi.ro.map (·.1)) k||(iK q.pi.nk k&&az k q.po.nk))&&(q.gone.all λk=>B3 (q.pi.ro.map (·.1)) k)))))
def qkS(A:Nat->SV N.T)(l:List (Nat×SP)):List (Nat×Nat):=l.flatMap λq=>match q.2,A q.1 with
 | .AG c, .AG k=>[(c,k)]
 | .loc c _, .loc k _=>[(c,k)]
 | .AK _ _ a, .AK _ _ b=>a.zip b
 | .mp c, .mp k=>[(c,k)]
 | .px a _, .px b _=>a.zip b
 |_,_=>[]
def qkR(C:List (SV N.T))(Rr:Nat->Option (SR N.T))(m:List (Nat×Nat))(l:List (Nat×RP)):List (Nat×Nat):=l.flatMap λq=>match q.2,Rr (AZ m q.1)with
 | .Ai _ a,Ac (.Ai _ b)=>kmL N C b a
 |_,_=>[]
def u7:List (Nat×Ty)->SV N.T->List (Nat×SV N.T)
 |(j,_)::l, .vc a r=>(j,a)::u7 l r
 |_,_=>[]
def vcB:List (Nat×Ty)->SV N.T->Bool
 | [], .vn=>Bp
 |_::l, .vc _ r=>vcB l r
 |_,_=>Aj
def uF(ls:List (Nat×Nat×Ty)):List (Nat×SP):=ls.map λq=>(q.1, .v q.2.1 q.2.2)
def eA(C:List (SV N.T))(A:Nat->SV N.T)(l:List (Nat×SP)):List (Nat×SV N.T):=l.flatMap λq=>match q.2,A q.1 with
 | .v j _,s=>[(j,s)]
 | .nat j,s=>[(j,s)]
 | .AK _ a _, .AK _ r _=>u7 a r
 | .sv b,s=>qo N C s (uF b)
 | .px _ (.sub j n _), .px _ (.sub i m _)=>[(j, .na i),(n, .na m)]
 | .pd j _ _, .pd t x _=>[(j, .d t x)]
 |_,_=>[]
def eB(C:List (SV N.T))(Rr:Nat->Option (SR N.T))(m:List (Nat×Nat))(l:List (Nat×RP)):List (Nat×SV N.T):=l.flatMap λq=>match q.2,Rr (AZ m q.1)with
 | .row _ j,Ac (.row _ t x)=>[(j, .d (.sl t) x)]
 | .map _ j,Ac (.map _ a e x)=>[(j, .d (.sl (.st (.pr a e))) x)]
 | .Ai _ c,Ac (.Ai _ b)=>qo N C b c
 |_,_=>[]
def M_:List Nat->List Nat->Bool
 | [],[]=>Bp
 |a::l,b::m=>Hc a b&&M_ l m
 |_,_=>Aj
theorem Fp:∀ {l m:List Nat},M_ l m=Bp->l=m
 | [],[],_=>rfl
 | [],_::_,h=>by cases h
 |_::_,[],h=>by cases h
 |a::l,b::m,h=>by simp only[M_,AT]at h;rw[AI h.1,Fp h.2]
def zj(C:List (SV N.T))(b:SV N.T)(m:List (Nat×Nat))(q:Nat×Nat×SP):Bool:=match q.2.2 with
 | .v _ t=>match ET N C b q.1 (Ac t)with
  |some sv=>Hc (WS N sv) q.2.1
  |none=>Aj
 | .nat _=>match ET N C b q.1 C5 with
  |some sv=>Hc (WS N sv) q.2.1
  |none=>Aj
 | .AG c=>match ET N C b q.1 C5 with
  |some (.AG k)=>Hc (AZ m c) k&&Hc q.2.1 1
  |_=>Aj
 | .AK f [] a=>match ET N C b q.1 C5 with
  |some (.AK g .vn d)=>Hc f g&&(M_ (a.map (AZ m)) d&&Hc q.2.1 1)
  |_=>Aj
 | .mp c=>match ET N C b q.1 C5 with
  |some (.mp k)=>Hc (AZ m c) k&&Hc q.2.1 1
  |_=>Aj
 | .px [c] .sf=>zg N (AZ m) c (ET N C b q.1 C5)&&Hc q.2.1 1
 |_=>Aj
def qcS(C:List (SV N.T))(A:Nat->SV N.T)(m:List (Nat×Nat))(q:Nat×SP):Bool:=match q.2 with
 | .v _ _=>Bp
 | .nat _=>Bp
 | .Am=>Bp
 | .AG c=>match A q.1 with
  | .AG k=>Hc (AZ m c) k
  |_=>Aj
 | .loc c off=>match A q.1 with
  | .loc k o=>Hc (AZ m c) k&&Hc off o
  |_=>Aj
 | .AK f e a=>match A q.1 with
  | .AK g r b=>Hc f g&&(vcB e r&&M_ (a.map (AZ m)) b)
  |_=>Aj
 | .sv d=>whole (A q.1)&&Hc (Po (uF d)) (TE N (A q.1))&&(NC 0 (uF d)).all (zj C (A q.1) m)
 | .nl=>match A q.1 with
  | .raw (.slice C5 0 0)=>Bp
  |_=>Aj
 | .mp c=>match A q.1 with
  | .mp k=>Hc (AZ m c) k
  |_=>Aj
 | .pd _ _ off=>match A q.1 with
  | .pd _ _ o=>Hc off o
  |_=>Aj
 | .px a (.sub _ _ t)=>match A q.1 with
  | .px b (.sub _ _ i)=>M_ (a.map (AZ m)) b&&t.JE i
  |_=>Aj
 | .px a (.hc n)=>match A q.1 with
  | .px b (.hc h)=>M_ (a.map (AZ m)) b&&Hc n h
  |_=>Aj
 |_=>Aj
def qcR(C:List (SV N.T))(Rr:Nat->Option (SR N.T))(m:List (Nat×Nat))(n:Nat)(q:Nat×RP):Bool:=match q.2 with
 | .row g j=>match Rr (AZ m q.1)with
  |some (.row a _ _)=>Hc g a&&az j n
  |_=>Aj
 | .map g j=>match Rr (AZ m q.1)with
  |some (.map a _ _ _)=>Hc g a&&az j n
  |_=>Aj
 | .Ai g c=>match Rr (AZ m q.1)with
  |some (.Ai a b)=>Hc g a&&(whole b&&Hc (Po c) (TE N b)&&(NC 0 c).all (zj C b m))
  |_=>Aj
 |_=>Aj
def Hd(C:List (SV N.T))(Rr:Nat->Option (SR N.T))(A:Nat->SV N.T)(q:A_):List (Nat×Nat):=
 let a:=qkS A q.sl
 a++qkR C Rr a q.ro
def JF(C:List (SV N.T))(Rr:Nat->Option (SR N.T))(A:Nat->SV N.T)(m:List (Nat×Nat))(q:A_):Option (BI N q.hs):=
 match Cg (q.ro.map λp=>AZ m p.1)&&(q.sl.all (qcS C A m)&&(q.ro.all (qcR C Rr m q.hs.length)&&Cg ((eA C A q.sl++eB C Rr m q.ro).map (·.1))))with
 |true=>wm N C (λj=>(Ay (eA C A q.sl++eB C Rr m q.ro) j).getD .no) 0 q.hs
 |false=>C5
variable {C : List (SV N.T)} {η : Nat -> BZ} {H : Hp} {Rr : Nat -> Option (SR N.T)} {A : Nat -> SV N.T}
section
variable{m:List (Nat×Nat)}
theorem instQ_ok{M:List HT}{x:BI N M}{b:SV N.T}{m:List (Nat×Nat)}{Hs:List (Nat×SV N.T)}{cs:List BZ}(O:de C Hs (Cr N M x))(E:b.is C η H (.agg cs.toArray))(B:∀y∈cs,y.oneCell'=Bp):
  ∀(ls:List (Nat×SP)) (off:Nat),(∀q∈NC off ls,zj C b m q=Bp/\(∀j t,q.2.2= .v j t->(j,(ET N C b q.1 (Ac t)).getD .no)∈Hs)/\∀j,q.2.2= .nat j->(j,(ET N C b q.1 C5).getD .no)∈Hs)->off+Po ls=cs.length->
   (instL N M x ls).is [] (λc=>η (AZ m c)) H (.agg (cs.drop off).toArray)
 | [],off,_,P=>by have:cs.drop off=[]:=Aay (by grind[Po]);rw[this];rfl
 |(s,p)::ls,off,S,P=>by
  have P:off+(s+Po ls)=cs.length:=P;have Z:=instQ_ok O E B ls (off+s) (λq Q=>S q (Aag _ Q)) (by omega);obtain⟨a,Y,L⟩:=S (off,s,p) (Aat ..);have n:∀ {u:BZ},(inst N M x p).is [] (λc=>η (AZ m c)) H u->u.cells.toList=(cs.drop off).take s->u.cells.toList.length=s->(instL N M x ((s,p)::ls)).is [] (λc=>η (AZ m c)) H (.agg (cs.drop off).toArray):=λ{u} l e J=>by have K:=K1 (s:=s) l J (λy hy=>B y (by grind)) Z;rw[e]at J K;rw[<-Za rfl J]at K;exact K
  unfold zj at a;cases p with
  |v j t=>
   simp only at a;split at a;· rename_i sv o;have R:=AI a;obtain⟨c,i,hc⟩:=Dn o E;have d:=Cv i;obtain⟨u,l,e,_⟩:=i;have h:=Y j t rfl;rw[o]at h;exact n (O.is h l) (by grind) (by grind)
   grind
  |nat j=>
   simp only at a;split at a
   ·rename_i sv o;have R:=AI a;obtain⟨c,i,hc⟩:=Dn o E;have d:=Cv i;obtain⟨u,l,e,_⟩:=i;have h:=L j rfl;rw[o]at h;have d:c.length=s:=by omega
    rw[d]at hc;exact n (O.is h l) (by rw[e,hc]) (by rw[e];exact d)
   grind
  |AG c=>
   simp only at a;split at a;· rename_i k w;rw[AT]at a;have G:=AI a.1;have D:=AI a.2;subst D;obtain⟨F,i,hc⟩:=Dn w E;have d:=Cv i;obtain⟨u,l,e,_⟩:=i;have d:F.length=1:=d;rw[d]at hc;exact n (u:=u) ⟨by show u=η (AZ m c);rw[G];exact l.1,l.2⟩ (by rw[e,hc]) (by rw[e];exact d)
   ·cases a
  |AK f X cs=>
   cases X with
   |cons _ _=>cases a
   |nil=>
    simp only at a;split at a;· rename_i g ks w;simp only[AT]at a;have G:=AI a.1;have D:=AI a.2.2;have W:=Fp a.2.1;subst G;subst D;subst W;obtain⟨F,i,hc⟩:=Dn w E;have d:=Cv i;obtain⟨u,l,e,_⟩:=i;have d:F.length=1:=d;rw[d]at hc;obtain⟨us,U,V⟩:=l;exact n (u:=u) ⟨us,by rw[U,Aal];rfl,V⟩ (by rw[e,hc]) (by rw[e];exact d)
    ·cases a
  |mp c=>
   simp only at a;split at a;· rename_i k w;rw[AT]at a;have G:=AI a.1;have D:=AI a.2;subst D;obtain⟨F,i,hc⟩:=Dn w E;have d:=Cv i;obtain⟨u,l,e,_⟩:=i;have d:F.length=1:=d;rw[d]at hc;exact n (u:=u) ⟨by show u=η (AZ m c);rw[G];exact l.1,l.2⟩ (by rw[e,hc]) (by rw[e];exact d)
   ·cases a
  |px cs z=>
   cases z with
   |sub _ _ _=>cases cs with
    |nil=>cases a
    |cons c cs=>cases cs<;>cases a
   |hc _=>cases cs with
    |nil=>cases a
    |cons c cs=>cases cs<;>cases a
   |sf=>
    match cs,a with
    | [],a=>cases a
    | [c],a=>
     rw[AT]at a;cases w:ET N C b off C5 with
     |none=>rw[w]at a;cases a.1
     |some s0=>
      rw[w]at a;have D:=AI a.2;subst D;obtain⟨F,i,hc⟩:=Dn w E;have d:=Cv i;obtain⟨u,l,e,_⟩:=i;obtain⟨J,K⟩:=Zg a.1 l;rw[K]at d;rw[d]at hc;exact n (u:=u) J (by rw[e,hc]) (by rw[e];exact d)
    |_::_::_,a=>cases a
  |_=>cases a
theorem kH{b:List HT}{x:BI N b}{Hs:List (Nat×SV N.T)}{η':Nat->BZ}(f:de C Hs (Cr N b x)):∀ {fs:List (Nat×Ty)} {r:SV N.T} {us:List BZ},vcB fs r=Bp->(∀p∈u7 fs r,p∈Hs)->r.is C η H (.tuple us.toArray)->(u6 N b x fs).is [] η' H (.tuple us.toArray)
 | [], .vn,us,_,_,h=>h
 | [], .d _ _,_,h,_,_=>by cases h
 |(j,t)::l, .vc a r,us,m,g,⟨u,c,e,i,k⟩=>by refine⟨u,c,e,f.is (g (j,a) (by simp[u7])) i,kH (fs:=l) f m (λp n=>g p (by grind[u7])) k⟩
theorem Y2(a:List HT)(x:BI N a):∀ls,nX N a x ls=instL N a x (uF ls)
 | []=>rfl
 |(s,j,t)::ls=>by show SV.lf s (Cr N a x j) (nX N a x ls)=SV.lf s (Cr N a x j) (instL N a x (uF ls));rw[Y2 a x ls]
theorem WN:∀ {l:SV N.T} {v:BZ},whole l=Bp->l.is C η H v->∃cs:List BZ,v= .agg cs.toArray:=by
 intro l v b h;cases l with
 |lf s a r=>obtain⟨c,d,u,e,_⟩:=h;grind
 |nl=>exact⟨[],h⟩
 |_=>cases b
theorem TR:∀(a:List HT) (x:BI N a) (j:Nat),j<a.length->Cr N a x j≠ .no
 | [],_,_,h,_=>by grind
 | [t],x,0,_,e=>by cases t<;>cases e
 | [_],_,j+1,h,_=>by grind
 |t::u::b,x,0,_,e=>by cases t<;>cases e
 |t::u::b,x,j+1,h,e=>TR (u::b) x.2 j (by grind) e
theorem LH{q:A_}{x:BI N q.hs}{Y:List (Nat×Aw)}{vs:List BZ}(hx:JF C Rr A m q=Ac x)(hlen:vs.length=q.sl.length)(hsl:∀p∈q.sl,∃v,vs[p.1]?=Ac v/\(A p.1).is C η H v)
  (hr:∀p∈q.ro,∀Z,Rr (AZ m p.1)=Ac Z->DQ C η H Y (AZ m p.1) Z):
  (q.ro.map λp=>AZ m p.1).Nodup/\(∀p∈q.sl,∃v,vs[p.1]?=Ac v/\(inst N q.hs x p.2).is [] (λc=>η (AZ m c)) H v)/\∀p∈q.ro,(∃Z,Rr (AZ m p.1)=Ac Z)/\∃X,Ay Y (AZ m p.1)=Ac X/\(instR N q.hs x p.2).is [] (λc=>η (AZ m c)) H p.1 X:=by
 unfold JF at hx;split at hx
 ·rename_i Q;simp only[AT]at Q;obtain⟨hnd,hS,hR,hN⟩:=Q;have U:=BK hN;have D:de C (eA C A q.sl++eB C Rr m q.ro) (Cr N q.hs x):=⟨λj s T=>by
   rcases Jz q.hs 0 x hx j with e|⟨K,y,F,G⟩;· grind
   ·rw[Abl,CI U T]at F;grind⟩;refine⟨BK hnd,λp E=>?_,λp E=>?_⟩;· obtain⟨v,hv,h⟩:=hsl p E;refine⟨v,hv,?_⟩;have hc:=No.1 hS p E;unfold qcS at hc;cases u:p.2 with
   |v j t=>exact D.is (Abu _ (Aad.2 ⟨p,E,by simp[u]⟩)) h
   |nat j=>exact D.is (Abu _ (Aad.2 ⟨p,E,by simp[u]⟩)) h
   |Am=>trivial
   |sv W=>
    rw[u]at hc;simp only[AT]at hc;obtain⟨cs,rfl⟩:=WN hc.1.1 h;have hlen2:=HO (cs:=cs) hc.1.1 h;have:=instQ_ok (m:=m) D h (J1 hc.1.1 h) (uF W) 0 (λz O=>⟨No.1 hc.2 z O,λj t e=>Abu _ (Aad.2 ⟨p,E,by simp_all[Gx]⟩),λj e=>Abu _ (Aad.2 ⟨p,E,by simp_all[Gx]⟩)⟩) (by simp_all);show(nX N q.hs x W).is [] _ H _;grind[Y2]
   |nl=>
    rw[u]at hc;simp only at hc;split at hc;· rename_i a;rw[a]at h;exact h
    grind
   |AG c=>
    rw[u]at hc;simp only at hc;split at hc;· rename_i k a;have e:=AI hc;rw[a]at h;exact⟨by show v=η (AZ m c);rw[e];exact h.1,h.2⟩
    trivial
   |loc c off=>
    rw[u]at hc;simp only at hc;split at hc;· rename_i k o a;rw[AT]at hc;have e:=AI hc.1;have G:=AI hc.2;subst G;rw[a]at h;obtain⟨B,b1,b2⟩:=h;exact⟨B,by show η (AZ m c)=_;rw[e];exact b1,b2⟩
    ·cases hc
   |AK f fs cs=>
    rw[u]at hc;simp only at hc;split at hc;· rename_i g r ks a;simp only[AT]at hc;have e:=AI hc.1;subst e;have G:=Fp hc.2.2;rw[a]at h;obtain⟨us,J,L⟩:=h;refine⟨us,?_,kH D hc.2.1 (λz O=>Abu _ (Aad.2 ⟨p,E,by simp[u,a,O]⟩)) L⟩;rw[J,<-G,Aal];rfl
    ·cases hc
   |mp c=>
    rw[u]at hc;simp only at hc;split at hc;· rename_i k a;have e:=AI hc;rw[a]at h;exact⟨by show v=η (AZ m c);rw[e];exact h.1,h.2⟩
    ·cases hc
   |pd j t off=>
    rw[u]at hc;simp only at hc;split at hc
    ·rename_i t' y' o a;have F:=AI hc;subst F;rw[a]at h;have w:(j,(SV.d t' y':SV N.T))∈eA C A q.sl++eB C Rr m q.ro:=Abu _ (Aad.2 ⟨p,E,by simp[u,a]⟩);show(match Cr N q.hs x j with| .d t x=>SV.pd t x off|_=> .no).is [] _ H v;rcases D.ok j _ w with e|⟨K,y,F,G⟩;· rw[e];trivial
     ·rw[G];cases K with
      |nat=>trivial
      |Ae P=>
       obtain⟨f,S,I⟩:=Pd.1 (show(Qe N.T t' P).map (· y')=Ac y from F);obtain⟨R,rfl⟩:=BA S;have:=Adn R;subst this;cases I;exact h
    ·cases hc
   |px cs z=>
    cases z with
    |sf=>rw[u]at hc;cases hc
    |sub j n t=>
     rw[u]at hc;simp only at hc;split at hc
     ·rename_i ks i n' t' a;simp only[AT]at hc;have F:=Fp hc.1;have I:=Adn hc.2;subst F;subst I;rw[a]at h;have w:(j,(SV.na i:SV N.T))∈eA C A q.sl++eB C Rr m q.ro:=Abu _ (Aad.2 ⟨p,E,by simp[u,a]⟩);have M:(n,(SV.na n':SV N.T))∈eA C A q.sl++eB C Rr m q.ro:=Abu _ (Aad.2 ⟨p,E,by simp[u,a]⟩);have na:∀ {j i:Nat},(j,(SV.na i:SV N.T))∈eA C A q.sl++eB C Rr m q.ro->Cr N q.hs x j= .na i\/∀i',Cr N q.hs x j≠ .na i':=λ{j i} hm=>by
       rcases D.ok j _ hm with e|⟨K,y,F,G⟩;· rw[e];exact .inr λ_ e=>by cases e
       ·rw[G];cases K with
        |nat=>
         cases F;exact .inl rfl
        |Ae P=>exact .inr λ_ e=>by cases e
      show(match Cr N q.hs x j,Cr N q.hs x n with| .na i, .na m=>SV.px cs (.sub i m t)|_,_=> .px cs .any).is [] _ H v;rcases na w with e|e
      ·rcases na M with G|G;· rw[e,G];have h:PX.is ((cs.map (AZ m)).map η) H (.sub i n' t) v:=h;rw[Aal]at h;exact h
       ·split;· rename_i L;exact absurd L (G _)
        ·trivial
      ·split;· rename_i J _;exact absurd J (e _)
       ·trivial
     ·cases hc
    |hc n=>
     rw[u]at hc;simp only at hc;split at hc;· rename_i ks n' a;simp only[AT]at hc;have F:=Fp hc.1;have I:=AI hc.2;subst F;subst I;rw[a]at h;have h:PX.is ((cs.map (AZ m)).map η) H (.hc n:PX N.T) v:=h;rw[Aal]at h;exact h
     ·cases hc
   |_=>rw[u]at hc;cases hc
  ·have hc:=No.1 hR p E;unfold qcR at hc;cases u:p.2 with
   |Ci _ _ _ _=>rw[u]at hc;cases hc
   |row g j=>
    rw[u]at hc;simp only at hc;split at hc
    ·rename_i g' t l a;rw[AT]at hc;have e:=AI hc.1;have T:j<q.hs.length:=by simpa using hc.2
     subst e;refine⟨⟨_,a⟩,?_⟩;rcases hr p E _ a with e|⟨X,J,L⟩;· cases e
     refine⟨X,J,?_⟩;have w:(j,SV.d (.sl t) l)∈eA C A q.sl++eB C Rr m q.ro:=Acb _ (Aad.2 ⟨p,E,by simp[u,a]⟩);show(match Cr N q.hs x j with| .d (.sl t) l=>SR.row g t l|_=> .gone).is [] _ H _ X;rcases D.ok j _ w with e|⟨K,y,F,G⟩;· exact(TR q.hs x j T e).elim
     ·rw[G];cases K with
      |nat=>cases F
      |Ae P=>
       obtain⟨f,S,I⟩:=Pd.1 (show(Qe N.T (.sl t) P).map (· l)=Ac y from F);obtain⟨R,rfl⟩:=BA S;have:=Adn R;subst this;cases I;exact L
    ·cases hc
   |Ai g W=>
    rw[u]at hc;simp only at hc;split at hc
    ·rename_i g' b a;simp only[AT]at hc;have e:=AI hc.1;subst e;refine⟨⟨_,a⟩,?_⟩;rcases hr p E _ a with e|⟨X,J,B,cs,b1,b2,b3⟩;· cases e
     refine⟨X,J,B,cs,b1,b2,?_⟩;have hl:=HO (cs:=cs.toList) hc.2.1.1 b3;have:=instQ_ok (η:=η) (m:=m) (cs:=cs.toList) D b3 (J1 hc.2.1.1 b3) W 0 (λz O=>⟨No.1 hc.2.2 z O,λj t e=>Acb _ (Aad.2 ⟨p,E,by simp only[u,a];exact(Gx O).1 j t e⟩),λj e=>Acb _ (Aad.2 ⟨p,E,by simp only[u,a];exact(Gx O).2 j e⟩)⟩)
      (by rw[Abl,AI hc.2.1.2,hl]);simpa using this
    ·cases hc
   |c j=>rw[u]at hc;cases hc
   |map g j=>
    rw[u]at hc;simp only at hc;split at hc
    ·rename_i g' V vt l a;rw[AT]at hc;have e:=AI hc.1;have T:j<q.hs.length:=by simpa using hc.2
     subst e;refine⟨⟨_,a⟩,?_⟩;rcases hr p E _ a with e|⟨X,J,L⟩;· cases e
     refine⟨X,J,?_⟩;have w:(j,SV.d (.sl (.st (.pr V vt))) l)∈eA C A q.sl++eB C Rr m q.ro:=Acb _ (Aad.2 ⟨p,E,by simp[u,a]⟩);show(match Cr N q.hs x j with| .d (.sl (.st (.pr V vt))) l=>SR.map g V vt l|_=> .gone).is [] _ H _ X;rcases D.ok j _ w with e|⟨K,y,F,G⟩;· exact(TR q.hs x j T e).elim
     ·rw[G];cases K with
      |nat=>cases F
      |Ae P=>
       obtain⟨f,S,I⟩:=Pd.1 (show(Qe N.T (.sl (.st (.pr V vt))) P).map (· l)=Ac y from F);obtain⟨R,rfl⟩:=BA S;have:=Adn R;subst this;cases I;exact L
    ·cases hc
 grind
end
end
def SP.ks:SP->List Nat
 | .AG k=>[k]
 | .loc k _=>[k]
 | .AK _ _ a=>a
 | .mp k=>[k]
 | .px b _=>b
 |_=>[]
section
variable {N : C7}
theorem QY(h:HT)(x:h.den N):(ep N h x).AJ=[]:=by cases h<;>rfl
theorem FV:∀(a:List HT) (x:BI N a) (j:Nat),(Cr N a x j).AJ=[]
 | [],_,_=>rfl
 | [t],x,0=>QY t x
 | [_],_,_+1=>rfl
 |t::_::_,x,0=>QY t x.1
 |_::u::c,x,j+1=>FV (u::c) x.2 j
theorem QS(a:List HT)(x:BI N a):∀fs:List (Nat×Ty),(u6 N a x fs).AJ=[]
 | []=>rfl
 |(j,_)::l=>by simp[u6,SV.AJ,FV,QS a x l]
theorem Q0(a:List HT)(x:BI N a):∀ls:List (Nat×Nat×Ty),(nX N a x ls).AJ=[]
 | []=>rfl
 |(s,j,t)::l=>by simp[nX,SV.AJ,FV,Q0 a x l]
theorem inst_ment(a:List HT)(x:BI N a):∀p:SP,(inst N a x p).AJ=p.ks
 | .v j _=>FV a x j
 | .nat j=>FV a x j
 | .AD j i=>by
  show SV.AJ (match Cr N a x j with| .na n=> .ct i n|s=>s)=[];split;· rfl
  grind[FV]
 | .c _=>rfl
 | .AG _=>rfl
 | .loc _ _=>rfl
 | .AK _ h g=>by grind[inst,SV.AJ,SP.ks,QS]
 | .Am=>rfl
 | .nl=>rfl
 | .sv f=>Q0 a x f
 | .kp _=>rfl
 | .mp _=>rfl
 | .px b .sf=>rfl
 | .px b (.hc _)=>rfl
 | .pd j t off=>by show SV.AJ (match Cr N a x j with| .d t x=>SV.pd t x off|_=> .no)=[];split<;>rfl
 | .px b (.sub j n t)=>by show SV.AJ (match Cr N a x j,Cr N a x n with| .na i, .na m=>SV.px b (.sub i m t)|_,_=> .px b .any)=b;split<;>rfl
theorem instL_ment(a:List HT)(x:BI N a):∀ls:List (Nat×SP),(instL N a x ls).AJ=ls.flatMap λp=>p.2.ks
 | []=>rfl
 |(s,p)::ls=>by simp[instL,SV.AJ,inst_ment,instL_ment a x ls]
end
def SP.pl:SP->Bool
 | .v _ _=>Bp
 | .nat _=>Bp
 | .AG _=>Bp
 | .loc _ _=>Bp
 | .AK _ _ _=>Bp
 | .Am=>Bp
 | .nl=>Bp
 | .sv _=>Bp
 | .mp _=>Bp
 | .px _ _=>Bp
 | .pd _ _ _=>Bp
 |_=>Aj
def RP.ks:RP->List Nat
 | .Ai _ a=>a.flatMap λp=>p.2.ks
 | .Ci _ _ h _=>[h]
 |_=>[]
section
variable {N : C7}
theorem instR_ment(a:List HT)(x:BI N a):∀p:RP,∀k∈(instR N a x p).AJ,k∈p.ks
 | .row g j=>by show∀k∈SR.AJ (match Cr N a x j with| .d (.sl t) l=>SR.row g t l|_=> .gone),k∈[];split<;>exact λ_ h=>h
 | .Ai _ b=>λk i=>by have e:=instL_ment a x b;show k∈b.flatMap λp=>p.2.ks;rw[<-e];exact i
 | .c _=>λ_ h=>h
 | .map g j=>by show∀k∈SR.AJ (match Cr N a x j with| .d (.sl (.st (.pr m n))) l=>SR.map g m n l|_=> .gone),k∈[];split<;>exact λ_ h=>h
 | .Ci g e h j=>by
  show∀k∈SR.AJ (match Cr N a x j with| .d (.sl (.pr .bool (.sl t))) l=>SR.Ci g e t h l|_=> .gone),k∈[h];split;· exact λ_ h=>h
  ·exact λ_ h=>by cases h
def Zw(q:PQ N):List SP:=match q.rk with
 |0=>[]
 |1=>[Ic q.po.sl 0]
 |2=>[Ic q.po.sl 0,Ic q.po.sl 1]
 |_=>[Ic q.po.sl 0,Ic q.po.sl 1,Ic q.po.sl 2]
theorem W6(q:PQ N)(y:BI N q.po.hs):∀k∈(Jc q y).AJ,∃p∈Zw q,k∈p.ks:=by intro k a;unfold Jc at a;unfold Zw;all_goals grind[SV.AJ,Ic,absurd,inst_ment]
def uD(q:PQ N):Bool:=((Zw q).all λp=>p.pl&&p.ks.all λk=>B3 (q.pi.ro.map (·.1)) k||B3 (q.po.ro.map (·.1)) k)&&q.po.ro.all λp=>p.2.ks.all λk=>B3 (q.pi.ro.map (·.1)) k||B3 (q.po.ro.map (·.1)) k
def GO(m:List (Nat×Nat))(b nk c:Nat):Nat:=match az c b with
 |true=>AZ m c
 |false=>nk+(c-b)
def Pc(q:PQ N)(ρ:Nat->Nat)(y:BI N q.po.hs):List (Nat×SR N.T):=(q.po.ro.map λp=>(ρ p.1,(instR N q.po.hs y p.2).DL ρ))++q.gone.map λc=>(ρ c, .gone)
variable {R : Type} {P : GG} {C : List (SV N.T)} {S : Nat -> SV N.T} {Rr : Nat -> Option (SR N.T)} {nk : Nat} {o : KV} {r : R}
section
variable{m:List (Nat×Nat)}{ρ:Nat->Nat}{q:PQ N}{x:BI N q.pi.hs}{f:Nat}{ex:List Nat}{y:BI N q.po.hs}
def Wn(C:List (SV N.T))(Rr:Nat->Option (SR N.T))(nk:Nat)(q:PQ N)(a:List (SV N.T))(ex:List Nat)(k:Bw N.T->Nat->Option R):Option (Option R):=
 let m:=Hd C Rr (λi=>a.getD i .no) q.pi
 match Hc a.length q.pi.sl.length&&(q.pi.sl.all (λp=>az p.1 a.length)&&(zc q&&uD q))with
 |true=>match JF C Rr (λi=>a.getD i .no) m q.pi with
  |some x=>Ac (Ab (q.F x) λy=>k ⟨(Jc q y).DL (GO m q.pi.nk nk),q.pi.ro.map (λp=>AZ m p.1)++ex,Pc q (GO m q.pi.nk nk) y⟩ (nk+(q.po.nk-q.pi.nk)))
  |none=>C5
 |false=>C5
theorem LB{Y:List (Nat×Aw)}{D:List Nat}{k:Nat}(h:k∉D):Ay (Y.filter λp=> !B3 D p.1) k=Ay Y k:=by
 induction Y with
 |nil=>rfl
 |cons p Y b=>
  grind[Ay,Hc,absurd,AR,aw]
theorem VB{Y:List (Nat×Aw)}{c:Nat}(h:∀d∈keys Y,ρ d=ρ c->d=c):Ay (Y.map λp=>(ρ p.1,p.2)) (ρ c)=Ay Y c:=by
 induction Y with
 |nil=>rfl
 |cons p Y f=>
  obtain⟨q,y⟩:=p;simp only[Aar,Ay];cases b:Hc q c with
  |true=>simp_all
  |false=>
   have:Hc (ρ q) (ρ c)=Aj:=by
    cases a:Hc (ρ q) (ρ c)with
    |false=>rfl
    |true=>
     have:=h q (by simp[keys]) (AI a);simp_all
   grind[keys]
theorem ZY{ρ:Nat->Nat} :∀ {l:List Nat},(∀c d,c∈l->d∈l->ρ c=ρ d->c=d)->l.Nodup->(l.map ρ).Nodup
 | [],_,_=>Afd
 |x::l,f,b=>by rw[Aaz]at b;rw[Aar,Aaz];refine⟨λh=>?_,ZY (λc d hc i=>f c d (Aag _ hc) (Aag _ i)) b.2⟩;grind
theorem ru{a b:Nat}(h:b<=a):az a b=Aj:=by
 cases c:az a b with
 |false=>rfl
 |true=>
  have:a<b:=by simp_all
  omega
theorem rv{a b:Nat}(h:b<a):iK a b=Aj:=by
 cases c:iK a b with
 |false=>rfl
 |true=>have:=Aax c;omega
theorem hU{q:A_}{A:Nat->SV N.T}{x:BI N q.hs}(b:JF C Rr A m q=Ac x):∀p∈q.ro,∃d,Rr (AZ m p.1)=Ac d:=by
 unfold JF at b;split at b
 all_goals grind[qcR]
theorem M9{W:List (SV N.T)}(hs:Cp P f q)(hq1:zc q=Bp)(hq2:uD q=Bp)(hlen:W.length=q.pi.sl.length)(hlt:∀p∈q.pi.sl,p.1<W.length)
  (hx:JF C Rr (λi=>W.getD i .no) m q.pi=Ac x) (hy:q.F x=Ac y) (hf:∀j,nk<=j->Rr j=C5):
  (∀(
    η:Nat->BZ) (H:Hp) (Of:List Aw) (w:IG) (Y:List (Nat×Aw)),(keys Y).Nodup->SH w H (Y.map (·.2)++Of)->N.inv H->
   (∀k,(k∈q.pi.ro.map (λp=>AZ m p.1)++ex\/k∈keys (Pc q (GO m q.pi.nk nk) y))->∀M,Rr k=Ac M->DQ C η H Y k M)->(∀k∈keys (Pc q (GO m q.pi.nk nk) y),Rr k=C5->k∉keys Y)->
   ∀(vs:List BZ),vs.length=W.length->(∀(i:Nat) (s:SV N.T),W[i]?=Ac s->∃v,vs[i]?=Ac v/\s.is C η H v)->
   ∀(goal:Prop) (K:BZ->IG->Prop),(∀O R,Td P f vs H O R->SH w H O->(∀v w' T O',H.le T->R v T O'->SH w' T O'->K v w')->goal)->
   (∀(v:BZ) (w':IG) (T:Hp) (η':Nat->BZ) (D:List (Nat×Aw)),H.le T->(∀k,(Rr k=C5->k∉keys (Pc q (GO m q.pi.nk nk) y))->η' k=η k)->(∀k,k∉keys (Pc q (GO m q.pi.nk nk) y)->Ay D k=Ay Y k)->
    (∀k M,Ay (Pc q (GO m q.pi.nk nk) y) k=Ac M->DQ C η' T D k M)->(keys D).Nodup->(∀k∈keys D,k∈keys Y\/k∈keys (Pc q (GO m q.pi.nk nk) y))->SH w' T (D.map (·.2)++Of)->((Jc q y).DL (GO m q.pi.nk nk)).is C η' T v->K v w')->goal)/\
  (∀j∈keys (Pc q (GO m q.pi.nk nk) y),Rr j=C5->nk<=j/\j<nk+(q.po.nk-q.pi.nk)):=by
 unfold zc at hq1;simp only[AT]at hq1;obtain⟨w1,w2,w3,w4,w5,w6⟩:=hq1;have w1:∀p∈q.pi.ro,p.1<q.pi.nk:=λp a=>by simpa using No.1 w1 p.1 (By.2 ⟨p,a,rfl⟩)
 have w4:=Aax w4;have w5:∀p∈q.po.ro,p.1∈q.pi.ro.map (·.1)\/(q.pi.nk<=p.1/\p.1<q.po.nk):=λp a=>by have:=No.1 w5 p.1 (By.2 ⟨p,a,rfl⟩);rw[Adj,AT]at this;exact this.imp AR.1 λh=>⟨Aax h.1,by simp_all⟩
 have w6:∀c∈q.gone,c∈q.pi.ro.map (·.1):=λc hc=>AR.1 (No.1 w6 c hc);unfold uD at hq2;rw[AT]at hq2;obtain⟨o1,o2⟩:=hq2;have kn:∀ {k:Nat},(B3 (q.pi.ro.map (·.1)) k||B3 (q.po.ro.map (·.1)) k)=Bp->k∈q.pi.ro.map (·.1)\/k∈q.po.ro.map (·.1):=λh=>by grind[AR]
 generalize hρ:GO m q.pi.nk nk=ρ;have t:∀p∈q.pi.ro,ρ p.1=AZ m p.1:=λp a=>by rw[<-hρ];grind[GO,az]
 have ρo:∀c,q.pi.nk<=c->ρ c=nk+(c-q.pi.nk):=λc hc=>by rw[<-hρ];grind[GO,ru]
 have kwr:∀j,j∈keys (Pc q ρ y)↔(∃p∈q.po.ro,j=ρ p.1)\/∃c∈q.gone,j=ρ c:=λj=>by unfold Pc keys;grind
 have hall:=λ(η:Nat->BZ) (H:Hp) (Y:List (Nat×Aw)) (vs:List BZ) n U h3=>LH (C:=C) (η:=η) (H:=H) (Y:=Y) (vs:=vs) (A:=λi=>W.getD i .no) hx n U h3;refine⟨λη H Of w Y hn hw hiv hr hfresh vs v1 v2 goal K run hK=>?_,λj hj u=>?_⟩
 ·obtain⟨
      hnd,hsl,F⟩:=hall η H Y vs (v1.trans hlen) (λp a=>by
   have hl:=hlt p a;obtain⟨v,e1,e2⟩:=v2 p.1 W[p.1] (BY hl);refine⟨v,e1,?_⟩;rw[Pe,BY hl];exact e2) (λp a M B=>hr _ (.inl (Abu _ (By.2 ⟨p,a,rfl⟩))) M B);have lt:∀p∈q.pi.ro,AZ m p.1<nk:=λp a=>by
   grind
  generalize hηc:(λc=>η (AZ m c))=ηc at hsl F;generalize hYc:(q.pi.ro.map λp=>(p.1,(Ay Y (AZ m p.1)).getD .emp))=Yc;generalize E:(Y.filter λp=> !B3 (q.pi.ro.map λp=>AZ m p.1) p.1)=Yr;have kYc:keys Yc=q.pi.ro.map (·.1):=by rw[<-hYc];simp[keys]
  have ndc:(keys Yc).Nodup:=by rw[kYc];exact BK w2
  have lYc:∀p∈q.pi.ro,Ay Yc p.1=Ay Y (AZ m p.1):=λp a=>by
   obtain⟨_,X,V,_⟩:=F p a;have:(p.1,(Ay Y (AZ m p.1)).getD .emp)∈Yc:=by rw[<-hYc];exact By.2 ⟨p,a,rfl⟩
   rw[CI ndc this,V];rfl
  have pin:PIn q x ηc H Yc vs:=⟨v1.trans hlen,hsl,kYc,λp a=>by
   obtain⟨_,X,V,U⟩:=F p a;exact⟨X,by rw[lYc p a];omega,U⟩,hiv⟩;have hsh:SH w H (Yc.map (·.2)++(Yr.map (·.2)++Of)):=by
   have G:=SH.Q1 hw (Z:=(q.pi.ro.map λp=>(AZ m p.1,(Ay Y (AZ m p.1)).getD .emp))++Yr) (by
    unfold keys;rw[Aan,Aal];refine Acv.2 ⟨hnd,?_,λk b k' L e=>?_⟩;· rw[<-E];exact(Acs.map _).nodup hn
    ·subst e;rw[<-E]at L;obtain⟨p,a,rfl⟩:=By.1 L;have h3:=(Aba.1 a).2;have b:p.1∈q.pi.ro.map λp=>AZ m p.1:=b;rw[AR.2 b]at h3;cases h3) (λp a=>by
    rcases AS.1 a with a|a;· obtain⟨z,G,rfl⟩:=By.1 a;obtain⟨_,X,V,_⟩:=F z G;simp only[V,Ack]
    ·rw[<-E]at a;exact CI hn (Aba.1 a).1);rw[Aan,Aal,Aaj]at G;rw[<-hYc,Aal];exact G
  refine run _ _ (hs.ok x y hy ηc H (Yr.map (·.2)++Of) Yc vs ndc pin) hsh λv w' T O' hle ⟨η',D,eO,po⟩ hw'=>?_;subst eO;have I:∀c∈keys D,c∈q.pi.ro.map (·.1)\/c∈q.po.ro.map (·.1):=λc hc=>by rw[<-kYc];exact po.ks c hc
  have Q:∀ {c},c∈q.pi.ro.map (·.1)->ρ c<nk/\c<q.pi.nk/\ρ c=AZ m c:=λhc=>by obtain⟨p,a,rfl⟩:=By.1 hc;rw[t p a];exact⟨lt p a,w1 p a,rfl⟩
  have l:∀ {c},c∈q.po.ro.map (·.1)->c∉q.pi.ro.map (·.1)->nk<=ρ c/\q.pi.nk<=c/\ρ c=nk+(c-q.pi.nk)/\ρ c∈keys (Pc q ρ y)/\Rr (ρ c)=C5:=λhc hn=>by
   obtain⟨p,a,rfl⟩:=By.1 hc;rcases w5 p a with h|h;· trivial
   ·rw[ρo _ h.1];exact⟨by omega,h.1,rfl,(kwr _).2 (.inl ⟨p,a,(ρo _ h.1).symm⟩),hf _ (by omega)⟩
  have inj:∀c d,(c∈q.pi.ro.map (·.1)\/c∈q.po.ro.map (·.1))->(d∈q.pi.ro.map (·.1)\/d∈q.po.ro.map (·.1))->ρ c=ρ d->c=d:=λc d hc hd e=>by
   by_cases n:c∈q.pi.ro.map (·.1)<;>by_cases U:d∈q.pi.ro.map (·.1);· obtain⟨p,a,rfl⟩:=By.1 n;obtain⟨p',hp',rfl⟩:=By.1 U;rw[t p a,t p' hp']at e;rw[PZ (f:=λp:Nat×RP=>AZ m p.1) hnd a hp' e]
   ·have:=(Q n).1;have:=(l (hd.resolve_left U) U).1;omega
   ·have:=(Q U).1;have:=(l (hc.resolve_left n) n).1;omega
   ·have:=(l (hc.resolve_left n) n);have:=(l (hd.resolve_left U) U);omega
  let ηn:Nat->BZ:=λj=>match iK nk j&&B3 (keys (Pc q ρ y)) j with
   |true=>η' (q.pi.nk+(j-nk))
   |false=>η j;have ηk:∀c,(c∈q.pi.ro.map (·.1)\/c∈q.po.ro.map (·.1))->ηn (ρ c)=η' c:=λc hc=>by
   by_cases n:c∈q.pi.ro.map (·.1);· obtain⟨g1,g2,g3⟩:=Q n;show(match iK nk (ρ c)&&B3 (keys (Pc q ρ y)) (ρ c)with|true=>η' (q.pi.nk+(ρ c-nk))|false=>η (ρ c))=η' c;rw[rv g1,Bool.false_and,po.env c g2,<-hηc,g3]
   ·obtain⟨g1,g2,g3,g4,_⟩:=l (hc.resolve_left n) n;show(match iK nk (ρ c)&&B3 (keys (Pc q ρ y)) (ρ c)with|true=>η' (q.pi.nk+(ρ c-nk))|false=>η (ρ c))=η' c;rw[show iK nk (ρ c)=Bp by simpa using g1,AR.2 g4];show η' (q.pi.nk+(ρ c-nk))=η' c;congr 1;omega
  have lkρ:∀c,(c∈q.pi.ro.map (·.1)\/c∈q.po.ro.map (·.1))->Ay (D.map λp=>(ρ p.1,p.2)) (ρ c)=Ay D c:=λc hc=>VB λd hd e=>inj d c (I d hd) hc e;have kρ:∀k∈keys (D.map λp=>(ρ p.1,p.2)),∃c∈keys D,k=ρ c:=λk b=>by unfold keys at b;rw[Aal]at b;obtain⟨p,a,rfl⟩:=By.1 b;exact⟨p.1,By.2 ⟨p,a,rfl⟩,rfl⟩
  refine hK v w' T ηn ((D.map λp=>(ρ p.1,p.2))++Yr) hle (λk b=>?_) (λk b=>?_) (λk M b=>?_) ?_ (λk b=>?_) ?_ ?_
  ·show(match iK nk k&&B3 (keys (Pc q ρ y)) k with|true=>η' (q.pi.nk+(k-nk))|false=>η k)=η k;split;· rename_i hb;rw[AT]at hb;exact absurd (AR.1 hb.2) (b (hf _ (Aax hb.1)))
   ·rfl
  ·rw[BT];by_cases hD:k∈q.pi.ro.map λp=>AZ m p.1;· obtain⟨p,a,rfl⟩:=By.1 hD;have hc:p.1∈q.pi.ro.map (·.1):=By.2 ⟨p,a,rfl⟩;obtain⟨_,X,V,_⟩:=F p a;have e1:=lkρ p.1 (.inl hc);rw[t p a,po.st p.1 (by rw[kYc];exact hc) (λh=>b ((kwr _).2 (.inl (by obtain⟨z,G,e⟩:=By.1 h;exact⟨z,G,by rw[e,t p a]⟩)))) (λh=>b ((kwr _).2 (.inr ⟨p.1,h,(t p a).symm⟩))),lYc p a,V]at e1;rw[e1,V]
   ·have:Ay (D.map λp=>(ρ p.1,p.2)) k=C5:=Cw λhm=>by
     obtain⟨c,hc,rfl⟩:=kρ k hm;by_cases n:c∈q.pi.ro.map (·.1);· obtain⟨p,a,rfl⟩:=By.1 n;exact hD (By.2 ⟨p,a,(t p a).symm⟩)
     ·exact b (l ((I c hc).resolve_left n) n).2.2.2.1
    rw[this,<-E];exact LB hD
  ·unfold Pc at b;rw[BT]at b;split at b;· rename_i sr' hs';cases b;obtain⟨p,a,e⟩:=By.1 (A4 hs');cases e;obtain⟨X,x1,x2⟩:=po.ro p a;have hc:p.1∈q.pi.ro.map (·.1)\/p.1∈q.po.ro.map (·.1):= .inr (By.2 ⟨p,a,rfl⟩);refine .inr ⟨X,by rw[BT,lkρ p.1 hc,x1],?_⟩;exact SR.Mj (ηk p.1 hc) (λj hj=>ηk j (by have hj:=instR_ment _ _ _ j hj;exact kn (No.1 (No.1 o2 p a) j hj))) x2
   ·obtain⟨c,_,e⟩:=By.1 (A4 b);cases e;exact .inl rfl
  ·unfold keys;rw[Aan];refine Acv.2 ⟨?_,?_,λk b k' L e=>?_⟩
   ·rw[Aal];have:=po.nd;have e:(D.map ((·.1)∘λp=>(ρ p.1,p.2)))=(D.map (·.1)).map ρ:=by rw[Aal];rfl
    rw[e];exact ZY (λc d hc hd e=>inj c d (I c hc) (I d hd) e) this
   ·rw[<-E];exact(Acs.map _).nodup hn
   ·subst e;obtain⟨c,hc,rfl⟩:=kρ k b;rw[<-E]at L;obtain⟨p,a,e⟩:=By.1 L;by_cases n:c∈q.pi.ro.map (·.1)
    ·have h3:=(Aba.1 a).2;have:p.1∈q.pi.ro.map λp=>AZ m p.1:=by
      obtain⟨z,G,rfl⟩:=By.1 n;rw[e,t z G];exact By.2 ⟨z,G,rfl⟩
     rw[AR.2 this]at h3;cases h3
    ·obtain⟨_,_,_,g4,g5⟩:=l ((I c hc).resolve_left n) n;exact hfresh _ g4 g5 (by rw[<-e];exact By.2 ⟨p,(Aba.1 a).1,rfl⟩)
  ·unfold keys at b;rw[Aan]at b;rcases AS.1 b with b|b
   ·obtain⟨c,hc,rfl⟩:=kρ k b;by_cases n:c∈q.pi.ro.map (·.1);· obtain⟨p,a,rfl⟩:=By.1 n;obtain⟨_,X,V,_⟩:=F p a;rw[t p a];exact .inl (Dj V)
    ·exact .inr (l ((I c hc).resolve_left n) n).2.2.2.1
   ·rw[<-E]at b;obtain⟨p,a,rfl⟩:=By.1 b;exact .inl (By.2 ⟨p,(Aba.1 a).1,rfl⟩)
  ·rw[Aan,Aal,Aaj];exact hw'
  ·refine SV.Mj (λk b=>ηk k ?_) po.res;obtain⟨p,a,b⟩:=W6 q y k b;have:=No.1 o1 p a;rw[AT]at this;exact kn (No.1 this.2 k b)
 ·have rr:=hU hx;rcases(kwr j).1 hj with⟨p,a,rfl⟩|⟨c,hc,rfl⟩
  ·rcases w5 p a with h|h;· obtain⟨z,G,e⟩:=By.1 h;obtain⟨M,B⟩:=rr z G;rw[<-e,t z G,B]at u;cases u
   ·rw[ρo _ h.1];omega
  ·obtain⟨z,G,rfl⟩:=By.1 (w6 c hc);obtain⟨M,B⟩:=rr z G;rw[t z G,B]at u;cases u
theorem X2{d:List (SV N.T)}(U:Cp P f q)(l:zc q=Bp)(n:uD q=Bp)(g:d.length=q.pi.sl.length)(k:∀p∈q.pi.sl,p.1<d.length)
  (X:JF C Rr (λi=>d.getD i .no) m q.pi=Ac x) (Z:q.F x=Ac y) (J:∀j,nk<=j->Rr j=C5)
  (G:∀(η:Nat->BZ) (H:Hp) (Y:List (Nat×Aw)) (a:Act),(∀x∈o.op.operands,(Ax S x).is C η H (a.eval x))->(∀c∈q.pi.ro.map (λp=>AZ m p.1)++ex,∀h,Rr c=Ac h->DQ C η H Y c h)->
   ∃vs:List BZ,vs.length=d.length/\(∀(i:Nat) (s:SV N.T),d[i]?=Ac s->∃v,vs[i]?=Ac v/\s.is C η H v)/\∀H O R,Td P f vs H O R->BM P o.op o.type (EV a) H O R):
  Ap P C S Rr o ⟨(Jc q y).DL (GO m q.pi.nk nk),q.pi.ro.map (λp=>AZ m p.1)++ex,Pc q (GO m q.pi.nk nk) y⟩/\
  (∀j∈keys (Pc q (GO m q.pi.nk nk) y),Rr j=C5->nk<=j/\j<nk+(q.po.nk-q.pi.nk)):=by
 obtain⟨E,F⟩:=M9 (P:=P) (ex:=ex) U l n g k X Z J;refine⟨λη H D a w Y T W L A B b K Q I=>?_,F⟩;obtain⟨vs,v1,v2,v3⟩:=G η H Y a A λc hc h z=>B _ (.inl hc) h z;exact E η H D w Y T W L B b vs v1 v2 (o.wp P a w K Q) (λv w'=>K (a.put o.dst v) w') (λO R V t M=>v3 _ _ _ V a w o K Q rfl rfl (λx u e=>by simpa using e) t M) I
end
end
section
variable (N : C7)
def DM:List Ty->Type
 | []=>Unit
 | [t]=>t.den N.T
 |t::u::a=>t.den N.T×DM (u::a)
def Uy(C:List (SV N.T)):(ps:List Ty)->List (SV N.T)->Option (DM N ps)
 | [],[]=>Ac ()
 | [t],[s]=>Tq C t s
 |t::u::b,s::a=>match Tq C t s,Uy C (u::b) a with
  |some x,Ac y=>Ac (x,y)
  |_,_=>C5
 |_,_=>C5
variable {N}
abbrev η0:Nat->BZ:=λ_=>undef
def YA(H:Hp):(ps:List Ty)->DM N ps->List BZ->Prop
 | [],_,a=>a=[]
 | [t],x,a=> ∃v,a=[v]/\(SV.d t x:SV N.T).is [] η0 H v
 |t::u::c,x,a=> ∃v b,a=v::b/\(SV.d t x.1:SV N.T).is [] η0 H v/\YA H (u::c) x.2 b
theorem V6{C C':List (SV N.T)}{η η':Nat->BZ}{H:Hp}{v:BZ}{t:Ty}{x:t.den N.T}(h:(SV.d t x).is C η H v):(SV.d t x).is C' η' H v:=h
variable {R : Type} {P : GG} {C : List (SV N.T)} {S : Nat -> SV N.T} {Rr : Nat -> Option (SR N.T)} {nk : Nat} {o : KV} {k : Bw N.T -> Nat -> Option R} {r : R}
theorem LG{a:Act} :∀xs:List El,NH (EV a) xs=Ac (xs.map a.eval)
 | []=>rfl
 |x::xs=>by simp only[NH,EV,LG xs,Aar]
theorem Hu:∀ {t:Ty} {H f:Hp} {x:t.den N.T} {cs:List BZ},Hv t=Bp->(N.c t).BP H x cs->(N.c t).BP f x cs
 | .int k,H,f,x,cs,_,h=>DY.2 (DY.1 h)
 | .bool,_,_,_,_,_,h=>h
 | .str,_,_,_,_,_,h=>h
 | .un,_,_,_,_,_,h=>h
 | .bs,_,_,_,_,_,h=>h
 | .st t,_,_,_,_,c,h=>Hu (t:=t) c h
 | .pr a b,_,_,_,_,c,⟨g,i,e,j,l⟩=>by have c:(Hv a&&Hv b)=Bp:=c;rw[AT]at c;exact⟨g,i,e,Hu c.1 j,Hu c.2 l⟩
def Cy(Rr:Nat->Option (SR N.T))(k:Nat):Nat->Option (SR N.T):=λj=>match Hc j k with
 |true=>Ac .gone
 |false=>Rr j
theorem mO{k:Nat}{a:Ty}{l:List (a.den N.T)}{x:El}{η:Nat->BZ}{H:Hp}{v:BZ}(h:GY (N.c a) H l (η k))(b:(Ax S x).is C η H v):(Ax (λt=>GJ k a l (S t)) x).is C η H v:=by
 cases x with
 |tmp t=>exact CL h b
 |_=>exact b
end
section
variable {N : C7}
def IX(P:GG)(yv:BZ)(vs:List BZ)(w:IG)(K:Bool->IG->Prop):Prop:= ∃l f c d a,yv= .func (.yield l) #[] #[]/\(Instr.yield l vs.toArray).run P w= .ok (.round l f c d a) w/\RoundIn Fence.wide 0 P l f c d a w λe g=> ∃b,e= .returned (.bool b)/\K b g
theorem IX.mono{P:GG}{yv:BZ}{vs:List BZ}{w:IG}{K g:Bool->IG->Prop}(h:IX P yv vs w K)(o:∀b w',K b w'->g b w'):IX P yv vs w g:=by obtain⟨l,f,c,d,a,k,m,n⟩:=h;exact⟨l,f,c,d,a,k,m,n.mono λe w' ⟨b,i,j⟩=>⟨b,i,o _ _ j⟩⟩
structure IQ(N:C7)where
 pi:A_
 yi:Nat
 ts:List Ty
 F:BI N pi.hs->Option (List (DM N ts)×Bool)
def K'{α:Type}(r:List α×Bool):Bool->List α×Bool
 |true=>r
 |false=>([],Bp)
structure IZ(P:GG)(f:Nat)(q:IQ N):Prop where
 bB:Ts P f
 ok:∀x ys,q.F x=Ac ys->∀(G:Hp->List Aw->List (DM N q.ts)×Bool->Prop) (yv:BZ),yv.oneCell'=Bp->
  (∀H H' O r,H.le H'->G H O r->G H' O r)->(∀H O,¬G H O ([],Aj))->
  (∀H O y l e,N.inv H->G H O (y::l,e)->∀A vs w,YA H q.ts y vs->SH w H (A++O)->IX P yv vs w λb w'=> ∃H' O',H.le H'/\SH w' H' (A++O')/\G H' O' (K' (l,e) b))->
  ∀(η:Nat->BZ) (H:Hp) (O:List Aw) (Y:List (Nat×Aw)) (vs:List BZ) (w:IG),(keys Y).Nodup->vs.length=q.pi.sl.length->(∀p∈q.pi.sl,∃v,vs[p.1]?=Ac v/\(inst N q.pi.hs x p.2).is [] η H v)->vs[q.yi]?=Ac yv->
   keys Y=q.pi.ro.map (·.1)->(∀p∈q.pi.ro,∃X,Ay Y p.1=Ac X/\(instR N q.pi.hs x p.2).is [] η H p.1 X)->G H O ys->N.inv H->SH w H (Y.map (·.2)++O)->
  Calls P f vs.toArray w λe w'=> ∃v H' O' Y',e= .returned v/\H.le H'/\SH w' H' (Y'.map (·.2)++O')/\keys Y'=q.pi.ro.map (·.1)/\(∀p∈q.pi.ro,∃X,Ay Y' p.1=Ac X/\(instR N q.pi.hs x p.2).is [] η H' p.1 X)/\G H' O' ([],Bp)
structure JQ(N:C7)where
 pi:A_
 ky:Nat
 ts:List Ty
 rb:Bool
 F:BI N pi.hs->Option (List (DM N ts)×Option Bool)
def w7{α:Type}(r:List α)(b:Option Bool):Bool->List α×Option Bool
 |true=>(r,b)
 |false=>([],Ac Aj)
structure IY(P:GG)(f:Nat)(q:JQ N):Prop where
 bB:Ts P f
 ok:∀x r,q.F x=Ac r->∀(η:Nat->BZ) (G:Hp->List Aw->List (DM N q.ts)×Option Bool->Prop),
  (∀H H' O r,H.le H'->G H O r->G H' O r)->(∀H O,¬G H O ([],C5))->
  (∀H O y r b,N.inv H->G H O (y::r,b)->∀A vs w,YA H q.ts y vs->SH w H (A++O)->IX P (η q.ky) vs w λc w'=> ∃H' O',H.le H'/\SH w' H' (A++O')/\G H' O' (w7 r b c))->
  ∀(H:Hp) (O:List Aw) (Y:List (Nat×Aw)) (vs:List BZ) (w:IG),(keys Y).Nodup->vs.length=q.pi.sl.length->(∀p∈q.pi.sl,∃v,vs[p.1]?=Ac v/\(inst N q.pi.hs x p.2).is [] η H v)->
   keys Y=q.pi.ro.map (·.1)->(∀p∈q.pi.ro,∃X,Ay Y p.1=Ac X/\(instR N q.pi.hs x p.2).is [] η H p.1 X)->G H O r->N.inv H->SH w H (Y.map (·.2)++O)->
  Calls P f vs.toArray w λe w'=> ∃v H' O' Y' b,e= .returned v/\H.le H'/\SH w' H' (Y'.map (·.2)++O')/\keys Y'=q.pi.ro.map (·.1)/\(∀p∈q.pi.ro,∃X,Ay Y' p.1=Ac X/\(instR N q.pi.hs x p.2).is [] η H' p.1 X)/\G H' O' ([],Ac b)/\(q.rb=Bp->v= .bool b)
end
theorem Aju{w:IG}{H:Hp}{O:List Aw}(m:SH w H O){i:Nat}{v:BZ}{e:Gj}{size n:Nat}{xs:List BZ}(hi:O[i]?=Ac (.row v e size n xs)):
  ∃k,H.le k/\SH w k (O.eraseIdx i)/\Sl k v size n xs/\∀w' l,SH w' k l->SH w' H (.row v e size n xs::l):=by
 have h:=m.ok i _ hi;rcases h.2 with⟨rfl,rfl⟩|⟨g,cap,cur,rfl,q,y,s,d,p,a⟩;· have:xs=[]:=Abc (by simpa using h.1);subst this;exact⟨H,Hp.le.refl H,m.drop i,Sl.nil H size,λw' l c=>c.IE e size⟩
 ·obtain⟨t,x⟩:=m.Py hi (b:=g) rfl y;refine⟨_,t,x,⟨h.1, .inr ⟨_,_,rfl,s⟩,λj u A=>⟨⟨g,0+j,C5⟩,cur,e,(0,0),by grind[AL,qY],rfl,by simp[Hp.put],?_⟩⟩,λw' l c=>?_⟩;· grind
  ·exact Ajd (i:=0) (r:= .row (.slice (Ac ⟨g,0,C5⟩) n cap) e size n xs) (o:= .cells cur e (0,0)) rf rf (m.Ir i _ g hi rf) (λz f=>⟨h.1, .inr ⟨g,cap,cur,rf,q,f,s,d,p,a⟩⟩) c
section
variable {N : C7}
section
variable{H:Hp}{η:Nat->BZ}{C:List (SV N.T)}{t:Ty}{k:Nat}
def CM:SV N.T->Bool
 | .d t _=>Hv t
 | .D_ _ _ _ _ _=>Aj
 | .pd _ _ _=>Aj
 | .Cu _=>Aj
 | .lf _ a l=>CM a&&CM l
 | .t2 a b=>CM a&&CM b
 | .t3 a b c=>CM a&&(CM b&&CM c)
 | .AK _ l _=>CM l
 | .vc a l=>CM a&&CM l
 | .px _ (.dx _ _)=>Aj
 |_=>Bp
def VW:SR N.T->Bool
 | .Ai _ l=>CM l
 | .row _ t _=>Hv t
 | .Cu _=>Aj
 | .gone=>Bp
 | .map _ _ _ _=>Aj
 | .Ci _ _ _ _ _=>Aj
theorem Ch{g w:Nat->BZ->Prop}{η:Nat->BZ}{H p:Hp} :∀ {s:SV N.T} {v:BZ},CM s=Bp->s.BS g η H v->s.BS w η p v
 | .d t x,v,e,⟨o,i,j⟩=>⟨o,Hu e i,j⟩
 | .na _,_,_,h=>h
 | .ct _ _,_,_,h=>h
 | .cb _ _,_,_,h=>h
 | .lt _ _ _,_,_,h=>h
 | .lb _,_,_,h=>h
 | .raw _,_,_,h=>h
 | .ud,_,_,h=>h
 | .no,_,_,h=>h
 | .loc _ _,_,_,h=>h
 | .AG _,_,_,h=>h
 | .D_ _ _ _ _ _,_,e,_=>by cases e
 | .pd t x off,v,e,_=>by cases e
 | .mp _,_,_,h=>h
 | .lf s a l,v,e,⟨q,r,u,i,j,k,m,A,B⟩=>by have e:(CM a&&CM l)=Bp:=e;rw[AT]at e;exact⟨q,r,u,i,j,Ch e.1 k,m,A,Ch e.2 B⟩
 | .nl,_,_,h=>h
 | .t2 a b,v,e,⟨x,y,i,j,k⟩=>by have e:(CM a&&CM b)=Bp:=e;rw[AT]at e;exact⟨x,y,i,Ch e.1 j,Ch e.2 k⟩
 | .t3 a b c,v,e,⟨x,y,z,i,j,k,m⟩=>by have e:(CM a&&(CM b&&CM c))=Bp:=e;rw[AT,AT]at e;exact⟨x,y,z,i,Ch e.1 j,Ch e.2.1 k,Ch e.2.2 m⟩
 | .AK f l o,v,e,⟨n,i,j⟩=>⟨n,i,Ch (s:=l) e j⟩
 | .vn,_,_,h=>h
 | .vc a l,v,e,⟨u,n,i,j,k⟩=>by have e:(CM a&&CM l)=Bp:=e;rw[AT]at e;exact⟨u,n,i,Ch e.1 j,Ch e.2 k⟩
 | .px _ (.sub _ _ _),_,_,h=>h
 | .px _ .sf,_,_,h=>h
 | .px _ (.hc _),_,_,h=>h
 | .px _ (.fo _),_,_,h=>h
 | .px _ (.fi _),_,_,h=>h
 | .px _ (.fe _ _ _),_,_,h=>h
 | .px _ .any,_,_,h=>h
 | .px _ .ub,_,_,h=>h
 | .px _ (.sd _),_,_,h=>h
 | .px _ (.dx _ _),_,e,_=>by cases e
 | .Cu _,_,e,_=>by cases e
theorem OM{t:Ty}{H b:Hp}(a:Hv t=Bp):∀ {l:List (t.den N.T)} {xs:List BZ},A2 (N.c t) H l xs->A2 (N.c t) b l xs
 | [],_,h=>h
 |_::_,_,⟨c,xs,e,d,f⟩=>⟨c,xs,e,Hu a d,OM a f⟩
theorem Si{d:Hp}{s:SR N.T}{r:Aw}(a:VW s=Bp)(h:s.is C η H k r):s.is C η d k r:=by
 cases s with
 |Ai g l=>
  obtain⟨B,e,b,c,f⟩:=h;exact⟨B,e,b,c,Ch (s:=l) a f⟩
 |row g t l=>obtain⟨i,b,c⟩:=h;exact⟨i,b,OM a c⟩
 |Cu j=>cases a
 |gone=>exact h
 |map g m n l=>cases a
 |Ci _ _ _ _ _=>cases a
def qv(k:Nat)(t:Ty)(l:List (t.den N.T)):SR N.T->SR N.T
 | .Ai g r=> .Ai g (GJ k t l r)
 |r=>r
def zi(C:List (SV N.T)):SV N.T->SV N.T
 | .lf s a l=> .lf s (res C a) (zi C l)
 |s=>s
theorem oe:∀ {s:SV N.T} {v:BZ},s.is C η H v->(zi C s).is C η H v:=by
 intro s;induction s with
 |lf n a l _ k=>exact λ⟨b,c,u,d,e,f,g,i,j⟩=>⟨b,c,u,d,e,EO f,g,i,k j⟩
 |_=>exact λh=>h
def rlR(C:List (SV N.T)):SR N.T->SR N.T
 | .Ai g l=> .Ai g (zi C l)
 |r=>r
def Kj(C:List (SV N.T))(Rr:Nat->Option (SR N.T))(k:Nat)(t:Ty)(l:List (t.den N.T)):Nat->Option (SR N.T):=λj=>match Hc j k with
 |true=>Ac .gone
 |false=>(Rr j).map λr=>qv k t l (rlR C r)
theorem gr{a:Hp}(c:H.le a){j:Nat}{l:List (t.den N.T)}(h:GY (N.c t) a l (η k)){r:SR N.T}{X:Aw}(d:r.is C η H j X):(qv k t l (rlR C r)).is C η a j X:=by
 cases r with
 |Ai g b=>
  obtain⟨B,e,f,i,m⟩:=d;exact⟨B,e,f,i,CL h (oe (m.mono c))⟩
 |_=>exact SR.is.mono c d
end
variable {R : Type} {P : GG} {C : List (SV N.T)} {S : Nat -> SV N.T} {Rr : Nat -> Option (SR N.T)} {nk : Nat} {o : KV} {k : Bw N.T -> Nat -> Option R} {r : R}
section
variable{g:Gj}{s:Bw N.T}{c:Nat}{b:Ty}{l:List (b.den N.T)}{τ:Nat->Nat}{a:Nat}{η:Nat->BZ}{H:Hp}{t:Ty}{x:t.den N.T}{B:Nat}{cs:List BZ}
theorem Ap.gq{d:Nat}{n:Ty}{l:List (n.den N.T)}(hk:Rr d=Ac (.row g n l))(h:Ap P C (λt=>GJ d n l (S t)) (Kj C Rr d n l) o s)(hw:d∉keys s.wr)(hf:CM s.sv=Bp)(I:s.wr.all (λp=>VW p.2)=Bp):Ap P C S Rr o ⟨s.sv,d::s.rd,s.wr⟩:=by
 intro η H Of a w Y hn hs hi hx hr E K Q hK;rcases hr d (.inl (by simp)) _ hk with e|⟨x,G,xs,rfl,hL⟩;· grind
 obtain⟨i,h2,h3⟩:=bq Of hn G;obtain⟨Z,D,g2,g3,g4⟩:=Aju hs h2;rw[h3]at g2;have A:GY (N.c n) Z l (η d):=GY.of (by grind[Bn]) rfl (hL.mono D) (hs.N' h2);have J:d∉keys (FA Y d):=λm=>by obtain⟨p,hp,e⟩:=By.1 m;have:=(Aba.1 hp).2;rw[e]at this;simp at this
 refine h η Z Of a w (FA Y d) (H8 hn) g2 (N.CW D hi) (λx V=>mO A ((hx x V).mono D)) (λj c sr f=>?_) (λj c b m=>?_) K Q λv w' H2 X Y' L W hY U M q B T=>?_
 ·unfold Kj at f;split at f;· cases f;exact .inl rfl
  ·rename_i u;have ne:=Abe u;obtain⟨s0,O,rfl⟩:=Pd.1 f;rcases hr j (c.imp (Aag _) id) s0 O with e|⟨z,e1,F⟩;· subst e;exact .inl rfl
   ·exact .inr ⟨z,by grind[ne,DC],gr D A F⟩
 ·grind[Kj,Option.map_eq_none_iff,CF]
 ·have y:d∉keys Y':=λm=>(q d m).elim J hw;refine hK v w' H X ((d, .row (η d) g (n.sz N) l.length xs)::Y') (Hp.le.refl H) (λj c=>W j λb m=>?_) (λj c=>?_) (λj sr c=>?_) (Aaz.2 ⟨y,M⟩) (λj c=>?_) ?_ (Ch hf T)
  ·unfold Kj at b;split at b;· cases b
   ·exact c (Option.map_eq_none_iff.1 b) m
  ·simp only[Ay];split;· rename_i u;have:=AI u;subst this;exact G.symm
   ·rename_i u;rw[hY j c,DC (λe=>Abe u e.symm)]
  ·have ne:d≠j:=λe=>by subst e;exact hw (Dj c)
   refine(U j sr c).imp id λ⟨z,e1,F⟩=>⟨z,by rw[A3 ne];exact e1,Si (No.1 I _ (A4 c)) F⟩
  ·simp only[keys,Aar,Aav]at c;rcases c with rfl|c;· exact .inl (Dj G)
   ·rcases q j c with e|e;· exact .inl (CF e)
    ·exact .inr e
  ·exact g4 w' _ (B.weaken L)
theorem wo(h:Ni Rr S τ):Ni (Kj C Rr c b l) (λt=>GJ c b l (S t)) τ:=λt=>by
 have d:=h t;generalize g:S t=sv at d⊢;show D5 τ (Kj C Rr c b l) (GJ c b l (S t));rw[g];cases sv with
 |AG j=>unfold GJ;split<;>trivial
 |D_ j i off p x=>
  unfold GJ;split;· trivial
  ·rename_i e;intro q u s a;unfold Kj at a;rw[e]at a;obtain⟨n,f,m⟩:=Pd.1 a;cases n<;>first|(cases m;exact d _ _ _ f)|cases m
 |_=>exact d
theorem Ue(c:∀j,nk<=j->Rr j=C5)(b:a<nk):∀j,nk<=j->Cy Rr a j=C5:=λj d=>by grind[Cy,Hc,aw]
theorem On(d:∀j,nk<=j->Rr j=C5)(c:a<nk):∀j,nk<=j->Kj C Rr a b l j=C5:=λj e=>by grind[Kj,Hc,aw]
def MD(a:Nat)(k:Bw N.T->Nat->Option R)(s:Bw N.T)(nk:Nat):Option R:=match B3 (keys s.wr) a,CM s.sv&&s.wr.all (λp=>VW p.2)with
 |false,Bp=>k ⟨s.sv,a::s.rd,s.wr⟩ nk
 |_,_=>C5
theorem A1.gq{b:Nat}{c:Ty}{l:List (c.den N.T)}(w:Rr b=Ac (.row g c l))(h:A1 P C (λt=>GJ b c l (S t)) (Kj C Rr b c l) nk o (MD b k) r):A1 P C S Rr nk o k r:=by
 obtain⟨s,m,d,p,q,u,v⟩:=h;unfold MD at d;split at d
 ·rename_i z a;rw[AT]at a;have y:b∉keys s.wr:=λe=>by grind[AR]
  refine⟨_,m,d,p.gq w y a.1 a.2,q,λj x f=>u j x ?_,λτ i=>?_⟩;· grind[Kj,Hc,absurd,aw]
  ·have n:=v τ (wo i);have a:=a.1;generalize s.sv=sv at n a;cases sv with
   |D_ _ _ _ _ _=>trivial
   |_=>exact n
 grind
def Qy(k:Nat)(t:Ty)(x:t.den N.T):SV N.T->SV N.T
 | .loc j off=>match Hc j k with
  |true=> .pd t x off
  |false=> .loc j off
 | .lf s a r=> .lf s (Qy k t x a) (Qy k t x r)
 | .t2 a b=> .t2 (Qy k t x a) (Qy k t x b)
 | .t3 a b c=> .t3 (Qy k t x a) (Qy k t x b) (Qy k t x c)
 | .AK f r d=> .AK f (Qy k t x r) d
 | .vc a r=> .vc (Qy k t x a) (Qy k t x r)
 |s=>s
theorem iP{C:List (SV N.T)}{η:Nat->BZ}{H:Hp}{g:Nat->BZ->Prop}{k:Nat}{t:Ty}{x:t.den N.T}{B:Nat}{cs:List BZ}(U:η k=ptr B 0)(J:(N.c t).BP H x cs)(hc:∀j u,cs[j]?=Ac u->DR H (ptr B j) u):∀ {s:SV N.T} {v:BZ},s.BS g η H v->(Qy k t x s).BS g η H v:=by
 intro s;induction s with
 |loc j off=>
  intro v M;unfold Qy;split
  ·rename_i K;have:=AI K;obtain⟨D,d,rfl⟩:=M;have:B=D:=by grind[ptr]
   subst this;exact⟨⟨B,0,C5⟩,0,cs,by simp[ptr,w8],J,λj u L=>by have:=hc j u L;rw[qY,Abl,Abl];trivial⟩
  omega
 |lf n a l d m=>exact λ⟨F,G,u,e,i,p,q,Q,T⟩=>⟨F,G,u,e,i,d p,q,Q,m T⟩
 |t2 a b d m=>exact λ⟨y,z,e,i,p⟩=>⟨y,z,e,d i,m p⟩
 |t3 a b c d m I=>exact λ⟨y,z,w,e,i,p,q⟩=>⟨y,z,w,e,d i,m p,I q⟩
 |AK f r cs d=>exact λ⟨A,e,i⟩=>⟨A,e,d i⟩
 |vc a r d m=>exact λ⟨u,A,e,i,p⟩=>⟨u,A,e,d i,m p⟩
 |_=>exact λh=>h
theorem wT{k:Nat}(b:η k=ptr B 0)(c:(N.c t).BP H x cs)(hc:∀j u,cs[j]?=Ac u->DR H (ptr B j) u){y:El}{v:BZ}(h:(Ax S y).is C η H v):(Ax (λu=>Qy k t x (S u)) y).is C η H v:=by
 cases y with
 |tmp u=>exact iP (C:=C) b c hc h
 |_=>exact h
theorem Ap.ae{f:Nat}{b:SV N.T}{L:Ty}{y:L.den N.T}(hk:Rr f=Ac (.Ai g b))(hy:KD N C 64 L b=Ac (y, .nl))(h:Ap P C (λt=>Qy f L y (S t)) (Cy Rr f) o s)(hw:f∉keys s.wr)(hf:CM s.sv=Bp)(W:s.wr.all (λp=>VW p.2)=Bp):Ap P C S Rr o ⟨s.sv,f::s.rd,s.wr⟩:=by
 intro η H Of a w Y hn hs hi hx hr l K Q hK;rcases hr f (.inl (by simp)) _ hk with e|⟨x,T,B,cs,hB,rfl,hl⟩;· grind
 obtain⟨i,U,h3⟩:=bq Of hn T;obtain⟨c1,c2,M,hL,J⟩:=EG (cs:=cs.toList) hy hl;have J:BZ.agg c2.toArray= .agg #[]:=J;have J:c2=[]:=by grind
 subst J;obtain⟨I,g2⟩:=hs.Py U (b:=B) rfl (hs.ok i _ U);have D:H.at_ B=C5:=hs.Ir i _ B U rfl;rw[h3]at g2;have V:=(N.c L).mono I hL;have hc:∀j u,c1[j]?=Ac u->DR (H.put B (.cells cs g (0,0))) (ptr B j) u:=λj u d=>by refine⟨⟨B,j,C5⟩,cs,g,(0,0),rf,rf,by simp[Hp.put],?_⟩;grind
 have X:f∉keys (FA Y f):=λn=>by obtain⟨p,hp,e⟩:=By.1 n;have:=(Aba.1 hp).2;rw[e]at this;simp at this
 refine h η _ Of a w (FA Y f) (H8 hn) g2 (N.CW I hi) (λx hx'=>wT hB V hc ((hx x hx').mono I)) (λj d sr m=>?_) (λj d c n=>?_) K Q λv w' H2 η' Y' Z hη hY hwr hn' q F hsv=>?_
 ·unfold Cy at m;split at m;· cases m;exact .inl rfl
  ·rename_i A;have ne:=Abe A;exact(hr j (d.imp (Aag _) id) sr m).imp id λ⟨z,M,O⟩=>⟨z,by grind[ne,DC],O.mono I⟩
 ·unfold Cy at c;split at c;· cases c
  ·exact l j d c (CF n)
 ·have E:f∉keys Y':=λn=>(q f n).elim X hw;refine hK v w' H η' ((f, .Ai B (.cells cs g (0,0)))::Y') (Hp.le.refl H) (λj d=>hη j λc n=>?_) (λj d=>?_) (λj sr d=>?_) (Aaz.2 ⟨E,hn'⟩) (λj d=>?_) ?_ (Ch hf hsv)
  ·unfold Cy at c;split at c;· cases c
   ·exact d c n
  ·simp only[Ay];split;· rename_i A;have:=AI A;subst this;exact T.symm
   ·rename_i A;rw[hY j d,DC (λe=>Abe A e.symm)]
  ·have ne:f≠j:=λe=>by subst e;exact hw (Dj d)
   refine(hwr j sr d).imp id λ⟨z,M,O⟩=>⟨z,by rw[A3 ne];exact M,Si (No.1 W _ (A4 d)) O⟩
  ·simp only[keys,Aar,Aav]at d;rcases d with rfl|d;· exact .inl (Dj T)
   ·rcases q j d with e|e;· exact .inl (CF e)
    ·exact .inr e
  ·exact Ajd (i:=0) (r:= .Ai B (.cells cs g (0,0))) (o:= .cells cs g (0,0)) rf rf D (λw'' G=>G) (F.weaken Z)
theorem wS{b:Nat}{f:Ty}{y:f.den N.T}(e:Ni Rr S τ):Ni (Cy Rr b) (λt=>Qy b f y (S t)) τ:=λt=>by
 have c:=e t;generalize d:S t=sv at c⊢;show D5 τ (Cy Rr b) (Qy b f y (S t));rw[d];cases sv with
 |loc j off=>unfold Qy;split<;>trivial
 |D_ j i off m x=>
  intro g l h a;unfold Cy at a;split at a;· grind
  ·exact c g l h a
 |_=>exact c
theorem A1.ae{b:SV N.T}{m:Ty}{y:m.den N.T}(w:Rr c=Ac (.Ai g b))(A:KD N C 64 m b=Ac (y, .nl))(h:A1 P C (λt=>Qy c m y (S t)) (Cy Rr c) nk o (MD c k) r):A1 P C S Rr nk o k r:=by
 obtain⟨s,l,d,p,q,u,v⟩:=h;unfold MD at d;split at d
 ·rename_i B a;rw[AT]at a;have z:c∉keys s.wr:=λe=>by grind[AR]
  refine⟨_,l,d,p.ae w A z a.1 a.2,q,λj x f=>u j x ?_,λτ i=>?_⟩;· grind[Cy,Hc,absurd,aw]
  ·have n:=v τ (wS i);have a:=a.1;generalize s.sv=sv at n a;cases sv with
   |D_ _ _ _ _ _=>trivial
   |_=>exact n
 grind
def SM:SV N.T->List (SV N.T)
 | .vc a l=>a::SM l
 |_=>[]
def uJ:SV N.T->Bool
 | .vc _ l=>uJ l
 | .vn=>Bp
 |_=>Aj
structure Ca(T:Nat->Type)where
 f:Nat
 As:List (SV T)
 cs:List Nat
end
section
variable{η:Nat->BZ}{H:Hp}{x:El}{xs:List El}{tys:Array Gj}{q:PQ N}
def S1(S:Nat->SV N.T)(Rr:Nat->Option (SR N.T))(x:El)(xs:List El):Option (Ca N.T):=match Ax S x with
 | .AK f l a=>match uJ l&&a.all λc=>match Rr c with|some (.Ai _ _)=>Bp|_=>Aj with
  |true=>Ac ⟨f,SM l++xs.map (Ax S)++a.map (λc=> .loc c 0),a⟩
  |false=>C5
 |_=>C5
theorem M4{C:List (SV N.T)}{η:Nat->BZ}{H:Hp} :∀ {l:SV N.T} {us:List BZ},uJ l=Bp->l.is C η H (.tuple us.toArray)->us.length=(SM l).length/\∀(i:Nat) (s:SV N.T),(SM l)[i]?=Ac s->∃v,us[i]?=Ac v/\s.is C η H v
 | .vn,us,_,h=>by
  have h:BZ.tuple us.toArray= .tuple #[]:=h;have:us=[]:=by grind
  subst this;exact⟨rfl,λi s h=>by trivial⟩
 | .vc a l,us,g,⟨u,c,e,d,f⟩=>by
  have e:us=u::c:=by grind
  subst e;obtain⟨j,m⟩:=M4 (l:=l) g f;refine⟨by grind[SM],λi s h=>?_⟩;cases i with
  |zero=>simp[SM]at h;subst h;exact⟨u,rfl,d⟩
  |succ i=>grind[SM]
theorem iM{q:Ca N.T}(E:o.op= .call {callee:= .value x,args:=xs.toArray,argTypes:=tys})(h:S1 S Rr x xs=Ac q)(t:Ts P q.f){Y:List (Nat×Aw)}{a:Act}(F:∀x∈o.op.operands,(Ax S x).is C η H (a.eval x))(Q:∀c∈q.cs,∀I,Rr c=Ac I->DQ C η H Y c I):
  ∃vs:List BZ,vs.length=q.As.length/\(∀(i:Nat) (s:SV N.T),q.As[i]?=Ac s->∃v,vs[i]?=Ac v/\s.is C η H v)/\∀H O R,Td P q.f vs H O R->BM P o.op o.type (EV a) H O R:=by
 unfold S1 at h;split at h
 ·rename_i f l D T;split at h
  ·rename_i y;cases h;rw[AT]at y;have u:(Ax S x).is C η H (a.eval x):=F x (by grind[ZQ,fT]);rw[T]at u;obtain⟨J,e,M⟩:=u;obtain⟨K,W⟩:=M4 y.1 M;refine⟨J++xs.map a.eval++D.map η,by grind,λi s j=>?_,λH O R U=>?_⟩
   ·rw[Aaj]at j⊢;by_cases V:i<(SM l).length;· grind
    ·rw[Aab (by omega)]at j;rw[Aab (by omega),K];by_cases w:i-(SM l).length<xs.length;· rw[Aaa (by simpa using w),Abz]at j;rw[Aaa (by simpa using w),Abz];obtain⟨z,G,rfl⟩:=Pd.1 j;refine⟨_,by rw[G];rfl,F z (by rw[E];simp[ZQ,fT];exact .inr (Aai G))⟩
     ·rw[Aab (by simpa using w),Abz]at j;rw[Aab (by simpa using w),Abz];simp only[Aao]at j⊢;obtain⟨c,hc,rfl⟩:=Pd.1 j;have p:=Aai hc;have n:=No.1 y.2 c p;refine⟨η c,by rw[hc];rfl,?_⟩;split at n
      ·rename_i g b L;rcases Q c p _ L with e|⟨X,_,B,_,A,_⟩;· cases e
       ·exact⟨B,A,A⟩
      ·cases n
   ·rw[E];exact Akd (first:=J) (caps:=D.map η) t (congrArg Ac e) (LG xs) U
  grind
 grind
def XB{T:Nat->Type} :SV T->Option Nat
 | .AG k=>Ac k
 | .lf _ a l=>match XB a with
  |some k=>Ac k
  |none=>XB l
 |_=>C5
def VE(a:List (SV N.T)):List (Nat×SP)->Option Nat
 | []=>C5
 |(i, .v _ _)::l=>match XB (a.getD i .no)with
  |some k=>Ac k
  |none=>VE a l
 |_::l=>VE a l
def aa(a:List (SV N.T)):List (Nat×SP)->Option (Nat×Ty)
 | []=>C5
 |(i, .pd _ t _)::l=>match a.getD i .no with
  | .loc k _=>Ac (k,t)
  |_=>aa a l
 |_::l=>aa a l
def O4(C:List (SV N.T))(f:Nat)(q:PQ N)(x:El)(xs:List El)(nk:Nat):Nat->(Nat->SV N.T)->(Nat->Option (SR N.T))->(Bw N.T->Nat->Option R)->Option (Option R)
 |0,_,_,_=>C5
 |n+1,S,Rr,k=>match S1 S Rr x xs with
  |some c=>
        match Hc c.f f with
   |true=>
        match VE c.As q.pi.sl with
    |some a=>match Rr a with
     |some (.row _ d l)=>O4 C f q x xs nk n (λt=>GJ a d l (S t)) (Kj C Rr a d l) (MD a k)
     |_=>C5
    |none=>match aa c.As q.pi.sl with
     |some (kb,e)=>match Rr kb with
      |some (.Ai _ b)=>match XB (zi C b)with
       |some a=>match Rr a with
        |some (.row _ d l)=>O4 C f q x xs nk n (λt=>GJ a d l (S t)) (Kj C Rr a d l) (MD a k)
        |_=>C5
       |none=>match KD N C 64 e b with
        |some (y, .nl)=>O4 C f q x xs nk n (λt=>Qy kb e y (S t)) (Cy Rr kb) (MD kb k)
        |_=>C5
      |_=>C5
     |none=>Wn C Rr nk q c.As c.cs k
   |false=>C5
  |none=>C5
theorem Vh{y:BI N q.po.hs}{τ:Nat->Nat}{Rr:Nat->Option (SR N.T)}{ρ:Nat->Nat}(c:uD q=Bp):D5 τ Rr ((Jc q y).DL ρ):=by
 unfold uD at c;rw[AT]at c;have B:∀p∈Zw q,∀ {ρ:Nat->Nat} {Rr:Nat->Option (SR N.T)},D5 τ Rr ((inst N q.po.hs y p).DL ρ):=λp l {ρ Rr} =>by
  have:=
      No.1 c.1 p l;rw[AT]at this;have s:=this.1;have pr:∀(a:List HT) (x:BI N a) (j:Nat),D5 τ Rr ((Cr N a x j).DL ρ):=λa x j=>by
   have:∀(a:List HT) (x:BI N a) (j:Nat),Cr N a x j= .no\/∃h y,Cr N a x j=ep N h y:=by
    intro a;induction a with
    |nil=>exact λ_ _=> .inl rfl
    |cons t g w=>
     intro x j;cases g with
     |nil=>cases j with
      |zero=>exact .inr ⟨t,x,rfl⟩
      |succ j=>exact .inl rfl
     |cons u g=>cases j with
      |zero=>exact .inr ⟨t,x.1,rfl⟩
      |succ j=>exact w x.2 j
   rcases this a x j with e|⟨h,y,e⟩;· rw[e];trivial
   ·rw[e];cases h<;>trivial
  cases p with
  |v j t=>exact pr _ _ _
  |nat j=>exact pr _ _ _
  |AG _=>trivial
  |loc _ _=>trivial
  |AK _ _ _=>trivial
  |Am=>trivial
  |nl=>trivial
  |mp _=>trivial
  |pd j t off=>
   show D5 τ Rr (SV.DL ρ (match Cr N q.po.hs y j with| .d t x=>SV.pd t x off|_=> .no));split<;>trivial
  |px f z=>cases z with
   |sf=>trivial
   |hc _=>trivial
   |sub j n t=>
    show D5 τ Rr (SV.DL ρ (match Cr N q.po.hs y j,Cr N q.po.hs y n with| .na i, .na m=>SV.px f (.sub i m t)|_,_=> .px f .any));split<;>trivial
  |sv A=>cases A<;>trivial
  |_=>trivial
 unfold Jc;unfold Zw at B;split;· trivial
 ·simp_all
 all_goals trivial
theorem JN{f:Nat}{q:PQ N}{x:El}{xs:List El}{tys:Array Gj}(D:o.op= .call {callee:= .value x,args:=xs.toArray,argTypes:=tys})(A:Cp P f q):∀ {n:Nat} {S:Nat->SV N.T} {Rr:Nat->Option (SR N.T)} {k:Bw N.T->Nat->Option R},(∀j,nk<=j->Rr j=C5)->O4 C f q x xs nk n S Rr k=Ac (Ac r)->A1 P C S Rr nk o k r
 |0,_,_,_,_,h=>by cases h
 |n+1,S,Rr,k,t,h=>by
  unfold O4 at h;split at h
  ·rename_i c hc;split at h
   ·rename_i T;have e:=AI T;split at h
    ·rename_i E hk;split at h
     ·rename_i g te l u;have m:E<nk:=Aby λi=>by grind
      exact .gq u (JN D A (On t m) h)
     grind
    ·split at h
     ·rename_i kb tb V;split at h;case h_2=>cases h
      rename_i g b w;have v:kb<nk:=Aby λi=>by have:=t kb i;rw[w]at this;cases this
      split at h
      ·rename_i E U;split at h
       ·rename_i g te l u;have m:E<nk:=Aby λi=>by have:=t E i;rw[u]at this;cases this
        exact .gq u (JN D A (On t m) h)
       ·cases h
      ·split at h;· rename_i y I;exact .ae w I (JN D A (Ue t v) h)
       ·cases h
     unfold Wn at h;simp only at h;split at h
     ·rename_i d;simp only[AT]at d;split at h
      ·rename_i z hz;obtain⟨y,I,h⟩:=Bh (Abp h);obtain⟨L,M⟩:=X2 (S:=S) (o:=o) (f:=f) (ex:=c.cs) A d.2.2.1 d.2.2.2 (AI d.1) (λp W=>by simpa using No.1 d.2.1 p W) hz I t λη H Y a Z u=>by
        obtain⟨vs,k1,k2,k3⟩:=iM D hc (by rw[e];exact A.bB) Z (λK F sr G=>u K (Acb _ F) sr G);exact⟨vs,k1,k2,λH O R X=>k3 H O R (by rw[e];exact X)⟩
       refine⟨_,_,h,L,Nat.le_add_right _ _,M,λτ _=>?_⟩;exact Vh d.2.2.2
      ·cases h
     ·cases h
   grind
  grind
inductive CQ(N:C7)where
 |PB (l:List (PQ N))
 |its (l:List (IQ N))
 |qd (l:List (JQ N))
end
section
variable{f:Nat}{x:El}{tys:Array Gj}
def Bt(P:GG)(f:Nat):CQ N->Prop
 | .PB l=> ∀q∈l,Cp P f q
 | .its l=> ∀q∈l,IZ P f q
 | .qd l=> ∀q∈l,IY P f q
def SZ(C:List (SV N.T))(f:Nat)(x:El)(xs:List El)(S:Nat->SV N.T)(Rr:Nat->Option (SR N.T))(nk:Nat)(k:Bw N.T->Nat->Option R):List (PQ N)->Option R
 | []=>C5
 |q::l=>match O4 C f q x xs nk 9 S Rr k with
  |some z=>z
  |none=>SZ C f x xs S Rr nk k l
theorem M8{f:Nat}{x:El}{xs:List El}{tys:Array Gj}(c:o.op= .call {callee:= .value x,args:=xs.toArray,argTypes:=tys})(b:∀j,nk<=j->Rr j=C5):∀ {l:List (PQ N)},(∀q∈l,Cp P f q)->SZ C f x xs S Rr nk k l=Ac r->A1 P C S Rr nk o k r
 | [],_,h=>by cases h
 |q::l,d,h=>by
  unfold SZ at h;split at h;· rename_i z e;subst h;exact JN c (d q (by simp)) b e
  ·exact M8 c b (λq g=>d q (by grind)) h
theorem JR{C:List (SV N.T)}{η:Nat->BZ}{H:Hp} :∀(ps:List Ty) (d:List (SV N.T)) (vs:List BZ) (x:DM N ps),Uy N C ps d=Ac x->vs.length=d.length->(∀(i:Nat) (s:SV N.T),d[i]?=Ac s->∃v,vs[i]?=Ac v/\s.is C η H v)->YA H ps x vs
 | [],[],vs,x,h,a,_=>Abc a
 | [],_::_,_,x,h,_,_=>by cases h
 | [t],[],_,x,h,_,_=>by cases h
 | [t],[s],vs,x,h,a,b=>by obtain⟨v,e,f⟩:=b 0 s rfl;obtain⟨j,rfl⟩:∃j,vs=[j]:=Adb.1 a;cases e;exact⟨_,rfl,V6 (DH (t:=t) h f)⟩
 | [t],_::_::_,_,x,h,_,_=>by cases h
 |t::u::c,[],_,x,h,_,_=>by cases h
 |t::u::c,s::g,[],x,h,a,b=>by grind
 |t::u::c,s::g,v::vs,x,h,a,b=>by
  have h:(match Tq C t s,Uy N C (u::c) g with
   |some x,Ac y=>Ac (x,y)
   |_,_=>C5)=Ac x:=h;split at h;· rename_i z w f l;cases h;obtain⟨j,e,m⟩:=b 0 s rfl;cases e;exact⟨_,_,rfl,V6 (DH (t:=t) f m),JR (u::c) g vs w l (by grind) λi s n=>b (i+1) s n⟩
  grind
def cp(C:List (SV N.T))(Φ:Nat->Option (CQ N))(S:Nat->SV N.T)(Rr:Nat->Option (SR N.T))(nk:Nat)(x:El)(xs:List El)(k:Bw N.T->Nat->Option R):Option R:=match x with
 | .func f=>match Φ f with
  |some (.PB l)=>SZ C f (.func f) xs S Rr nk k l
  |_=>C5
 |x=>match S1 S Rr x xs with
  |some c=>match Φ c.f with
   |some (.PB l)=>SZ C c.f x xs S Rr nk k l
   |_=>C5
  |none=>C5
theorem ZM{Φ:Nat->Option (CQ N)}(d:∀f q,Φ f=Ac q->Bt P f q)(D:∀j,nk<=j->Rr j=C5){xs:Array El}(Z:o.op= .call {callee:= .value x,args:=xs,argTypes:=tys})(h:cp C Φ S Rr nk x xs.toList k=Ac r):A1 P C S Rr nk o k r:=by
 have i:o.op= .call {callee:= .value x,args:=xs.toList.toArray,argTypes:=tys} :=by omega
 unfold cp at h;split at h
 ·rename_i f;split at h
  ·rename_i l n;exact M8 i D (d _ _ n) h
  ·cases h
 ·split at h
  ·rename_i c hc;split at h
   ·rename_i l n;exact M8 i D (d _ _ n) h
   ·cases h
  ·cases h
def pE:List (SV N.T)->SV N.T
 | []=> .vn
 |a::l=> .vc a (pE l)
def iE(S:Nat->SV N.T):List El->Option (List Nat)
 | []=>Ac []
 |x::a=>match Ax S x,iE S a with
  | .loc c 0,Ac l=>Ac (c::l)
  |_,_=>C5
def pG(S:Nat->SV N.T)(nk f:Nat)(fs cs:List El)(k:Bw N.T->Nat->Option R):Option R:=match iE S cs with
 |some l=>k ⟨.AK f (pE (fs.map (Ax S))) l,[],[]⟩ nk
 |none=>C5
theorem Vz{C:List (SV N.T)}{η:Nat->BZ}{H:Hp}{a:Act} :∀ {fs:List El},(∀x∈fs,(Ax S x).is C η H (a.eval x))->(pE (fs.map (Ax S))).is C η H (.tuple (fs.map a.eval).toArray)
 | [],_=>rfl
 |x::c,h=>⟨a.eval x,c.map a.eval,rfl,h x (by simp),Vz λy d=>h y (by grind)⟩
theorem Wi{C:List (SV N.T)}{η:Nat->BZ}{H:Hp}{a:Act} :∀ {cs:List El} {l:List Nat},iE S cs=Ac l->(∀x∈cs,(Ax S x).is C η H (a.eval x))->cs.map a.eval=l.map η
 | [],l,h,_=>by cases h;rfl
 |x::m,l,h,b=>by
  unfold iE at h;split at h;· rename_i c j f g;cases h;have:=b x (by simp);rw[f]at this;obtain⟨B,d,e⟩:=this;rw[Aar,Aar,Wi g (λy i=>b y (by grind)),d,e]
  grind
theorem oJ{fs cs:Array El}(j:o.op= .makeFunc (.func f) fs cs)(h:pG S nk f fs.toList cs.toList k=Ac r):A1 P C S Rr nk o k r:=by
 unfold pG at h;split at h;· rename_i l i;refine .y h (Abv λη H O a d _=>?_) λ_ _=>trivial;have e:∀x∈fs.toList,(Ax S x).is C η H (a.eval x):=λx c=>d x (by grind[ZQ]);have g:∀x∈cs.toList,(Ax S x).is C η H (a.eval x):=λx c=>d x (by grind[ZQ]);refine⟨.func (.func f) (fs.toList.map a.eval).toArray (cs.toList.map a.eval).toArray,?_,fs.toList.map a.eval,by rw[Wi i g],Vz e⟩;rw[j];exact Au.makeFunc (fs:=fs.toList) (cs:=cs.toList) (LG _) (LG _)
 grind
end
end
class C2 (N:C7) (P:GG):Prop where
 eq:∀ {P'},N.prog=Ac P'->P'=P
 laid:laidOutB P=Bp
abbrev fJ:Ty:= .st (.pr (.int .i64) (.int .i64))
abbrev fK{T:Nat->Type}(m:fJ.den T):Int×Int:=m
section
variable {N : C7}
section
variable{H:Hp}{κ:Type}{a:Ty}{k:κ}{x:a.den N.T}{v:BZ}
theorem Ep.len{a:Ty}{H:Hp}{κ:Type} :∀ {l:List (κ×a.den N.T)} {m:List (κ×BZ)},Ep a H l m->m.length=l.length
 | [],[],_=>rfl
 |_::l,_::m,⟨_,_,h⟩=>congrArg (· +1) (Ep.len h)
 | [],_::_,h=>h.elim
 |_::_,[],h=>h.elim
abbrev FN(a:Ty)(H:Hp)(x:a.den N.T)(v:BZ):Prop:= ∃b,(N.c a).BP H x b/\CJ a b v
theorem Ep.get{b:Ty}{H:Hp}{κ:Type} [DecidableEq κ](k:κ):∀ {l:List (κ×b.den N.T)} {m:List (κ×BZ)},Ep b H l m->(AB l k=C5/\AB m k=C5)\/∃x v,AB l k=Ac x/\AB m k=Ac v/\FN b H x v
 | [],[],_=> .inl ⟨rfl,rfl⟩
 |(j,x)::l,(f,v)::m,⟨a,c,d⟩=>by
  subst a;unfold AB;by_cases e:j=k;· grind
  ·rw[if_neg e,if_neg e];exact Ep.get k d
 | [],_::_,h=>h.elim
 |_::_,[],h=>h.elim
theorem Ep.set{a:Ty}{H:Hp}{κ:Type} [DecidableEq κ]{k:κ}{x:a.den N.T}{v:BZ}(d:FN a H x v):∀ {l:List (κ×a.den N.T)} {m:List (κ×BZ)},Ep a H l m->Ep a H (Im l k x) (Im m k v)
 | [],[],_=>trivial
 |(j,y)::l,(g,u)::m,⟨b,f,c⟩=>by
  subst b;unfold Im;by_cases e:j=k;· rw[if_pos e,if_pos e];trivial
  ·rw[if_neg e,if_neg e];exact⟨rfl,f,Ep.set d c⟩
 | [],_::_,h=>h.elim
 |_::_,[],h=>h.elim
theorem Ep.app{a:Ty}{H:Hp}{κ:Type}{k:κ}{x:a.den N.T}{v:BZ}(b:FN a H x v):∀ {l:List (κ×a.den N.T)} {m:List (κ×BZ)},Ep a H l m->Ep a H (l++[(k,x)]) (m++[(k,v)])
 | [],[],_=>⟨rfl,b,trivial⟩
 |_::l,_::m,⟨c,d,e⟩=>⟨c,d,Ep.app b e⟩
 | [],_::_,h=>h.elim
 |_::_,[],h=>h.elim
theorem Ep.put[DecidableEq κ](d:FN a H x v){l:List (κ×a.den N.T)}{m:List (κ×BZ)}(h:Ep a H l m):Ep a H (Bv l k x) (Bv m k v):=by
 unfold Bv;rcases h.get k with⟨b,c⟩|⟨_,_,b,c,_⟩;· rw[b,c];exact h.app d
 ·rw[b,c];exact h.set d
def zcs(b:Ty)(z:BZ):Option (List BZ):=match b.agg,z with
 |true, .agg a=>Ac a.toList
 |true,_=>C5
 |false,z=>Ac [z]
def zdK(N:C7)(P:GG)(d:Gj)(b:Ty):Option (b.den N.T):=match P.info? d with
 |some a=>match a.zero with
  |some z=>match zcs b z with
   |some c=>match parse N 16 b c with
    |some (x,[])=>Ac x
    |_=>C5
   |none=>C5
  |none=>C5
 |none=>C5
theorem nH{P:GG}{f:Gj}{d:Ty}{x:d.den N.T}(h:zdK N P f d=Ac x):∃n b z,TI P f n b z/\∀H,FN d H x z:=by
 unfold zdK at h;split at h
 ·rename_i c i;split at h
  ·rename_i z l;split at h
   ·rename_i g hc;split at h
    ·rename_i y k;refine⟨_,_,z,⟨c,i,rfl,rfl,l⟩,λH=>⟨g,?_,?_⟩⟩;· obtain⟨pre,e,j⟩:=CC (H:=H) k;grind
     ·unfold zcs at hc;unfold CJ;split at hc;· rename_i a;cases hc;rw[a]
      all_goals grind
    grind
   grind
  grind
 grind
end
variable {R : Type} {P : GG} {C : List (SV N.T)} {S : Nat -> SV N.T} {Rr : Nat -> Option (SR N.T)} {nk : Nat} {o : KV} {k : Bw N.T -> Nat -> Option R} {r : R}
section
variable{t:Gj}{x:El}{H:Hp}{y:El}
def pF(P:GG)(nk:Nat)(t:Gj)(k:Bw N.T->Nat->Option R):Option R:=match N.prog with
 |none=>C5
 |some _=>match P.underlying t with
  |some (.map g b)=>match LW N P b,P.underlying g with
   |some a,Ac .string=>k ⟨.mp nk,[],[(nk, .map g .str a [])]⟩ (nk+1)
   |some a,Ac (.int .i64)=>k ⟨.mp nk,[],[(nk, .map g (.int .i64) a [])]⟩ (nk+1)
   |some a,Ac (.struct _)=>match OA P g with
    |true=>k ⟨.mp nk,[],[(nk, .map g fJ a [])]⟩ (nk+1)
    |false=>C5
   |_,_=>C5
  |_=>C5
theorem oI[C2 N P](f:o.op= .makeMap t C5)(e:∀j,nk<=j->Rr j=C5)(h:pF P nk t k=Ac r):A1 P C S Rr nk o k r:=by
 unfold pF at h;split at h;· grind
 ·rename_i d c;obtain rfl:=C2.eq (N:=N) (P:=P) c;split at h
  ·split at h;· rename_i q n b;refine .new h (Afj (e nk (Aae _)) λη H O a p _=>?_) λ_ _=>trivial;rw[f];refine(Ahs (mkS b)).mono ?_;rintro v i l ⟨B,rfl,rfl,rfl⟩;exact⟨rfl,_, .map (Ac B),rfl,⟨B,AA _ _ _,d,mkS b,[],c,λ_=>rfl,λ_ h=>h,rfl,trivial⟩,(AA _ _ _).symm,rfl⟩
   ·rename_i q n b;refine .new h (Afj (e nk (Aae _)) λη H O a p _=>?_) λ_ _=>trivial;rw[f];refine(Ahs (mkI b)).mono ?_;rintro v i l ⟨B,rfl,rfl,rfl⟩;exact⟨rfl,_, .map (Ac B),rfl,⟨B,AA _ _ _,d,mkI b,[],c,λ_=>rfl,λ_ h=>h,rfl,trivial⟩,(AA _ _ _).symm,rfl⟩
   ·split at h;· rename_i m;refine .new h (Afj (e nk (Aae _)) λη H O a p _=>?_) λ_ _=>trivial;rw[f];refine(Ahs (mkP (C2.laid N) m)).mono ?_;rintro v i l ⟨B,rfl,rfl,rfl⟩;exact⟨rfl,_, .map (Ac B),rfl,⟨B,AA _ _ _,d,mkP (C2.laid N) m,[],c,λ_=>rfl,λ_ h=>h,rfl,trivial⟩,(AA _ _ _).symm,rfl⟩
    grind
   grind
  grind
theorem mw{η:Nat->BZ}{m:(fJ.den N.T)}{v:BZ}(h:(SV.d fJ m:SV N.T).is C η H v):v= .agg #[.int .i64 m.1, .int .i64 m.2]:=by obtain⟨g,i,c⟩:=h;have c:v= .agg g.toArray:=c;obtain⟨d,f,e,a,b⟩:=i;have a:d=[.int .i64 m.1]:=a;have b:f=[.int .i64 m.2]:=b;grind
def pN(
     P:GG) (C:List (SV N.T)) (S:Nat->SV N.T) (Rr:Nat->Option (SR N.T)) (nk:Nat) (t:Gj) (x y:El) (ok:Bool) (k:Bw N.T->Nat->Option R):Option R:=match Ax S x with
 | .mp b=>match Rr b,P.underlying t with
  |some (
      .map g i e l),Ac (.map h f)=>match Hc g h,zdK N P f e with
   |true,Ac z=>match i,l with
    | .str,l=>match S3 (Ax S y)with
     |some m=>Af (m.length<=Ah) (match ok with
      |true=>k ⟨.t2 (.d e ((AB (κ:=Aq) l m).getD z)) (.d .bool (AB (κ:=Aq) l m).isSome),[b],[]⟩ nk
      |false=>k ⟨.d e ((AB (κ:=Aq) l m).getD z),[b],[]⟩ nk)
     |none=>C5
    | .int .i64,l=>match intOf (Ax S y)with
     |some (.i64,m)=>Aa .i64 m (match ok with
      |true=>k ⟨.t2 (.d e ((AB (κ:=Int) l m).getD z)) (.d .bool (AB (κ:=Int) l m).isSome),[b],[]⟩ nk
      |false=>k ⟨.d e ((AB (κ:=Int) l m).getD z),[b],[]⟩ nk)
     |_=>C5
    | .st (.pr (.int .i64) (.int .i64)),l=>match Tq C fJ (Ax S y)with
     |some m=>Af (DS (fK m).1/\DS (fK m).2) (match ok with
      |true=>k ⟨.t2 (.d e ((AB (κ:=Int×Int) l (fK m)).getD z)) (.d .bool (AB (κ:=Int×Int) l (fK m)).isSome),[b],[]⟩ nk
      |false=>k ⟨.d e ((AB (κ:=Int×Int) l (fK m)).getD z),[b],[]⟩ nk)
     |none=>C5
    |_,_=>C5
   |_,_=>C5
  |_,_=>C5
 |_=>C5
theorem Km{c:Ty}{κ:Type} [DecidableEq κ]{l:List (κ×c.den N.T)}{f:List (κ×BZ)}(h:Ep c H l f){z:c.den N.T}{g:BZ}(j:FN c H z g)(m:κ):
  FN c H ((AB l m).getD z) ((AB f m).getD g)/\(AB f m).isSome=(AB l m).isSome:=by
 rcases h.get m with⟨d,e⟩|⟨_,_,d,e,i⟩;all_goals grind
theorem oO[C2 N P]{ok:Bool}(E:o.op= .lookup t x y ok)(h:pN P C S Rr nk t x y ok k=Ac r):A1 P C S Rr nk o k r:=by
 have Z:∀ {η:Nat->BZ} {H:Hp} {a:Act},(∀x∈o.op.operands,(Ax S x).is C η H (a.eval x))->(Ax S x).is C η H (a.eval x):=λc=>c x (by grind[ZQ]);have G:∀ {η:Nat->BZ} {H:Hp} {a:Act},(∀x∈o.op.operands,(Ax S x).is C η H (a.eval x))->(Ax S y).is C η H (a.eval y):=λc=>c y (by grind[ZQ]);unfold pN at h;split at h
 ·rename_i b hs;have F:∀ {η:Nat->BZ} {H:Hp} {a:Act},(∀x∈o.op.operands,(Ax S x).is C η H (a.eval x))->a.eval x=η b:=λ{η H a} c=>by
   have:(SV.mp b:SV N.T).is C η H (a.eval x):=by simp_all
   exact this.1
  split at h
  ·rename_i g kt vt l g' et W J;split at h
   ·rename_i z Y hz;have:=AI Y;subst this;obtain⟨n,by_,zv,q,I⟩:=nH hz;split at h
    ·rename_i l;split at h
     ·rename_i m V;obtain⟨hc,h⟩:=AE h;have key:∀(η:Nat->BZ) (H:Hp) (O:List Aw) (a:Act),(∀x∈o.op.operands,(Ax S x).is C η H (a.eval x))->(∀k∈[b],∀s,Rr k=Ac s->s= .gone\/∃(x:Aw) (i:Nat),O[i]?=Ac x/\s.is C η H k x)->
        ∃u e,FN vt H ((AB (κ:=Aq) l m).getD z) u/\e=(AB (κ:=Aq) l m).isSome/\Au P (.lookup t x y Bp) o.type (EV a) H O (.tuple #[u, .bool e])/\Au P (.lookup t x y Aj) o.type (EV a) H O u:=λη H O a c j=>by
       rcases j b (by simp) _ W with e|⟨X,i,d,B,Q,P',K,ms,f,T,D,rfl,U⟩;· grind
       obtain rfl:=C2.eq (N:=N) (P:=P) f;obtain⟨L,M⟩:=Km U (I H) m;have v:EV a x=Ac (.map (Ac B)):=congrArg Ac ((F c).trans Q);have w:EV a y=Ac (K.val m):=congrArg Ac ((IP V (G c)).trans (T m).symm);exact⟨_,_,L,M,Ahy J q v w (D m hc) d,Ahx J q v w (D m hc) d⟩
      split at h;· refine .y h (Abv λη H O a c j=>?_) λ_ _=>trivial;obtain⟨u,e,d,rfl,f,_⟩:=key η H O a c j;exact⟨_,by rw[E];exact f,_,_,rfl,d,CO⟩
      ·refine .y h (Abv λη H O a c j=>?_) λ_ _=>trivial;obtain⟨u,e,d,rfl,_,f⟩:=key η H O a c j;exact⟨_,by rw[E];exact f,d⟩
     grind
    ·rename_i l;split at h
     ·rename_i m V;obtain⟨hc,_,h⟩:=BV h;have key:∀(η:Nat->BZ) (H:Hp) (O:List Aw) (a:Act),(∀x∈o.op.operands,(Ax S x).is C η H (a.eval x))->(∀k∈[b],∀s,Rr k=Ac s->s= .gone\/∃(x:Aw) (i:Nat),O[i]?=Ac x/\s.is C η H k x)->
        ∃u e,FN vt H ((AB (κ:=Int) l m).getD z) u/\e=(AB (κ:=Int) l m).isSome/\Au P (.lookup t x y Bp) o.type (EV a) H O (.tuple #[u, .bool e])/\Au P (.lookup t x y Aj) o.type (EV a) H O u:=λη H O a c j=>by
       rcases j b (by simp) _ W with e|⟨X,i,d,B,Q,P',K,ms,f,T,D,rfl,U⟩;· cases e
       obtain rfl:=C2.eq (N:=N) (P:=P) f;obtain⟨L,M⟩:=Km U (I H) m;have v:EV a x=Ac (.map (Ac B)):=congrArg Ac ((F c).trans Q);have w:EV a y=Ac (K.val m):=congrArg Ac ((AU V (G c)).trans (T m).symm);exact⟨_,_,L,M,Ahy J q v w (D m hc) d,Ahx J q v w (D m hc) d⟩
      split at h;· refine .y h (Abv λη H O a c j=>?_) λ_ _=>trivial;obtain⟨u,e,d,rfl,f,_⟩:=key η H O a c j;exact⟨_,by rw[E];exact f,_,_,rfl,d,CO⟩
      ·refine .y h (Abv λη H O a c j=>?_) λ_ _=>trivial;obtain⟨u,e,d,rfl,_,f⟩:=key η H O a c j;exact⟨_,by rw[E];exact f,d⟩
     ·cases h
    ·rename_i l;split at h
     ·rename_i m V;obtain⟨hc,h⟩:=AE h;have key:∀(η:Nat->BZ) (H:Hp) (O:List Aw) (a:Act),(∀x∈o.op.operands,(Ax S x).is C η H (a.eval x))->(∀k∈[b],∀s,Rr k=Ac s->s= .gone\/∃(x:Aw) (i:Nat),O[i]?=Ac x/\s.is C η H k x)->
        ∃u e,FN vt H ((AB (κ:=Int×Int) l m).getD z) u/\e=(AB (κ:=Int×Int) l m).isSome/\Au P (.lookup t x y Bp) o.type (EV a) H O (.tuple #[u, .bool e])/\Au P (.lookup t x y Aj) o.type (EV a) H O u:=λη H O a c j=>by
       rcases j b (by simp) _ W with e|⟨X,i,d,B,Q,P',K,ms,f,T,D,rfl,U⟩;· cases e
       obtain rfl:=C2.eq (N:=N) (P:=P) f;obtain⟨L,M⟩:=Km U (I H) m;have v:EV a x=Ac (.map (Ac B)):=congrArg Ac ((F c).trans Q);have w:EV a y=Ac (K.val m):=congrArg Ac ((mw (DH (t:=fJ) V (G c))).trans (T m).symm);exact⟨_,_,L,M,Ahy J q v w (D m hc) d,Ahx J q v w (D m hc) d⟩
      split at h;· refine .y h (Abv λη H O a c j=>?_) λ_ _=>trivial;obtain⟨u,e,d,rfl,f,_⟩:=key η H O a c j;exact⟨_,by rw[E];exact f,_,_,rfl,d,CO⟩
      ·refine .y h (Abv λη H O a c j=>?_) λ_ _=>trivial;obtain⟨u,e,d,rfl,_,f⟩:=key η H O a c j;exact⟨_,by rw[E];exact f,d⟩
     ·cases h
    grind
   grind
  grind
 grind
def fH(
     P:GG) (C:List (SV N.T)) (S:Nat->SV N.T) (Rr:Nat->Option (SR N.T)) (nk:Nat) (t:Gj) (x y u:El) (k:Bw N.T->Nat->Option R):Option R:=match Ax S x with
 | .mp b=>match Rr b,P.underlying t with
  |some (.map g d a l),Ac (.map c _)=>match Hc g c,Tq C a (Ax S u)with
   |true,Ac z=>match d,l with
    | .str,l=>match S3 (Ax S y)with
     |some m=>Af (m.length<=Ah/\l.length<=Ah) (k ⟨.no,[],[(b, .map g .str a (Bv (κ:=Aq) l m z))]⟩ nk)
     |none=>C5
    | .int .i64,l=>match intOf (Ax S y)with
     |some (.i64,m)=>Aa .i64 m (Af (l.length<=Ah) (k ⟨.no,[],[(b, .map g (.int .i64) a (Bv (κ:=Int) l m z))]⟩ nk))
     |_=>C5
    | .st (.pr (.int .i64) (.int .i64)),l=>match Tq C fJ (Ax S y)with
     |some m=>Af ((DS (fK m).1/\DS (fK m).2)/\l.length<=Ah) (k ⟨.no,[],[(b, .map g fJ a (Bv (κ:=Int×Int) l (fK m) z))]⟩ nk)
     |none=>C5
    |_,_=>C5
   |_,_=>C5
  |_,_=>C5
 |_=>C5
theorem ZH[C2 N P]{u:El}(c:o.op= .mapUpdate t x y u\/o.op= .insert t x y u)(h:fH P C S Rr nk t x y u k=Ac r):A1 P C S Rr nk o k r:=by
 have Z:∀ {η:Nat->BZ} {H:Hp} {a:Act},(∀x∈o.op.operands,(Ax S x).is C η H (a.eval x))->(Ax S x).is C η H (a.eval x):=λd=>d x (by grind[ZQ]);have I:∀ {η:Nat->BZ} {H:Hp} {a:Act},(∀x∈o.op.operands,(Ax S x).is C η H (a.eval x))->(Ax S y).is C η H (a.eval y):=λd=>d y (by grind[ZQ]);have G:∀ {η:Nat->BZ} {H:Hp} {a:Act},(∀x∈o.op.operands,(Ax S x).is C η H (a.eval x))->(Ax S u).is C η H (a.eval u):=λd=>d u (by grind[ZQ]);unfold fH at h;split at h
 ·rename_i b hs;have F:∀ {η:Nat->BZ} {H:Hp} {a:Act},(∀x∈o.op.operands,(Ax S x).is C η H (a.eval x))->a.eval x=η b:=λ{η H a} d=>by
   have:(SV.mp b:SV N.T).is C η H (a.eval x):=by simp_all
   exact this.1
  split at h
  ·rename_i g kt M l g' et J L;split at h
   ·rename_i z Y hz;have:=AI Y;subst this;split at h
    ·split at h
     ·rename_i m V;obtain⟨⟨hc,e⟩,h⟩:=AE h;refine .set h J (Afy J (by simp) λη H O a X i d A f _=>?_) λ_ _=>trivial;obtain⟨B,f,U,K,ms,D,E,p,rfl,q⟩:=f;obtain rfl:=C2.eq (N:=N) (P:=P) D;have s:EV a x=Ac (.map (Ac B)):=congrArg Ac ((F d).trans f);have w:EV a y=Ac (K.val m):=congrArg Ac ((IP V (I d)).trans (E m).symm);have W:FN M H z (a.eval u):=DH (t:=M) hz (G d);refine⟨_,⟨B,f,U,K,_,D,E,p,rfl,q.put (k:=m) W⟩,?_⟩;rcases c with c|c<;>rw[c];· exact(Aht L s w rfl (p m hc) (by rw[q.len];exact e) A).mono λv Q T ⟨j,n⟩=>⟨j,n,trivial⟩
      ·exact(Ahr L s w rf (p m hc) (by rw[q.len];exact e) A).mono λv Q T ⟨j,n⟩=>⟨j,n,trivial⟩
     grind
    ·split at h
     ·rename_i m V;obtain⟨hc,_,h⟩:=BV h;obtain⟨e,h⟩:=AE h;refine .set h J (Afy J (by simp) λη H O a X i d A f _=>?_) λ_ _=>trivial;obtain⟨B,f,U,K,ms,D,E,p,rfl,q⟩:=f;obtain rfl:=C2.eq (N:=N) (P:=P) D;have s:EV a x=Ac (.map (Ac B)):=congrArg Ac ((F d).trans f);have w:EV a y=Ac (K.val m):=congrArg Ac ((AU V (I d)).trans (E m).symm);have W:FN M H z (a.eval u):=DH (t:=M) hz (G d);refine⟨_,⟨B,f,U,K,_,D,E,p,rfl,q.put (k:=m) W⟩,?_⟩;rcases c with c|c<;>rw[c];· exact(Aht L s w rfl (p m hc) (by rw[q.len];exact e) A).mono λv Q T ⟨j,n⟩=>⟨j,n,trivial⟩
      ·exact(Ahr L s w rf (p m hc) (by rw[q.len];exact e) A).mono λv Q T ⟨j,n⟩=>⟨j,n,trivial⟩
     ·cases h
    ·split at h
     ·rename_i m V;obtain⟨⟨hc,e⟩,h⟩:=AE h;refine .set h J (Afy J (by simp) λη H O a X i d A f _=>?_) λ_ _=>trivial;obtain⟨B,f,U,K,ms,D,E,p,rfl,q⟩:=f;obtain rfl:=C2.eq (N:=N) (P:=P) D;have s:EV a x=Ac (.map (Ac B)):=congrArg Ac ((F d).trans f);have w:EV a y=Ac (K.val m):=congrArg Ac ((mw (DH (t:=fJ) V (I d))).trans (E m).symm);have W:FN M H z (a.eval u):=DH (t:=M) hz (G d);refine⟨_,⟨B,f,U,K,_,D,E,p,rfl,q.put (κ:=Int×Int) (k:=fK m) W⟩,?_⟩;rcases c with c|c<;>rw[c];· exact(Aht L s w rfl (p m hc) (by rw[q.len];exact e) A).mono λv Q T ⟨j,n⟩=>⟨j,n,trivial⟩
      ·exact(Ahr L s w rf (p m hc) (by rw[q.len];exact e) A).mono λv Q T ⟨j,n⟩=>⟨j,n,trivial⟩
     ·cases h
    grind
   grind
  grind
 grind
def pL(P:GG)(S:Nat->SV N.T)(Rr:Nat->Option (SR N.T))(nk:Nat)(x:El)(t:Gj)(k:Bw N.T->Nat->Option R):Option R:=match Ax S x with
 | .mp b=>match Rr b,P.underlying t with
  |some (.map g c _ l),Ac (.map a _)=>match Hc g a,c,l with
   |true, .str,l=>k ⟨.d (.int .i64) ((l.length:Nat):Int),[b],[]⟩ nk
   |true, .int .i64,l=>k ⟨.d (.int .i64) ((l.length:Nat):Int),[b],[]⟩ nk
   |_,_,_=>C5
  |_,_=>C5
 |_=>C5
theorem oM[C2 N P](s:o.op= .call {callee:= .builtin .len,args:= #[x],argTypes:= #[t]})(h:pL P S Rr nk x t k=Ac r):A1 P C S Rr nk o k r:=by
 have u:∀ {η:Nat->BZ} {H:Hp} {a:Act},(∀x∈o.op.operands,(Ax S x).is C η H (a.eval x))->(Ax S x).is C η H (a.eval x):=λd=>d x (by grind[ZQ,fT]);unfold pL at h;split at h
 ·rename_i b F;have j:∀ {η:Nat->BZ} {H:Hp} {a:Act},(∀x∈o.op.operands,(Ax S x).is C η H (a.eval x))->a.eval x=η b:=λ{η H a} d=>by
   have:(SV.mp b:SV N.T).is C η H (a.eval x):=by grind
   exact this.1
  split at h
  ·rename_i g L M l J I w z;split at h
   ·rename_i l c;have:=AI c;subst this;refine .y h (Abv λη H O a d v=>?_) λ_ _=>trivial;rcases v b (by simp) _ w with e|⟨X,i,m,B,n,A,K,G,p,D,E,rfl,q⟩;· grind
    obtain rfl:=C2.eq (N:=N) (P:=P) p;refine⟨_,by rw[s];exact Ajj z (congrArg Ac ((j d).trans n)) m,?_⟩;rw[q.len];exact D0 trivial
   ·rename_i l c;have:=AI c;subst this;refine .y h (Abv λη H O a d v=>?_) λ_ _=>trivial;rcases v b (by simp) _ w with e|⟨X,i,m,B,n,A,K,G,p,D,E,rfl,q⟩;· cases e
    obtain rfl:=C2.eq (N:=N) (P:=P) p;refine⟨_,by rw[s];exact Ajj z (congrArg Ac ((j d).trans n)) m,?_⟩;rw[q.len];exact D0 trivial
   grind
  grind
 grind
end
end
section
variable {N : C7} {R : Type} {P : GG} {C : List (SV N.T)} {S : Nat -> SV N.T} {Rr : Nat -> Option (SR N.T)} {nk : Nat} {o : KV} {k : Bw N.T -> Nat -> Option R} {r : R}
section
variable{t:Gj}{H:Hp}{len:Nat}{ps:List (Nat×El)}{x:El}
theorem Ajx{T:Gj}{E:El->Option BZ}{O:List GK.Aw}{e:Gj}{size bytes:Nat}{z:BZ}{cs:Array BZ}{vs:List (Nat×BZ)}(ht:P.underlying t=Ac (.slice e))(l:TI P e size bytes z)
  (j:len*size<=16777216) (h0:0<len*size) (h:YE E ps=Ac vs) (u:mU (λi=>Ac (i*size,size)) ((Array.range (len*size)).map (z.cells[· %z.cells.size]!)) vs=Ac cs):
  BM P (.buildSlice t len ps.toArray) T E H O (λv m n=>m=H/\∃B,v= .slice (Ac ⟨B,0,C5⟩) len len/\n= .Ai B (.cells cs e (0,0))::O):= .Ao λa w o y _ s A=>by
 have p:(ps.toArray.map λ(i,x)=>(i,a.eval x)).toList=vs:=by simpa using Hz s h
 have c:¬len*size>2^24:=by omega
 have g:¬len*size=0:=by omega
 refine⟨.slice (Ac ⟨w.heap.size,0,C5⟩) len len,w.alloc (.cells cs e),H,_,?_,Hp.le.refl H,⟨rf,_,rf,rf⟩,A.push (r:= .Ai w.heap.size (.cells cs e (0,0))) (IG.grownBy_alloc w _ C5) (heap_alloc_new w _) (λb q=>by grind[Aw.has])⟩;simp only[Ki,y,Instr.buildSlice,mG,AX ht,iq,l.sizeOf,if_neg c,if_neg g,l.zeroValue,Sem.run_pure,p,u];rfl
def cf(S:Nat->SV N.T):Nat->List (Nat×El)->Option (SV N.T)
 |_,[]=>Ac .nl
 |i,(j,x)::b=>match Hc i j,Ax S x,cf S (i+1) b with
  |true, .AK f l a,Ac r=>Ac (.lf 1 (.AK f l a) r)
  |_,_,_=>C5
theorem Wh{η:Nat->BZ}{H:Hp}{a:Act} :∀ {ps:List (Nat×El)} {i:Nat} {l:SV N.T} {cs:List BZ},cf S i ps=Ac l->(∀p∈ps,(Ax S p.2).is C η H (a.eval p.2))->cs.length=i+ps.length->
  ∃xs,mU (λi=>Ac (i*1,1)) cs.toArray (ps.map λp=>(p.1,a.eval p.2))=Ac (cs.take i++xs).toArray/\l.is C η H (.agg xs.toArray)/\xs.length=ps.length
 | [],i,l,cs,h,_,hc=>by cases h;refine⟨[],?_,rfl,rfl⟩;grind[mU,wH,Nat.le_of_eq]
 |(j,x)::ps,i,l,cs,h,t,hc=>by
  unfold cf at h;split at h
  ·rename_i f G F r A E B;cases h;have e:=AI A;subst e;have q:=t (i,x) (by simp);rw[E]at q;have s:(a.eval x).oneCell'=Bp:=by obtain⟨I,e,_⟩:=q;rw[e];rfl
   have b:=A9 s;simp only[Abn]at hc;have n:(a.eval x).cells.size=1:=by grind[Array.length_toList]
   have D:(Cq cs (i*1) (a.eval x).cells.toList).length=i+1+ps.length:=by grind[Cq]
   obtain⟨xs,v,w,z⟩:=Wh B (λp m=>t p (by simp[m])) D;refine⟨a.eval x::xs,?_,⟨[a.eval x],xs,a.eval x,rfl,rfl,q,b,(λy u=>by simp at u;subst u;exact s),w⟩,by simp[z]⟩;rw[Aar,Ks (off:=i*1) (size:=1) rfl n (by simp;omega)];rw[v];unfold Cq;rw[b,Acz,Ach (by simp;omega),Abm (by simp;omega)];simp
  grind
def bcK(P:GG)(S:Nat->SV N.T)(nk:Nat)(t:Gj)(len:Nat)(ps:List (Nat×El))(k:Bw N.T->Nat->Option R):Option R:=match P.underlying t with
 |some (.slice e)=>match Pn P e 1,Hc ps.length len&&(az 0 len&&iK len 1000),cf S 0 ps with
  |true,Bp,Ac l=>match B3 l.AJ nk with
   |false=>k ⟨.px [nk] (.hc len),[],[(nk, .Ai e l)]⟩ (nk+1)
   |true=>C5
  |_,_,_=>C5
 |_=>C5
theorem vG(y:o.op= .buildSlice t len ps.toArray)(F:∀k∈CU C,k<nk)(G:∀j,nk<=j->Rr j=C5)(h:bcK P S nk t len ps k=Ac r):A1 P C S Rr nk o k r:=by
 have n:∀ {η:Nat->BZ} {H:Hp} {a:Act},(∀x∈o.op.operands,(Ax S x).is C η H (a.eval x))->∀p∈ps,(Ax S p.2).is C η H (a.eval p.2):=λs p K=>s p.2 (by grind[ZQ]);unfold bcK at h;split at h;case h_2=>grind
 rename_i e L;split at h;case h_2=>grind
 rename_i l E w I;split at h;case h_2=>cases h
 rename_i J;simp only[AT]at w;obtain⟨i,m,c⟩:=w;have A:=AI i;subst A;have c:=Aax c;obtain⟨bytes,z,q⟩:=Dl E;refine .new h (Afj (G nk (Aae _)) λη H O a s U=>?_) λ_ _=>trivial;have d:(((Array.range (ps.length*1)).map (z.cells[· %z.cells.size]!)).toList:List BZ).length=0+ps.length:=by simp
 obtain⟨V,u,D,T⟩:=Wh (C:=C) (η:=η) (H:=H) (a:=a) I (n s) d;rw[y];refine(Ajx L q (by omega) (by simpa using m) (JD ps) u).mono ?_;rintro v M Q ⟨rfl,B,rfl,rfl⟩;exact⟨rfl,_,ptr B 0,rfl,⟨B,_,AA _ _ _,rfl,br F J D⟩,(show ps.length<=9223372036854775807 by omega),B,by simp[AA],rfl⟩
def qj(P:GG)(S:Nat->SV N.T)(nk:Nat)(t:Gj)(x y:El)(k:Bw N.T->Nat->Option R):Option R:=match P.underlying t,intOf (Ax S y),Ax S x with
 |some (.slice e),Ac (_,j), .px [b] (.hc n)=>match Pn P e 1 with
  |true=>Af (0<=j/\j<(n:Int)) (k ⟨.loc b j.toNat,[],[]⟩ nk)
  |false=>C5
 |_,_,_=>C5
theorem oW{y:El}(g:o.op= .indexAddr t x y)(h:qj P S nk t x y k=Ac r):A1 P C S Rr nk o k r:=by
 have i:∀ {η:Nat->BZ} {H:Hp} {a:Act},(∀x∈o.op.operands,(Ax S x).is C η H (a.eval x))->(Ax S x).is C η H (a.eval x):=λc=>c x (by grind[ZQ]);have l:∀ {η:Nat->BZ} {H:Hp} {a:Act},(∀x∈o.op.operands,(Ax S x).is C η H (a.eval x))->(Ax S y).is C η H (a.eval y):=λc=>c y (by grind[ZQ]);unfold qj at h;split at h;case h_2=>cases h
 rename_i e D j b n A w z;split at h;case h_2=>cases h
 rename_i v;obtain⟨bytes,E,m⟩:=Dl v;obtain⟨⟨q,s⟩,h⟩:=AE h;refine .y h (Abv λη H O a c _=>?_) λ_ _=>trivial;obtain⟨_,B,d,p⟩:(SV.px [b] (.hc n):SV N.T).is C η H (a.eval x):=by rw[<-z];exact i c
 have d:η b=ptr B 0:=by simpa using d
 have u:=AU w (l c);refine⟨AL (a.eval x) (j.toNat*1),?_,B,d,?_⟩;· rw[g];exact Agl A m rfl (.inr ⟨_,_,p,Aae _⟩) (congrArg Ac u) ⟨q,s⟩
 ·rw[p,Acz];show AL (.slice (Ac ⟨B,0,C5⟩) n n) j.toNat= .pointer (Ac ⟨B,j.toNat,C5⟩);simp only[AL,w8,Abl];split;· rename_i h;rw[h]
  ·rfl
def pM(P:GG)(S:Nat->SV N.T)(nk:Nat)(x:El)(t:Gj)(k:Bw N.T->Nat->Option R):Option R:=match P.underlying t,Ax S x with
 |some (.slice _), .px [_] (.hc n)=>k ⟨.na n,[],[]⟩ nk
 |_,_=>C5
theorem oN(g:o.op= .call {callee:= .builtin .len,args:= #[x],argTypes:= #[t]})(h:pM P S nk x t k=Ac r):A1 P C S Rr nk o k r:=by
 have d:∀ {η:Nat->BZ} {H:Hp} {a:Act},(∀x∈o.op.operands,(Ax S x).is C η H (a.eval x))->(Ax S x).is C η H (a.eval x):=λf=>f x (by grind[ZQ,fT]);unfold pM at h;split at h;case h_2=>grind
 rename_i e b n p m;refine .y h (Abv λη H O a f _=>?_) λ_ _=>trivial;obtain⟨j,B,q,i⟩:(SV.px [b] (.hc n):SV N.T).is C η H (a.eval x):=by grind
 exact⟨_,by rw[g];exact Au.len p (congrArg Ac i) (.inr ⟨_,_,rf,Aae _⟩),rf,j⟩
end
end
section
variable {P : GG}
section
variable{e:Gj}{n bytes:Nat}{z:BZ}
theorem Fa{d:Nat}{e:Gj}(c:P.underlying e=Ac .bool)(h1:P.cellsOf e=1)(w:IG)(xs ys:List Bool):∀(is:List Nat),(∀i∈is,i<xs.length/\i<ys.length)->
  (Op.eqItems (d+1) e (P.cellsOf e) (xs.map BZ.bool).toArray (ys.map BZ.bool).toArray is).run P w= .ok (is.all λi=>xs[i]?==ys[i]?) w
 | [],_=>by rfl
 |i::is,h=>by
  have b:=h i (by simp);have k:=Fa (d:=d) c h1 w xs ys is (λj g=>h j (by grind));have l:(part e (xs.map BZ.bool).toArray (i*P.cellsOf e)).run P w= .ok (.bool xs[i]) w:=by simp[part,Ce c,DI,h1,b.1]
  have m:(part e (ys.map BZ.bool).toArray (i*P.cellsOf e)).run P w= .ok (.bool ys[i]) w:=by simp[part,Ce c,DI,h1,b.2]
  have n:(mP (d+1) e (.bool xs[i]) (.bool ys[i])).run P w= .ok (xs[i]==ys[i]) w:=by simp[mP,AX c]
  simp only[Op.eqItems,mG,l,m,n,iq];by_cases f:xs[i]=ys[i];all_goals simp_all
theorem TK{t:Gj}(ht:P.underlying t=Ac (.array n e))(f:P.underlying e=Ac .bool)(l:TI P e 1 bytes z)(w:IG)(xs ys:List Bool)(m:xs.length=n)(o:ys.length=n):
  (pX t (.agg (xs.map BZ.bool).toArray) (.agg (ys.map BZ.bool).toArray)).run P w= .ok (Di (xs=ys)) w:=by
 obtain⟨i,b,k,_⟩:=l.ex;have c:P.cellsOf e=1:=by grind[GG.cellsOf]
 have key:∀d,(mP (d+1+1) t (.agg (xs.map BZ.bool).toArray) (.agg (ys.map BZ.bool).toArray)).run P w= .ok (Di (xs=ys)) w:=λd=>by
  rw[run_equalIn_array w (d+1) _ _ ht b,Fa f c w xs ys _ (λi b=>by grind)];congr 1;rw[Aen];simp only[No,Abf,beq_iff_eq,decide_eq_true_iff];constructor
  ·intro h;apply Agd;intro j;by_cases g:j<n;· exact h j g
   ·rw[Aco (by omega),Aco (by omega)]
  grind
 grind[pX,Alw]
theorem Akq{T Tx Ty:Gj}{E:El->Option BZ}{H:Hp}{O:List Aw}{x y:El}{ne:Bool}{xs ys:List Bool}(i:P.eqGuardType P.depth Tx=Aj)(ht:P.underlying Tx=Ac (.array n e))(m:P.underlying e=Ac .bool)(p:TI P e 1 bytes z)(k:E x=Ac (.agg (xs.map BZ.bool).toArray))(l:E y=Ac (.agg (ys.map BZ.bool).toArray))(h1:xs.length=n)(h2:ys.length=n):
  Au P (.binOp (match ne with|true=> .neq|false=> .eql) Tx x y Ty) T E H O (.bool (match ne with|true=> !decide (xs=ys)|false=>Di (xs=ys))):= .Ao λa w o j _ c _=>by
 have h:=TK ht m p w xs ys h1 h2;cases ne with
 |false=>
  have f:=run_eqGuard_agg w .eql Tx x y (xs.map BZ.bool).toArray (ys.map BZ.bool).toArray i;simp_all[binOp,bool,decide,pure,pX,Ki]
 |true=>
  have f:=run_eqGuard_agg w .neq Tx x y (xs.map BZ.bool).toArray (ys.map BZ.bool).toArray i;simp_all[binOp,bool,decide,pure,pX,Ki]
end
end
section
variable {N : C7} {R : Type} {P : GG} {C : List (SV N.T)} {S : Nat -> SV N.T} {Rr : Nat -> Option (SR N.T)} {nk : Nat} {o : KV} {k : Bw N.T -> Nat -> Option R} {r : R}
section
variable{t:Gj}{x y:El}
def KB:Ty->Option Nat
 | .bool=>Ac 1
 | .st t=>KB t
 | .pr a b=>match KB a,KB b with
  |some x,Ac y=>Ac (x+y)
  |_,_=>C5
 |_=>C5
def FF:(t:Ty)->t.den N.T->List Bool
 | .bool,x=>[x]
 | .st t,x=>FF t x
 | .pr a b,x=>FF a x.1++FF b x.2
 |_,_=>[]
theorem E4{H:Hp} :∀ {t:Ty} {x:t.den N.T} {n:Nat} {cs:List BZ},KB t=Ac n->(N.c t).BP H x cs->cs=(FF t x).map BZ.bool/\(FF t x).length=n
 | .bool,x,_,cs,h,d=>by cases h;trivial
 | .st t,x,_,cs,h,d=>E4 (t:=t) h d
 | .pr a b,x,_,cs,h,d=>by
  unfold KB at h;split at h;· rename_i p q s u;obtain⟨v,w,rfl,l,m⟩:=d;obtain⟨f,g⟩:=E4 s l;obtain⟨i,j⟩:=E4 u m;grind[FF]
  grind
def iO(P:GG)(t:Gj):Bool:=match P.underlying t with
 |some (.array _ e)=>match P.underlying e with
  |some .bool=>Bp
  |_=>Aj
 |_=>Aj
def hH(P:GG)(C:List (SV N.T))(S:Nat->SV N.T)(nk:Nat)(ne:Bool)(t:Gj)(x y:El)(k:Bw N.T->Nat->Option R):Option R:=match P.underlying t,LW N P t with
 |some (.array n e),Ac (.st u)=>match P.underlying e,Pn P e 1,P.eqGuardType P.depth t with
  |some .bool,Bp,Aj=>match KB u,two C (.st u) (Ax S x) (Ax S y)with
   |some m,Ac (a,b)=>match Hc m n with
    |true=>k ⟨.d .bool (match ne with|true=> !decide (FF u a=FF u b)|false=>Di (FF u a=FF u b)),[],[]⟩ nk
    |false=>C5
   |_,_=>C5
  |_,_,_=>C5
 |_,_=>C5
theorem ZL{ne:Bool}{u:Gj}(i:o.op= .binOp (match ne with|true=> .neq|false=> .eql) t x y u)(h:hH P C S nk ne t x y k=Ac r):A1 P C S Rr nk o k r:=by
 have j:∀ {η:Nat->BZ} {H:Hp} {a:Act},(∀x∈o.op.operands,(Ax S x).is C η H (a.eval x))->(Ax S x).is C η H (a.eval x):=λd=>d x (by simp_all[ZQ]);have l:∀ {η:Nat->BZ} {H:Hp} {a:Act},(∀x∈o.op.operands,(Ax S x).is C η H (a.eval x))->(Ax S y).is C η H (a.eval y):=λd=>d y (by rw[i];simp[ZQ]);unfold hH at h;split at h;case h_2=>cases h
 rename_i n e s G T;split at h;case h_2=>cases h
 rename_i E I F;split at h;case h_2=>cases h
 rename_i m a b q B;split at h;case h_2=>cases h
 rename_i D;have v:=AI D;subst v;obtain⟨bytes,z,p⟩:=Dl I;refine .y h (Abv λη H O L d _=>?_) λ_ _=>trivial;obtain⟨⟨M,f,w⟩,Q,g,A⟩:=Pj B (j d) (l d);obtain⟨f,J⟩:=E4 (t:=s) q f;obtain⟨g,K⟩:=E4 (t:=s) q g;subst f;subst g;exact⟨_,by rw[i];exact Akq (ne:=ne) F G E p (congrArg Ac w) (congrArg Ac A) J K,CO⟩
def ia(c:Ty):Nat->(t:Ty)->t.den N.T->Option (List (c.den N.T))
 |n+2, .pr a b,x=>match Qe N.T a c,ia c (n+1) b x.2 with
  |some f,Ac l=>Ac (f x.1::l)
  |_,_=>C5
 |1,t,x=>(Qe N.T t c).map λf=>[f x]
 |_,_,_=>C5
theorem Sq{c:Ty}{H:Hp} :∀ {n:Nat} {t:Ty} {x:t.den N.T} {l:List (c.den N.T)} {cs:List BZ},ia c n t x=Ac l->(N.c t).BP H x cs->A2 (N.c c) H l cs/\l.length=n
 |n+2, .pr a b,x,l,cs,h,i=>by
  unfold ia at h;split at h;· rename_i f y g u;cases h;obtain⟨d,rfl⟩:=BA g;have e:=Adn d;subst e;obtain⟨m,p,rfl,q,s⟩:=i;obtain⟨v,w⟩:=Sq u s;exact⟨⟨m,p,rfl,q,v⟩,by grind⟩
  grind
 |1,t,x,l,cs,h,i=>by obtain⟨f,g,rfl⟩:=Pd.1 h;obtain⟨d,rfl⟩:=BA g;have e:=Adn d;subst e;exact⟨⟨cs,[],by simp,i,rfl⟩,rfl⟩
def rE(P:GG)(S:Nat->SV N.T)(nk:Nat)(t:Gj)(x y:El)(k:Bw N.T->Nat->Option R):Option R:=match P.underlying t,intOf (Ax S y),Ax S x with
 |some (.array n e),Ac (_,j), .d (.st u) z=>match P.underlying e,LW N P e with
  |some d,Ac a=>match a.agg&&DI d&&Pn P e (a.sz N),ia a n u z with
   |true,Ac l=>Af (0<=j/\j<(n:Int)) (Ab (idx l j) λz=>k ⟨.d a z,[],[]⟩ nk)
   |_,_=>C5
  |_,_=>C5
 |_,_,_=>C5
theorem PU{c:Ty}{H:Hp} :∀ {l:List (c.den N.T)} {cs:List BZ} {i:Nat} {z:c.den N.T},A2 (N.c c) H l cs->l[i]?=Ac z->(N.c c).BP H z ((cs.drop (i*c.sz N)).take (c.sz N))
 | [],_,_,_,_,h=>by grind
 |a::l,_,0,z,⟨j,m,e,b,d⟩,h=>by cases h;subst e;rw[Aei,Afg,Ach (by grind[Bf]),Abm (by grind[Bf])];omega
 |a::l,_,i+1,z,⟨j,m,e,b,d⟩,h=>by have:=PU (i:=i) d (by trivial);grind[Nat.succ_mul,Nat.add_comm,Bf,wO,List.drop_left]
theorem o_(g:o.op= .index t x y)(h:rE P S nk t x y k=Ac r):A1 P C S Rr nk o k r:=by
 have i:∀ {η:Nat->BZ} {H:Hp} {a:Act},(∀x∈o.op.operands,(Ax S x).is C η H (a.eval x))->(Ax S x).is C η H (a.eval x):=λb=>b x (by rw[g];simp[ZQ]);have m:∀ {η:Nat->BZ} {H:Hp} {a:Act},(∀x∈o.op.operands,(Ax S x).is C η H (a.eval x))->(Ax S y).is C η H (a.eval y):=λb=>b y (by rw[g];simp[ZQ]);unfold rE at h;split at h;case h_2=>cases h
 rename_i n e W j u U M K L;split at h;case h_2=>cases h
 rename_i d B I Q;split at h;case h_2=>cases h
 rename_i l w J;simp only[AT]at w;obtain⟨⟨D,E⟩,F⟩:=w;obtain⟨bytes,X,p⟩:=Dl F;obtain⟨hc,h⟩:=AE h;obtain⟨z,q,h⟩:=Bh h;refine .y h (Abv λη H O a b _=>?_) λ_ _=>trivial;obtain⟨v,G,f⟩:(SV.d (.st u) U:SV N.T).is C η H (a.eval x):=by rw[<-L];exact i b
 have f:a.eval x= .agg v.toArray:=f;obtain⟨T,V⟩:=Sq J G;have s:l[j.toNat]?=Ac z:=by unfold idx at q;rw[if_pos hc.1]at q;exact q
 refine⟨_,by rw[g];exact Au.ql M I E p (congrArg Ac f) (congrArg Ac (AU K (m b))) hc,(v.drop (j.toNat*B.sz N)).take (B.sz N),PU T s,?_⟩;simp_all[CJ]
end
end
section
variable {N : C7} {R : Type} {P : GG} {C : List (SV N.T)} {S : Nat -> SV N.T} {Rr : Nat -> Option (SR N.T)} {nk : Nat} {o : KV} {k : Bw N.T -> Nat -> Option R} {r : R}
section
variable{x:El}{t T:Gj}{E:El->Option BZ}{H:Hp}{O:List Aw}{y z:El}
theorem eW(s:Aq)(i j:Nat):(⟨⟨s⟩⟩:ByteArray).extract i j=⟨⟨(s.drop i).take (j-i)⟩⟩:=by apply ByteArray.ext;simp
theorem Akz{s:Aq}{k d:Lc}{i j:Int}(ht:P.underlying t=Ac .string)(g:E x=Ac (sv s))(l:E y=Ac (.int k i))(m:E z=Ac (.int d j))(h0:0<=i)(h1:i<=j)(h2:j<=(s.length:Nat)):
  Au P (.slice t x (Ac y) (Ac z) C5) T E H O (sv ((s.drop i.toNat).take (j.toNat-i.toNat))):= .Ao λa w o f _ c _=>by
 have:=run_slice_string (P:=P) w t ⟨⟨s⟩⟩ k d i j ht h0 h1 h2;simp_all[sv,Ki,eW,run_sliceAt_string]
def om(P:GG)(S:Nat->SV N.T)(nk:Nat)(t:Gj)(x y z:El)(k:Bw N.T->Nat->Option R):Option R:=match P.underlying t,S3 (Ax S x),intOf (Ax S y),intOf (Ax S z)with
 |some .string,Ac s,Ac (_,i),Ac (_,j)=>Af ((0<=i/\i<=j)/\j<=((s.length:Nat):Int)) (k ⟨.d .str ((s.drop i.toNat).take (j.toNat-i.toNat)),[],[]⟩ nk)
 |_,_,_,_=>C5
theorem oC(c:o.op= .slice t x (Ac y) (Ac z) C5)(h:om P S nk t x y z k=Ac r):A1 P C S Rr nk o k r:=by
 have d:∀ {η:Nat->BZ} {H:Hp} {a:Act},(∀x∈o.op.operands,(Ax S x).is C η H (a.eval x))->(Ax S x).is C η H (a.eval x):=λb=>b x (by grind[ZQ]);have e:∀ {η:Nat->BZ} {H:Hp} {a:Act},(∀x∈o.op.operands,(Ax S x).is C η H (a.eval x))->(Ax S y).is C η H (a.eval y):=λb=>b y (by grind[ZQ]);have f:∀ {η:Nat->BZ} {H:Hp} {a:Act},(∀x∈o.op.operands,(Ax S x).is C η H (a.eval x))->(Ax S z).is C η H (a.eval z):=λb=>b z (by grind[ZQ]);unfold om at h;split at h;case h_2=>grind
 rename_i s w i A j v u p q;obtain⟨⟨⟨g,l⟩,m⟩,h⟩:=AE h;exact .y h (Abv λη H O a b _=>⟨_,by rw[c];exact Akz v (congrArg Ac (IP u (d b))) (congrArg Ac (AU p (e b))) (congrArg Ac (AU q (f b))) g l m,[_],rfl,rfl⟩) λ_ _=>trivial
theorem wz(n:Int):Ul .u64 (n %18446744073709551616):=by show(0:Int)<=_/\_<=(18446744073709551615:Int);omega
def cwK(P:GG)(S:Nat->SV N.T)(nk:Nat)(s d:Gj)(x:El)(k:Bw N.T->Nat->Option R):Option R:=match P.underlying s,P.underlying d,intOf (Ax S x)with
 |some (.int .i64),Ac (.int .u64),Ac (.i64,n)=>k ⟨.d (.int .u64) (n %18446744073709551616),[],[]⟩ nk
 |_,_,_=>C5
theorem vE{s d:Gj}(c:o.op= .convert s d x)(h:cwK P S nk s d x k=Ac r):A1 P C S Rr nk o k r:=by
 have b:∀ {η:Nat->BZ} {H:Hp} {a:Act},(∀x∈o.op.operands,(Ax S x).is C η H (a.eval x))->(Ax S x).is C η H (a.eval x):=λl=>l x (by grind[ZQ]);unfold cwK at h;split at h;case h_2=>grind
 rename_i n j f i;exact .y h (Abv λη H O a g _=>⟨_,by rw[c];exact Ajf j f (congrArg Ac (AU i (b g))),by exact D0 (wz n)⟩) λ_ _=>trivial
theorem Aio{Tx:Gj}{c:Lc}{n:Int}(f:E x=Ac (.int c n)):Au P (.unOp .neg Tx x) T E H O (.int c (c.wrap (-n))):= .Ao λa w o e _ d _=>by simp_all[Ki,Op.unary,Op.intArith]
def pz(S:Nat->SV N.T)(nk:Nat)(x:El)(k:Bw N.T->Nat->Option R):Option R:=match intOf (Ax S x)with
 |some (.u64,n)=>k ⟨.d (.int .u64) ((-n) %18446744073709551616),[],[]⟩ nk
 |_=>pA S nk x k
theorem oG(b:o.op= .unOp .neg t x)(h:pz S nk x k=Ac r):A1 P C S Rr nk o k r:=by
 have c:∀ {η:Nat->BZ} {H:Hp} {a:Act},(∀x∈o.op.operands,(Ax S x).is C η H (a.eval x))->(Ax S x).is C η H (a.eval x):=λe=>e x (by grind[ZQ]);unfold pz at h;split at h;· rename_i n d;exact .y h (Abv λη H O a g _=>⟨_,by rw[b];exact Aio (congrArg Ac (AU d (c g))),by exact D0 (wz _)⟩) λ_ _=>trivial
 grind[oH]
end
end
end Go.GV

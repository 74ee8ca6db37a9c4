/- Part 2 of the texts of this claim: what its theorem leans on. -/
import Derived.Test.YtkjngekgpgejnaaGreatDoorZLookupAgrees1
import Derived.Lib.AppendZerosOnto
import Derived.Laws.Runes
import Derived.ArgAppend
import Derived.Laws.IdiomStrings
import Derived.Laws.CopyRow
import Derived.RangeFuncRecord
set_option linter.all false
namespace Go.GV
open Go Go.GK
section
variable {N : Cw} {R : Type} {P : Program} {C : List (SV N.T)} {S : Nat -> SV N.T} {Rr : Nat -> Option (SR N.T)} {nk : Nat} {o : Oper} {k : A_ N.T -> Nat -> Option R} {r : R}
theorem Bl.jv{t:TypeId}{T:TypeId}{E:Operand->Option Value}{H:Hp}{O:List Ao}{size bytes:Nat}{z:Value}(hz:TI P t size bytes z):
  Bl P (.alloc t) T E H O (fun v H' O'=> ∃B,v=ptr B 0/\H'=H/\O'= .Af B (.cells z.cells t (0,0))::O):= .Aj fun a w o ho _ he hs=>by
 refine⟨_,_,H,_,?_,Hp.le.refl H,⟨w.heap.size,rf,rf,rf⟩,hs.alloc _⟩
 simp[execOp,ho,Instr.alloc,hz.zeroValue,newVar,newRow,ptr]
theorem Bl.u9{t:TypeId}{T:TypeId}{E:Operand->Option Value}{H:Hp}{O:List Ao}{x:Operand}{v:Value}(hx:E x=some v):
  Bl P (.box t x) T E H O (fun u H' O'=> ∃B,u=ptr B 0/\H'=H/\O'= .Af B (.cells v.cells t (0,0))::O):= .Aj fun a w o ho _ he hs=>by
 refine⟨_,_,H,_,?_,Hp.le.refl H,⟨w.heap.size,rf,rf,rf⟩,hs.alloc _⟩
 simp[execOp,ho,he x v hx,Instr.box,newVar,newRow,ptr]
def OV(C:List (SV N.T))(t:Ty)(s:SV N.T):Option (t.den N.T):=match s with
 | .lf z a l=>match t.agg,HD N C 64 t (.lf z a l)with
  |true,some (x, .nl)=>some x
  |_,_=>none
 |s=>V6 N t s
theorem CC{t:Ty}{s:SV N.T}{x:t.den N.T}{η:Nat->Value}{H:Hp}{v:Value}(h:OV C t s=some x)(hs:s.is C η H v):(SV.d t x).is C η H v:=by
 unfold OV at h
 split at h
 ·split at h
  ·rename_i ha hx
   cases h
   have h0:=hs
   obtain⟨c1,c2,u,rfl,_⟩:=h0
   obtain⟨d1,d2,e,h1,h2⟩:=Dl (η:=η) (H:=H) (cs:=c1++c2) hx hs
   have h2:Value.agg d2.toArray= .agg #[]:=h2
   have h2:d2=[]:=by simpa using h2
   subst h2
   rw[List.append_nil]at e;rw[e]
   refine⟨d1,h1,?_⟩
   unfold BS;rw[ha]
  ·cases h
 ·exact GY h hs
variable (N) in
def W8(P:Program):Nat->List TypeId->List Value->Option (SV N.T)
 |0,_,_=>none
 |_+1,[],cs=>match cs with
  | []=>some .nl
  |_=>none
 |fu+1,t::ts,cs=>match flatO (Jc N P t)with
  |some ty=>match parse N 16 ty cs with
   |some (x,r)=>(W8 P fu ts r).map (.lf (ty.sz N) (.d ty x))
   |none=>none
  |none=>match P.underlying t with
   |some (.struct fs)=>W8 P fu (fs.toList.map (·.type)++ts) cs
   |some (.array _ _)=>match Jc N P t with
    |some ty=>match parse N 16 ty cs with
     |some (x,r)=>(W8 P fu ts r).map (.lf (ty.sz N) (.d ty x))
     |none=>none
    |none=>none
   |_=>match cs with
    |v::r=>match v.oneCell' with
     |true=>(W8 P fu ts r).map (.lf 1 (.raw v))
     |false=>none
    | []=>none
 where
 flatO:Option Ty->Option Ty
  |some t=>match DV t with
   |true=>some t
   |false=>none
  |none=>none
theorem HJ{η:Nat->Value}{H:Hp} :∀ {fu:Nat} {ts:List TypeId} {cs:List Value} {l:SV N.T},W8 N P fu ts cs=some l->l.is C η H (.agg cs.toArray)
 |0,_,_,_,h=>by cases h
 |_+1,[],cs,l,h=>by
  cases cs with
  |nil=>cases h;exact Ls
  |cons v r=>cases h
 |fu+1,t::ts,cs,l,h=>by
  have Ae:∀(ty:Ty),(match parse N 16 ty cs with
   |some (x,r)=>(W8 N P fu ts r).map (.lf (ty.sz N) (.d ty x))
   |none=>none)=some l->l.is C η H (.agg cs.toArray):=fun ty h=>by
   split at h
   ·rename_i x r hp
    obtain⟨l',h1,rfl⟩:=Option.map_eq_some_iff.1 h
    obtain⟨p,rfl,hl⟩:=B_ (H:=H) hp
    exact Py hl (HJ h1)
   ·cases h
  unfold W8 at h
  split at h
  ·exact Ae _ h
  ·split at h
   ·exact HJ h
   ·split at h
    ·exact Ae _ h
    ·cases h
   ·split at h
    ·rename_i v r
     split at h
     ·rename_i ho
      obtain⟨l',h1,rfl⟩:=Option.map_eq_some_iff.1 h
      have:=IG (N:=N) (s:=1) (a:= .raw v) (η:=η) (H:=H) rfl (by rw[AU ho];rfl) (by rw[AU ho];intro x hx;simp at hx;subst hx;exact ho) (HJ h1)
      rw[AU ho]at this
      exact this
     ·cases h
    ·cases h
def PZ(P:Program)(nk:Nat)(t:TypeId)(k:A_ N.T->Nat->Option R):Option R:=match P.info? t with
 |some inf=>match inf.zero with
  |some z=>match W8 N P 64 [t] z.cells.toList with
   |some l=>k ⟨.loc nk 0,[],[(nk, .Af t l)]⟩ (nk+1)
   |none=>none
  |none=>none
 |none=>none
theorem Uz{t:TypeId}(ho:o.op= .alloc t)(hf:∀j,nk<=j->Rr j=none)(h:PZ P nk t k=some r):AL P C S Rr nk o k r:=by
 unfold PZ at h
 split at h
 ·rename_i inf hi
  split at h
  ·rename_i z hz
   split at h
   ·rename_i l hl
    refine .new h (Al.E7 (hf nk (Nat.le_refl _)) fun η H O a hx _=>?_) fun _ _=>trivial
    rw[ho]
    refine(Bl.jv (size:=inf.size) (bytes:=inf.bytes) ⟨inf,hi,rf,rf,hz⟩).mono ?_
    rintro v H' O' ⟨B,rfl,rfl,rfl⟩
    refine⟨rf,_,ptr B 0,rf,⟨B,z.cells,Ar _ _ _,rf,by have:=HJ (C:=C) (η:=DF η nk (ptr B 0)) (H:=H') hl;simpa using this⟩,⟨B,Ar _ _ _,rf⟩⟩
   ·cases h
  ·cases h
 ·cases h
def nS(P:Program)(t:TypeId)(s:SV N.T):SV N.T:=match Mo s with
 |true=>s
 |false=>match Jc N P t with
  |some ty=>match V6 N ty s with
   |some y=> .d ty y
   |none=>s
  |none=>s
theorem Ps{t:TypeId}{s:SV N.T}{η:Nat->Value}{H:Hp}{v:Value}(h:s.is C η H v):(nS P t s).is C η H v:=by
 unfold nS
 split
 ·exact h
 ·split
  ·split
   ·rename_i hy;exact GY hy h
   ·exact h
  ·exact h
theorem Vz{s:SV N.T}{η:Nat->Value}{H:Hp}{v:Value}{b:Value}(hC:∀k∈Co C,k<nk)(hf:Bw s.Ay nk=false)(h:s.is C η H v):s.is C (DF η nk b) H v:=
 h.env (fun k hk=>E4 (by have:=hC k hk;omega)) fun k hk=>E4 fun e=>by subst e;rw[AB.2 hk]at hf;cases hf
def jc(P:Program)(S:Nat->SV N.T)(nk:Nat)(t:TypeId)(x:Operand)(k:A_ N.T->Nat->Option R):Option R:=match tU N (nS P t (Ap S x))with
 |some l=>match Bw l.Ay nk with
  |false=>k ⟨.loc nk 0,[],[(nk, .Af t l)]⟩ (nk+1)
  |true=>none
 |none=>none
theorem fI{t:TypeId}{x:Operand}(ho:o.op= .box t x)(hC:∀k∈Co C,k<nk)(hf:∀j,nk<=j->Rr j=none)(h:jc P S nk t x k=some r):AL P C S Rr nk o k r:=by
 unfold jc at h
 split at h
 ·rename_i l hl
  split at h
  ·rename_i hm
   refine .new h (Al.E7 (hf nk (Nat.le_refl _)) fun η H O a hx _=>?_) fun _ _=>trivial
   have hv:=hx x (by rw[ho];simp[Op.operands])
   rw[ho]
   refine(Bl.u9 (v:=a.eval x) rf).mono ?_
   rintro v H' O' ⟨B,rfl,rfl,rfl⟩
   exact⟨rf,_,ptr B 0,rf,⟨B,_,Ar _ _ _,rf,Vz hC hm (dX hl (Ps hv))⟩,⟨B,Ar _ _ _,rf⟩⟩
  ·cases h
 ·cases h
def U0:SV N.T->Option (SV N.T×Nat)
 | .d t x=>some (.d t x,t.sz N)
 | .ct _ n| .cb _ n=>some (.na n,1)
 | .lt _ n m=>some (.d .bool (decide ((n:Int)<(m:Int))),1)
 |s=>match Mo s with
  |true=>some (s,1)
  |false=>none
theorem UZ{s s':SV N.T}{n:Nat}{η:Nat->Value}{H:Hp}{v:Value}(h:U0 s=some (s',n))(hs:s.is C η H v):s'.is C η H v/\v.cells.toList.length=n/\∀x∈v.cells.toList,x.oneCell'=true:=by
 have one:v.oneCell'=true->v.cells.toList.length=1/\∀x∈v.cells.toList,x.oneCell'=true:=fun ho=>by
  rw[AU ho];exact⟨rfl,fun x hx=>by simp at hx;subst hx;exact ho⟩
 unfold U0 at h
 split at h
 ·cases h
  obtain⟨h1,h2⟩:=Ct hs
  exact⟨hs,AX h1,h2⟩
 ·cases h;exact⟨hs,one (by rw[hs.1];rfl)⟩
 ·cases h;exact⟨⟨hs.1,Nat.le_of_lt hs.2⟩,one (by rw[hs.1];rfl)⟩
 ·cases h;exact⟨⟨[_],rfl,by rw[hs.1];rfl⟩,one (by rw[hs.1];rfl)⟩
 ·split at h
  ·rename_i hb;cases h;exact⟨hs,one (J8 hb hs)⟩
  ·cases h
theorem Xg(cs:List Value)(off:Nat)(c1 c2:List Value)(h:off+(c1.length+c2.length)<=cs.length):BZ (BZ cs off c1) (off+c1.length) c2=BZ cs off (c1++c2):=by
 have e:(cs.take off++c1).length=off+c1.length:=by simp;omega
 unfold BZ
 rw[List.take_append_of_le_length (by rw[e];exact Nat.le_refl _),List.take_of_length_le (by rw[e];exact Nat.le_refl _),List.drop_append,List.drop_of_length_le (by rw[e];omega),List.nil_append,List.drop_drop,e]
 rw[show off+c1.length+(off+c1.length+c2.length-(off+c1.length))=off+(c1++c2).length by simp;omega]
 simp
def Xe(C:List (SV N.T)):SV N.T->SV N.T->Nat->Option (SV N.T×Nat)
 | .lf s a r,l,off=>match WZ N C 64 l off s a with
  |some l'=>(Xe C r l' (off+s)).map fun p=>(p.1,s+p.2)
  |none=>none
 | .nl,l,_=>some (l,0)
 |_,_,_=>none
theorem Xd{η:Nat->Value}{H:Hp} :∀ {b l l':SV N.T} {off n:Nat} {cs vs:List Value},Xe C b l off=some (l',n)->off<=cs.length->b.is C η H (.agg vs.toArray)->l.is C η H (.agg cs.toArray)->
  l'.is C η H (.agg (BZ cs off vs).toArray)/\off+n<=cs.length/\vs.length=n/\∀x∈vs,x.oneCell'=true:=by
 intro b
 induction b with
 |lf s a r _ ih=>
  intro l l' off n cs vs h ho hb hl
  unfold Xe at h
  split at h
  ·rename_i l1 h1
   obtain⟨⟨l2,m⟩,h2,e⟩:=Option.map_eq_some_iff.1 h
   cases e
   obtain⟨c1,c2,u,rfl,g1,g2,g3,g4,g5⟩:=En hb
   rw[<-g1,<-g3]at h1
   obtain⟨q1,q2⟩:=GH g2 (by rw[g3];exact g4) h1 hl
   rw[g3]at q1 q2
   have hlen:(BZ cs off c1).length=cs.length:=by unfold BZ;simp;omega
   obtain⟨k1,k2,k3,k4⟩:=ih (cs:=BZ cs off c1) (vs:=c2) h2 (by rw[hlen];omega) g5 q1
   rw[hlen]at k2
   rw[<-g1,Xg _ _ _ _ (by omega)]at k1
   refine⟨k1,by omega,by simp;omega,fun x hx=>?_⟩
   rcases List.mem_append.1 hx with hx|hx
   ·exact g4 x hx
   ·exact k4 x hx
  ·cases h
 |nl=>
  intro l l' off n cs vs h ho hb hl
  cases h
  have hb:Value.agg vs.toArray= .agg #[]:=hb
  have hb:vs=[]:=by simpa using hb
  subst hb
  refine⟨?_,by simpa using ho,rfl,fun x hx=>(by cases hx)⟩
  unfold BZ
  simpa using hl
 |_=>intro l l' off n cs vs h;cases h
def Xw(C:List (SV N.T))(l:SV N.T)(off:Nat)(b:SV N.T):Option (SV N.T×Nat):=match b with
 | .lf s a r=>Xe C (.lf s a r) l off
 |b=>match U0 b with
  |some (s,n)=>(WZ N C 64 l off n s).map fun l=>(l,n)
  |none=>none
theorem Qz{η:Nat->Value}{H:Hp}{b l l':SV N.T}{off n:Nat}{cs:List Value}{v:Value}(h:Xw C l off b=some (l',n))(ho:off<=cs.length)(hb:b.is C η H v)(hl:l.is C η H (.agg cs.toArray)):
  l'.is C η H (.agg (BZ cs off v.cells.toList).toArray)/\off+n<=cs.length/\v.cells.toList.length=n/\∀x∈v.cells.toList,x.oneCell'=true:=by
 unfold Xw at h
 split at h
 ·have h0:=hb
  obtain⟨c1,c2,u,rfl,_⟩:=h0
  have:=Xd (vs:=c1++c2) h ho hb hl
  simpa [Value.cells]using this
 ·split at h
  ·rename_i s m hs
   obtain⟨l1,h1,e⟩:=Option.map_eq_some_iff.1 h
   cases e
   obtain⟨k1,k2,k3⟩:=UZ hs hb
   subst k2
   obtain⟨q1,q2⟩:=GH k1 k3 h1 hl
   exact⟨q1,q2,rf,k3⟩
  ·cases h
def N1:SV N.T->Nat
 | .lf s _ l=>s+N1 l
 |_=>0
theorem N0{η:Nat->Value}{H:Hp} :∀ {l:SV N.T} {cs:List Value},l.is C η H (.agg cs.toArray)->N1 l<=cs.length:=by
 intro l
 induction l with
 |lf s a r _ ih=>
  intro cs h
  obtain⟨c1,c2,u,rfl,g1,_,_,_,g5⟩:=En h
  have:=ih g5
  simp only[N1,List.length_append];omega
 |_=>intro cs h;exact Nat.zero_le _
def rS(P:Program)(C:List (SV N.T))(S:Nat->SV N.T)(Rr:Nat->Option (SR N.T))(nk:Nat)(t:TypeId)(x y:Operand)(k:A_ N.T->Nat->Option R):Option R:=match Ap S x with
 | .loc b off=>match Rr b with
  |some (.Af g l)=>match Nat.ble off (N1 l),Xw C l off (nS P t (Ap S y))with
   |true,some (l',n)=>match OU P t n with
    |true=>k ⟨.no,[],[(b, .Af g l')]⟩ nk
    |false=>none
   |_,_=>none
  |_=>none
 | .Di b i off te z=>match Rr b,Jc N P t with
  |some (.row g te' l),some ty=>match OV C ty (Ap S y)with
   |some u=>match setAt N 16 te z off ty u,LP N.T te te',Nat.blt 0 (ty.sz N)with
    |some z',some f,true=>k ⟨.no,[],[(b, .row g te' (l.set i.toNat (f z')))]⟩ nk
    |_,_,_=>none
   |none=>none
  |_,_=>none
 |_=>none
theorem dc{t:TypeId}{x y:Operand}(ho:o.op= .store t x y)(hW:∃τ,KP Rr S τ)(h:rS P C S Rr nk t x y k=some r):AL P C S Rr nk o k r:=by
 have hox:∀ {η:Nat->Value} {H:Hp} {a:Act},(∀x∈o.op.operands,(Ap S x).is C η H (a.eval x))->(Ap S x).is C η H (a.eval x):=fun hx=>hx x (by rw[ho];simp[Op.operands])
 have hoy:∀ {η:Nat->Value} {H:Hp} {a:Act},(∀x∈o.op.operands,(Ap S x).is C η H (a.eval x))->(Ap S y).is C η H (a.eval y):=fun hx=>hx y (by rw[ho];simp[Op.operands])
 unfold rS at h
 split at h
 ·rename_i b off hs
  split at h
  ·rename_i g l hb
   split at h
   ·rename_i l' n hle hput
    split at h
    ·rename_i hsz
     obtain⟨bytes,zv,hti⟩:=Du hsz
     refine .set h hb (Al.J9 hb (by simp) fun η H O a X i hx h1 h2 _=>?_) fun _ _=>trivial
     obtain⟨B,e1,e2⟩:(SV.loc b off:SV N.T).is C η H (a.eval x):=by rw[<-hs];exact hox hx
     obtain⟨B',cs,e3,e4,h2⟩:=h2
     rw[e1]at e3
     have e3:B=B':=by simpa [ptr]using e3
     subst e3;subst e4
     have hle2:=Nat.le_trans (Nat.le_of_ble_eq_true hle) (N0 (cs:=cs.toList) h2)
     obtain⟨q1,q2,q3,q4⟩:=Qz (cs:=cs.toList) hput hle2 (Ps (hoy hx)) h2
     subst q3
     rw[ho]
     refine⟨_,⟨B,_,e1,rf,q1⟩,(Bl.Nz (congrArg some e2) rf rf hti rf q4 h1 (by simpa using q2)).mono ?_⟩
     rintro v H' O' ⟨rfl,rfl⟩
     exact⟨rf,rf,trivial⟩
    ·cases h
   ·cases h
  ·cases h
 ·rename_i b i off te z hs
  split at h
  ·rename_i g te' l ty hb ht
   split at h
   ·rename_i u hu
    split at h
    ·rename_i z' f hz hf h0
     obtain⟨τ,hτ⟩:=hW
     have hw:CD τ Rr (Ap S x):=JE hτ
     rw[hs]at hw
     obtain⟨he,hi⟩:=hw g te' l hb
     obtain⟨y',hy',rfl⟩:=Option.map_eq_some_iff.1 hi
     have ee:=Ty.Bc he
     subst ee
     obtain⟨he2,rfl⟩:=Bg hf
     obtain⟨d,hd,hag,bytes,zv,hti⟩:=GG ht
     refine .set h hb (Al.J9 hb (by simp) fun η H O a X j hx h1 h2 _=>?_) fun _ _=>trivial
     obtain⟨e1,ad,n',c',e2⟩:(SV.Di b i off te' _:SV N.T).is C η H (a.eval x):=by rw[<-hs];exact hox hx
     obtain⟨xs,e3,hL⟩:=h2
     subst e3
     obtain⟨k1,k2⟩:=Ct (CC hu (hoy hx))
     have hlen:=AX k1
     obtain⟨⟨hi0,ME⟩,hget⟩:=FB hy'
     obtain⟨cs,g1,g2,g3⟩:=hL.get hget
     obtain⟨q1,q2⟩:=DL hz g1 k1
     have hcl:=AX g1
     rw[A5]at g3
     have hLl:=hL.len
     rw[A5]at hLl
     have hb2:i.toNat*te'.sz N+te'.sz N<=l.length*te'.sz N:=by rw[<-Nat.succ_mul];exact Nat.mul_le_mul_right _ (by omega)
     rw[ho]
     have hp:=hL.part (off:=off) hget (by rw[A5];exact g3) (by rw[A5];exact hcl) (by rw[A5];omega) q1
     rw[A5]at hp
     refine⟨.row (η b) g (te'.sz N) l.length (BZ xs (i.toNat*te'.sz N+off) (a.eval y).cells.toList),⟨_,by rw[List.length_set],hp⟩,(Bl.ns (congrArg some e1) rf rf hti hlen (by simpa using h0) k2 h1 (by omega)).mono ?_⟩
     rintro v H' O' ⟨rfl,rfl⟩
     exact⟨rf,rf,trivial⟩
    ·cases h
   ·cases h
  ·cases h
 ·cases h
end
end Go.GV
namespace Go.GV
open Go Go.GK
section
variable {N : Cw} {R : Type} {P : Program} {C : List (SV N.T)} {S : Nat -> SV N.T} {Rr : Nat -> Option (SR N.T)} {nk : Nat} {o : Oper} {k : A_ N.T -> Nat -> Option R} {r : R}
theorem Am.oC{T:TypeId}{E:Operand->Option Value}{H:Hp}{O:List Ao}{x:Operand}{s i off ft:Nat}{ad:Addr}(hf:Zk P s i off ft)(hx:E x=some (.pointer (some ad))):Am P (.fieldAddr s x i) T E H O (.pointer (some (ad.add off))):= .Aj fun ac w oo ho _ he _=>by
 have:=Iy (w:=w) (a:=ad) hf
 simp[execOp,ho,he x _ hx,this]
def h_(P:Program)(C:List (SV N.T))(S:Nat->SV N.T)(nk:Nat)(t:TypeId)(x:Operand)(i:Nat)(k:A_ N.T->Nat->Option R):Option R:=match Yu P t i with
 |some (off,_,m)=>match Nat.blt 0 m with
  |true=>match Ap S x with
   | .loc b q=>k ⟨.loc b (q+off),[],[]⟩ nk
   | .pd t y q=>k ⟨.pd t y (q+off),[],[]⟩ nk
   | .Di b j q te z=>k ⟨.Di b j (q+off) te z,[],[]⟩ nk
   |_=>none
  |false=>none
 |none=>none
theorem fB{t:TypeId}{x:Operand}{i:Nat}(ho:o.op= .fieldAddr t x i)(h:h_ P C S nk t x i k=some r):AL P C S Rr nk o k r:=by
 have hox:∀ {η:Nat->Value} {H:Hp} {a:Act},(∀x∈o.op.operands,(Ap S x).is C η H (a.eval x))->(Ap S x).is C η H (a.eval x):=fun hx=>hx x (by rw[ho];simp[Op.operands])
 unfold h_ at h
 split at h
 ·rename_i off ft m hf
  split at h
  ·rename_i hm
   obtain⟨m',rfl⟩:∃m',m=m'+1:=⟨m-1,by simp at hm;omega⟩
   have hF:=Zk.of hf
   split at h
   ·rename_i b q hs
    refine .y h (Al.Cy fun η H O a hx _=>?_) fun _ _=>trivial
    obtain⟨B,e1,e2⟩:(SV.loc b q:SV N.T).is C η H (a.eval x):=by rw[<-hs];exact hox hx
    refine⟨ptr B (q+off),?_,B,e1,rf⟩
    rw[ho];exact Am.oD hF (congrArg some e2) rfl
   ·rename_i t' y q hs
    refine .y h (Al.Cy fun η H O a hx _=>?_) fun _ _=>trivial
    obtain⟨ad,n,cs,e1,h1,h2⟩:(SV.pd t' y q:SV N.T).is C η H (a.eval x):=by rw[<-hs];exact hox hx
    refine⟨.pointer (some ((ad.add (n+q)).add off)),?_,ad,n,cs,?_,h1,h2⟩
    ·rw[ho];exact Am.oC hF (congrArg some e1)
    ·rw[Cv,Nat.add_assoc]
   ·rename_i b j q te z hs
    refine .y h (Al.Cy fun η H O a hx _=>?_) fun τ hτ=>?_
    ·obtain⟨e1,ad,n,c,e2⟩:(SV.Di b j q te z:SV N.T).is C η H (a.eval x):=by rw[<-hs];exact hox hx
     rw[e2]at e1
     refine⟨.pointer (some ((ad.add (j.toNat*te.sz N+q)).add off)),?_,?_,ad,n,c,e2⟩
     ·rw[ho];exact Am.oC hF (congrArg some e1)
     ·rw[e2,Cv,Nat.add_assoc];rfl
    ·have:=JE (x:=x) hτ
     rw[hs]at this;exact this
   ·cases h
  ·cases h
 ·cases h
def se(P:Program)(S:Nat->SV N.T)(Rr:Nat->Option (SR N.T))(nk:Nat)(t:TypeId)(x y:Operand)(k:A_ N.T->Nat->Option R):Option R:=match P.underlying t,intOf (Ap S y)with
 |some (.slice e),some (_,n)=>match Ap S x with
  | .d (.sl te) l=>match OU P e (te.sz N)with
   |true=>Ac (idx l n) fun z=>k ⟨.pd te z 0,[],[]⟩ nk
   |false=>none
  | .Az b=>match Rr b with
   |some (.row _ te l)=>match OU P e (te.sz N)with
    |true=>Ac (idx l n) fun z=>k ⟨.Di b n 0 te z,[b],[]⟩ nk
    |false=>none
   |_=>none
  |_=>none
 |some (.array len e),some (_,n)=>match Ap S x,P.info? e with
  | .loc b q,some inf=>match inf.zero with
   |some _=>Ah (0<=n/\n<(len:Int)) (k ⟨.loc b (q+n.toNat*inf.size),[],[]⟩ nk)
   |none=>none
  |_,_=>none
 |_,_=>none
theorem df{t:TypeId}{x y:Operand}(ho:o.op= .indexAddr t x y)(h:se P S Rr nk t x y k=some r):AL P C S Rr nk o k r:=by
 have hox:∀ {η:Nat->Value} {H:Hp} {a:Act},(∀x∈o.op.operands,(Ap S x).is C η H (a.eval x))->(Ap S x).is C η H (a.eval x):=fun hx=>hx x (by rw[ho];simp[Op.operands])
 have hoy:∀ {η:Nat->Value} {H:Hp} {a:Act},(∀x∈o.op.operands,(Ap S x).is C η H (a.eval x))->(Ap S y).is C η H (a.eval y):=fun hx=>hx y (by rw[ho];simp[Op.operands])
 unfold se at h
 split at h
 ·rename_i e kk n ht hn
  split at h
  ·rename_i te l hs
   split at h
   ·rename_i hB
    obtain⟨bytes,zv,hti⟩:=Du hB
    obtain⟨z,hz,h⟩:=A9 h
    refine .y h (Al.Cy fun η H O a hx _=>?_) fun _ _=>trivial
    obtain⟨cs,⟨v,rfl,hv⟩,e2⟩:(SV.d (.sl te) l:SV N.T).is C η H (a.eval x):=by rw[<-hs];exact hox hx
    have e2:[v]=[a.eval x]:=e2
    cases e2
    have e3:=AP hn (hoy hx)
    obtain⟨cs,g1,g2⟩:=Fa.get hv hz
    have hb:=Vf hz
    have hsl:∃ad c,a.eval x= .slice (some ad) l.length c:=by
     rcases hv.sl with⟨_,h0⟩|⟨ad,c,e,_⟩
     ·omega
     ·exact⟨ad,c,e⟩
    obtain⟨ad,c,e4⟩:=hsl
    refine⟨AE (a.eval x) (n.toNat*te.sz N),?_,ad,n.toNat*te.sz N,cs,by rw[e4];rfl,g1,fun j u hj=>?_⟩
    ·rw[ho];exact Am.Yb ht hti rfl hv.sl (congrArg some e3) hb
    ·have:=g2 j u hj
     rw[e4,A5]at this;exact this
   ·cases h
  ·rename_i b hs
   split at h
   ·rename_i g te l hb
    split at h
    ·rename_i hB
     obtain⟨bytes,zv,hti⟩:=Du hB
     obtain⟨z,hz,h⟩:=A9 h
     refine .y h (fun η H Of a w Y hn' hs' hi hx hr hfr K Q hK=>?_) fun τ _ g' t' l' hl'=>?_
     ·rcases hr b (.inl (by simp)) _ hb with e|⟨X,h1,xs,e3,hL⟩
      ·cases e
      subst e3
      obtain⟨i,h2,_⟩:=GJ Of hn' h1
      have e1:a.eval x=η b:=by
       have:(SV.Az b:SV N.T).is C η H (a.eval x):=by rw[<-hs];exact hox hx
       exact this.1
      have e3:=AP hn (hoy hx)
      have hbd:=Vf hz
      have hsl:∃ad c,η b= .slice (some ad) l.length c:=by
       rcases(hs'.JU h2).1 with⟨_,h0⟩|⟨ad,c,e,_⟩
       ·omega
       ·exact⟨ad,c,e⟩
      obtain⟨ad,c,e4⟩:=hsl
      have hop:Am P o.op o.type (EV a) H (Y.map (·.2)++Of) (AE (η b) (n.toNat*te.sz N)):=by
       rw[ho];exact Am.ob ht hti (congrArg some e1) h2 (congrArg some e3) hbd
      refine Oper.Bt (hop a w o rf rf (fun x u e=>by simpa using e) hs') hs' fun w' hw'=>?_
      exact hK _ w' H η Y (Hp.le.refl H) (fun _ _=>rfl) (fun _ _=>rfl) (fun k sr h=>by cases h) hn' (fun k hk=> .inl hk) hw' ⟨rfl,ad,l.length,c,e4⟩
     ·rw[hb]at hl'
      cases hl'
      exact⟨Ty.Oh te,by rw[hz];rfl⟩
    ·cases h
   ·cases h
  ·cases h
 ·rename_i len e kk n ht hn
  split at h
  ·rename_i b q inf hs hi
   split at h
   ·rename_i z hz
    obtain⟨hc,h⟩:=AF h
    refine .y h (Al.Cy fun η H O a hx _=>?_) fun _ _=>trivial
    obtain⟨B,e1,e2⟩:(SV.loc b q:SV N.T).is C η H (a.eval x):=by rw[<-hs];exact hox hx
    have e3:=AP hn (hoy hx)
    refine⟨ptr B (q+n.toNat*inf.size),?_,B,e1,rf⟩
    rw[ho];exact Am.oc (z:=z) ht ⟨inf,hi,rfl,rfl,hz⟩ (congrArg some e2) (congrArg some e3) hc rfl
   ·cases h
  ·cases h
 ·cases h
def iV(P:Program)(S:Nat->SV N.T)(nk:Nat)(t:TypeId)(x y:Operand)(k:A_ N.T->Nat->Option R):Option R:=match P.underlying t,V6 N .str (Ap S x),intOf (Ap S y)with
 |some .string,some s,some (_,n)=>Ac (EE s n) fun z=>k ⟨.d (.int .u8) z,[],[]⟩ nk
 |_,_,_=>none
theorem bc{s:Ax}{η:Nat->Value}{H:Hp}{v:Value}(h:(SV.d .str s:SV N.T).is C η H v):v=sv s:=by
 obtain⟨cs,h1,h2⟩:=h
 have h1:cs=[sv s]:=h1
 subst h1
 have h2:[_]=[v]:=h2
 cases h2;rfl
theorem MZ{b:Bool}{η:Nat->Value}{H:Hp}{v:Value}(h:(SV.d .bool b:SV N.T).is C η H v):v= .bool b:=by
 obtain⟨cs,h1,h2⟩:=h
 have h1:cs=[.bool b]:=h1
 subst h1
 have h2:[_]=[v]:=h2
 cases h2;rfl
theorem Ch{b:Bool}{η:Nat->Value}{H:Hp} :(SV.d .bool b:SV N.T).is C η H (.bool b):=⟨[_],rfl,rfl⟩
theorem fF{t:TypeId}{x y:Operand}(ho:o.op= .index t x y)(h:iV P S nk t x y k=some r):AL P C S Rr nk o k r:=by
 unfold iV at h
 split at h
 ·rename_i s kk n ht hs hn
  obtain⟨z,hz,h⟩:=A9 h
  refine .y h (Al.Cy fun η H O a hx _=>?_) fun _ _=>trivial
  have e1:=bc (GY hs (hx x (by rw[ho];simp[Op.operands])))
  have e2:=AP hn (hx y (by rw[ho];simp[Op.operands]))
  refine⟨.int .u8 z,?_,Dd (Yg hz).2⟩
  rw[ho];exact Am.oR ht (congrArg some e1) (congrArg some e2) hz
 ·cases h
end
end Go.GV
namespace Go.GV
open Go Go.GK
section
variable {N : Cw} {R : Type} {P : Program} {C : List (SV N.T)} {S : Nat -> SV N.T} {Rr : Nat -> Option (SR N.T)} {nk : Nat} {o : Oper} {k : A_ N.T -> Nat -> Option R} {r : R}
def LD(k:IntKind)(m n:Int):Int:=k.wrap ((BitVec.ofInt k.bits m&&&BitVec.ofInt k.bits n).toNat:Int)
def Sq(k:IntKind)(m n:Int):Int:=k.wrap ((BitVec.ofInt k.bits m|||BitVec.ofInt k.bits n).toNat:Int)
def O9(k:IntKind)(m n:Int):Int:=m.fdiv (2^min n.toNat k.bits)
def K5(k:IntKind)(m n:Int):Int:=m*2^min n.toNat k.bits
def gU(b:BinOp)(kk:IntKind)(m n:Int)(nk:Nat)(k:A_ N.T->Nat->Option R):Option R:=match b with
 | .add=>Ab kk (m+n) (k ⟨.d (.int kk) (m+n),[],[]⟩ nk)
 | .sub=>Ab kk (m-n) (k ⟨.d (.int kk) (m-n),[],[]⟩ nk)
 | .mul=>Ab kk (m*n) (k ⟨.d (.int kk) (m*n),[],[]⟩ nk)
 | .lss=>k ⟨.d .bool (decide (m<n)),[],[]⟩ nk
 | .leq=>k ⟨.d .bool (decide (m<=n)),[],[]⟩ nk
 | .gtr=>k ⟨.d .bool (decide (n<m)),[],[]⟩ nk
 | .geq=>k ⟨.d .bool (decide (n<=m)),[],[]⟩ nk
 | .eql=>k ⟨.d .bool (decide (m=n)),[],[]⟩ nk
 | .neq=>k ⟨.d .bool (decide (m≠n)),[],[]⟩ nk
 | .quo=>Ah (n≠0) (Ab kk (m.tdiv n) (k ⟨.d (.int kk) (m.tdiv n),[],[]⟩ nk))
 | .rem=>Ah (n≠0) (Ab kk (m.tmod n) (k ⟨.d (.int kk) (m.tmod n),[],[]⟩ nk))
 | .and=>Ab kk (LD kk m n) (k ⟨.d (.int kk) (LD kk m n),[],[]⟩ nk)
 | .or=>Ab kk (Sq kk m n) (k ⟨.d (.int kk) (Sq kk m n),[],[]⟩ nk)
 | .shr=>Ah (0<=n) (Ab kk (O9 kk m n) (k ⟨.d (.int kk) (O9 kk m n),[],[]⟩ nk))
 | .shl=>Ah (0<=n) (Ab kk (K5 kk m n) (k ⟨.d (.int kk) (K5 kk m n),[],[]⟩ nk))
 |_=>none
section
variable {H : Hp} {O : List Ao} {E : Operand -> Option Value} {T Tx Ty : TypeId} {x y : Operand} {kk : IntKind} {m n : Int}
theorem Am.tT(hx:E x=some (.int kk m))(hy:E y=some (.int kk n))(h0:n≠0)(h:kk.min<=m.tdiv n/\m.tdiv n<=kk.max):Am P (.binOp .quo Tx x y Ty) T E H O (.int kk (m.tdiv n)):= .Aj fun a w o ho _ he _=>by
 have:=C9 h
 simp[execOp,ho,he x _ hx,he y _ hy,eqGuard,binOp,Op.intDiv,h0,this]
theorem Am.tS(hx:E x=some (.int kk m))(hy:E y=some (.int kk n))(h0:n≠0):Am P (.binOp .rem Tx x y Ty) T E H O (.int kk (m.tmod n)):= .Aj fun a w o ho _ he _=>by
 simp[execOp,ho,he x _ hx,he y _ hy,eqGuard,binOp,Op.intDiv,h0]
theorem Am.LD(hx:E x=some (.int kk m))(hy:E y=some (.int kk n)):Am P (.binOp .and Tx x y Ty) T E H O (.int kk (LD kk m n)):= .Aj fun a w o ho _ he _=>by
 simp[execOp,ho,he x _ hx,he y _ hy,eqGuard,binOp,Op.intBits,GV.LD]
theorem Am.Sq(hx:E x=some (.int kk m))(hy:E y=some (.int kk n)):Am P (.binOp .or Tx x y Ty) T E H O (.int kk (Sq kk m n)):= .Aj fun a w o ho _ he _=>by
 simp[execOp,ho,he x _ hx,he y _ hy,eqGuard,binOp,Op.intBits,GV.Sq]
theorem Am.O9(hx:E x=some (.int kk m))(hy:E y=some (.int kk n))(h0:0<=n):Am P (.binOp .shr Tx x y Ty) T E H O (.int kk (O9 kk m n)):= .Aj fun a w o ho _ he _=>by
 simp[execOp,ho,he x _ hx,he y _ hy,eqGuard,binOp,Op.shift,GV.O9,Int.not_lt.2 h0]
theorem Am.K5(hx:E x=some (.int kk m))(hy:E y=some (.int kk n))(h0:0<=n)(h:kk.min<=K5 kk m n/\K5 kk m n<=kk.max):Am P (.binOp .shl Tx x y Ty) T E H O (.int kk (K5 kk m n)):= .Aj fun a w o ho _ he _=>by
 have:=C9 h
 unfold GV.K5 at this
 simp[execOp,ho,he x _ hx,he y _ hy,eqGuard,binOp,Op.shift,GV.K5,Int.not_lt.2 h0,this]
theorem Am.n5{a b:Ax}(hx:E x=some (sv a))(hy:E y=some (sv b)):Am P (.binOp .leq Tx x y Ty) T E H O (.bool (Op.bytesLess a b||decide (a=b))):= .Aj fun ac w o ho _ he _=>by
 have h:(a==b)=decide (a=b):=by rw[Bool.eq_iff_iff];simp
 simp only[sv]at*
 simp[execOp,ho,he x _ hx,he y _ hy,eqGuard,binOp,Op.stringOp,DK,h]
theorem Am.ot{a b:Ax}(hx:E x=some (sv a))(hy:E y=some (sv b)):Am P (.binOp .gtr Tx x y Ty) T E H O (.bool (!(Op.bytesLess a b||decide (a=b)))):= .Aj fun ac w o ho _ he _=>by
 have h:(a==b)=decide (a=b):=by rw[Bool.eq_iff_iff];simp
 simp only[sv]at*
 simp[execOp,ho,he x _ hx,he y _ hy,eqGuard,binOp,Op.stringOp,DK,h]
theorem Am.ox{a b:Ax}(hx:E x=some (sv a))(hy:E y=some (sv b)):Am P (.binOp .geq Tx x y Ty) T E H O (.bool (!Op.bytesLess a b)):= .Aj fun ac w o ho _ he _=>by
 simp only[sv]at*
 simp[execOp,ho,he x _ hx,he y _ hy,eqGuard,binOp,Op.stringOp,DK]
theorem Am.neg(hx:E x=some (.int kk n))(h:kk.min<=0-n/\0-n<=kk.max):Am P (.unOp .neg Tx x) T E H O (.int kk (0-n)):= .Aj fun a w o ho _ he _=>by
 have:=C9 h
 have h2:kk.wrap (-n)= -n:=by simpa using this
 simp[execOp,ho,he x _ hx,Op.unary,Op.intArith,h2]
end
def nr(b:BinOp)(m n:Ax)(nk:Nat)(k:A_ N.T->Nat->Option R):Option R:=match b with
 | .eql=>k ⟨.d .bool (decide (m=n)),[],[]⟩ nk
 | .neq=>k ⟨.d .bool (!decide (m=n)),[],[]⟩ nk
 | .lss=>k ⟨.d .bool (Op.bytesLess m n),[],[]⟩ nk
 | .leq=>k ⟨.d .bool (Op.bytesLess m n||decide (m=n)),[],[]⟩ nk
 | .gtr=>k ⟨.d .bool (!(Op.bytesLess m n||decide (m=n))),[],[]⟩ nk
 | .geq=>k ⟨.d .bool (!Op.bytesLess m n),[],[]⟩ nk
 | .add=>Ah (m.length+n.length<=Ak) (k ⟨.d .str (m++n),[],[]⟩ nk)
 |_=>none
def Y_(s:SV N.T):Option Bool:=V6 N .bool s
def PU(s:SV N.T):Option Ax:=V6 N .str s
theorem PV{s:SV N.T}{b:Bool}{η:Nat->Value}{H:Hp}{v:Value}(h:Y_ s=some b)(hs:s.is C η H v):v= .bool b:=MZ (GY (t:= .bool) h hs)
theorem Ir{s:SV N.T}{b:Ax}{η:Nat->Value}{H:Hp}{v:Value}(h:PU s=some b)(hs:s.is C η H v):v=sv b:=bc (GY (t:= .str) h hs)
def dV:SV N.T->Option Int
 | .d (.int .u8) x=>some x
 |_=>none
theorem TQ{s:SV N.T}{n:Int}{η:Nat->Value}{H:Hp}{v:Value}(h:dV s=some n)(hs:s.is C η H v):v= .int .u8 n/\0<=n/\n<=255:=by
 unfold dV at h
 split at h
 ·cases h
  obtain⟨cs,h1,h2⟩:=hs
  obtain⟨rfl,h3⟩:=Db.1 h1
  have h2:[_]=[v]:=h2
  cases h2
  exact⟨rf,h3⟩
 ·cases h
def UH:SV N.T->Option Nat
 | .na n| .ct _ n| .cb _ n=>some n
 |_=>none
theorem XR{s:SV N.T}{n:Nat}{η:Nat->Value}{H:Hp}{v:Value}(h:UH s=some n)(hs:s.is C η H v):v= .int .i64 n/\n<=JG:=by
 unfold UH at h
 split at h
 ·cases h;exact hs
 ·cases h;exact hs
 ·cases h;exact⟨hs.1,Nat.le_of_lt hs.2⟩
 ·cases h
def iL(b:BinOp)(x y:SV N.T):Option (SV N.T):=match b,x,y with
 | .lss, .ct i n, .na m=>some (.lt i n m)
 | .add, .cb _ n, .raw (.int .i64 1)=>some (.na (n+1))
 |_,_,_=>none
theorem MU{b:BinOp}{x y s:SV N.T}(h:iL b x y=some s):(∃i n m,b= .lss/\x= .ct i n/\y= .na m/\s= .lt i n m)\/(∃i n,b= .add/\x= .cb i n/\y= .raw (.int .i64 1)/\s= .na (n+1)):=by
 unfold iL at h
 split at h
 ·cases h;exact .inl ⟨_,_,_,rfl,rfl,rfl,rfl⟩
 ·cases h;exact .inr ⟨_,_,rfl,rfl,rfl,rfl⟩
 ·cases h
def jg(
     P:Program) (S:Nat->SV N.T) (nk:Nat) (b:BinOp) (t:TypeId) (x y:Operand) (k:A_ N.T->Nat->Option R):Option R:=match iL b (Ap S x) (Ap S y)with
 |some s=>k ⟨s,[],[]⟩ nk
 |none=>match intOf (Ap S x),intOf (Ap S y)with
  |some (kk,m),some (kk',n)=>match kb kk kk' with
   |true=>gU b kk m n nk k
   |false=>none
  |_,_=>match P.underlying t with
   |some .string=>match PU (Ap S x),PU (Ap S y)with
    |some m,some n=>nr b m n nk k
    |_,_=>none
   |some .bool=>match Y_ (Ap S x),Y_ (Ap S y)with
    |some m,some n=>match b with
     | .eql=>k ⟨.d .bool (m==n),[],[]⟩ nk
     | .neq=>k ⟨.d .bool (!(m==n)),[],[]⟩ nk
     |_=>none
    |_,_=>none
   |_=>none
theorem ok_int{b:BinOp}{t u:TypeId}{x y:Operand}{kk:IntKind}{m n:Int}(ho:o.op= .binOp b t x y u)(hx:intOf (Ap S x)=some (kk,m))(hy:intOf (Ap S y)=some (kk,n))(h:gU b kk m n nk k=some r):AL P C S Rr nk o k r:=by
 have ex:∀ {η:Nat->Value} {H:Hp} {a:Act},(∀x∈o.op.operands,(Ap S x).is C η H (a.eval x))->EV a x=some (.int kk m):=fun g=>congrArg some (AP hx (g x (by rw[ho];simp[Op.operands])))
 have ey:∀ {η:Nat->Value} {H:Hp} {a:Act},(∀x∈o.op.operands,(Ap S x).is C η H (a.eval x))->EV a y=some (.int kk n):=fun g=>congrArg some (AP hy (g y (by rw[ho];simp[Op.operands])))
 have bl:∀ {c:Bool},k ⟨.d .bool c,[],[]⟩ nk=some r->(∀(H:Hp) (O:List Ao) (a:Act),EV a x=some (.int kk m)->EV a y=some (.int kk n)->Am P o.op o.type (EV a) H O (.bool c))->AL P C S Rr nk o k r:=fun h g=>
  .y h (Al.Cy fun η H O a hx _=>⟨_,g H O a (ex hx) (ey hx),Ch⟩) fun _ _=>trivial
 have nu:∀ {z:Int},Ab kk z (k ⟨.d (.int kk) z,[],[]⟩ nk)=some r->(∀(H:Hp) (O:List Ao) (a:Act),EV a x=some (.int kk m)->EV a y=some (.int kk n)->kk.min<=z/\z<=kk.max->Am P o.op o.type (EV a) H O (.int kk z))->AL P C S Rr nk o k r:=fun h g=>by
  obtain⟨h1,h2,h3⟩:=Bs h
  exact .y h3 (Al.Cy fun η H O a hx _=>⟨_,g H O a (ex hx) (ey hx) h1,Dd h2⟩) fun _ _=>trivial
 rw[ho]at bl nu
 unfold gU at h
 split at h
 ·exact nu h fun H O a e1 e2 e3=>Am.add e1 e2 e3
 ·exact nu h fun H O a e1 e2 e3=>Am.sub e1 e2 e3
 ·exact nu h fun H O a e1 e2 e3=>Am.mul e1 e2 e3
 ·exact bl h fun H O a e1 e2=>Am.lss e1 e2
 ·exact bl h fun H O a e1 e2=>Am.leq e1 e2
 ·exact bl h fun H O a e1 e2=>Am.gtr e1 e2
 ·exact bl h fun H O a e1 e2=>Am.geq e1 e2
 ·exact bl h fun H O a e1 e2=>Am.eql e1 e2
 ·exact bl h fun H O a e1 e2=>Am.neq e1 e2
 ·obtain⟨h0,h⟩:=AF h;exact nu h fun H O a e1 e2 e3=>Am.tT e1 e2 h0 e3
 ·obtain⟨h0,h⟩:=AF h;exact nu h fun H O a e1 e2 e3=>Am.tS e1 e2 h0
 ·exact nu h fun H O a e1 e2 e3=>Am.LD e1 e2
 ·exact nu h fun H O a e1 e2 e3=>Am.Sq e1 e2
 ·obtain⟨h0,h⟩:=AF h;exact nu h fun H O a e1 e2 e3=>Am.O9 e1 e2 h0
 ·obtain⟨h0,h⟩:=AF h;exact nu h fun H O a e1 e2 e3=>Am.K5 e1 e2 h0 e3
 ·cases h
theorem fK{b:BinOp}{t u:TypeId}{x y:Operand}(ho:o.op= .binOp b t x y u)(h:jg P S nk b t x y k=some r):AL P C S Rr nk o k r:=by
 have hox:∀ {η:Nat->Value} {H:Hp} {a:Act},(∀x∈o.op.operands,(Ap S x).is C η H (a.eval x))->(Ap S x).is C η H (a.eval x):=fun hx=>hx x (by rw[ho];simp[Op.operands])
 have hoy:∀ {η:Nat->Value} {H:Hp} {a:Act},(∀x∈o.op.operands,(Ap S x).is C η H (a.eval x))->(Ap S y).is C η H (a.eval y):=fun hx=>hx y (by rw[ho];simp[Op.operands])
 unfold jg at h
 split at h
 ·rename_i s hc
  rcases MU hc with⟨i,n,m,rfl,e1,e2,rfl⟩|⟨i,n,rfl,e1,e2,rfl⟩
  ·refine .y h (Al.Cy fun η H O a hx _=>?_) fun τ hτ=>?_
   ·have a1:=hox hx;rw[e1]at a1
    have a2:=hoy hx;rw[e2]at a2
    refine⟨_,?_,rf,a2.2⟩
    rw[ho];exact Am.lss (congrArg some a1.1) (congrArg some a2.1)
   ·have:=JE (x:=x) hτ
    rw[e1]at this;exact this
  ·refine .y h (Al.Cy fun η H O a hx _=>?_) fun _ _=>trivial
   have a1:=hox hx;rw[e1]at a1
   have a2:=hoy hx;rw[e2]at a2
   have a3:=a1.2
   refine⟨.int .i64 ((n:Int)+1),?_,rf,a3⟩
   rw[ho];exact Am.add (congrArg some a1.1) (congrArg some a2) (ML (by simp only[JG]at a3;omega))
 ·split at h
  ·rename_i kk m kk' n hx hy
   split at h
   ·rename_i hb
    have:=LG hb;subst this
    exact ok_int ho hx hy h
   ·cases h
  ·split at h
   ·rename_i ht
    split at h
    ·rename_i m n hx hy
     have ex:∀ {η:Nat->Value} {H:Hp} {a:Act},(∀x∈o.op.operands,(Ap S x).is C η H (a.eval x))->EV a x=some (sv m):=fun g=>congrArg some (Ir hx (hox g))
     have ey:∀ {η:Nat->Value} {H:Hp} {a:Act},(∀x∈o.op.operands,(Ap S x).is C η H (a.eval x))->EV a y=some (sv n):=fun g=>congrArg some (Ir hy (hoy g))
     have bl:∀ {c:Bool},k ⟨.d .bool c,[],[]⟩ nk=some r->(∀(H:Hp) (O:List Ao) (a:Act),EV a x=some (sv m)->EV a y=some (sv n)->Am P o.op o.type (EV a) H O (.bool c))->AL P C S Rr nk o k r:=fun h g=>
      .y h (Al.Cy fun η H O a hx _=>⟨_,g H O a (ex hx) (ey hx),Ch⟩) fun _ _=>trivial
     rw[ho]at bl
     unfold nr at h
     split at h
     ·exact bl h fun H O a e1 e2=>Am.eqStr ht e1 e2
     ·exact bl h fun H O a e1 e2=>Am.nW ht e1 e2
     ·exact bl h fun H O a e1 e2=>Am.ltStr e1 e2
     ·exact bl h fun H O a e1 e2=>Am.n5 e1 e2
     ·exact bl h fun H O a e1 e2=>Am.ot e1 e2
     ·exact bl h fun H O a e1 e2=>Am.ox e1 e2
     ·obtain⟨h1,h2⟩:=AF h
      exact .y h2 (Al.Cy fun η H O a hx _=>⟨sv (m++n),by rw[ho];exact Am.iO (ex hx) (ey hx) h1,[_],rf,rf⟩) fun _ _=>trivial
     ·cases h
    ·cases h
   ·rename_i ht
    split at h
    ·rename_i m n hx hy
     have ex:∀ {η:Nat->Value} {H:Hp} {a:Act},(∀x∈o.op.operands,(Ap S x).is C η H (a.eval x))->EV a x=some (.bool m):=fun g=>congrArg some (PV hx (hox g))
     have ey:∀ {η:Nat->Value} {H:Hp} {a:Act},(∀x∈o.op.operands,(Ap S x).is C η H (a.eval x))->EV a y=some (.bool n):=fun g=>congrArg some (PV hy (hoy g))
     split at h
     ·exact .y h (Al.Cy fun η H O a hx _=>⟨_,by rw[ho];exact Am.eqB ht (ex hx) (ey hx),Ch⟩) fun _ _=>trivial
     ·exact .y h (Al.Cy fun η H O a hx _=>⟨_,by rw[ho];exact Am.neB ht (ex hx) (ey hx),Ch⟩) fun _ _=>trivial
     ·cases h
    ·cases h
   ·cases h
def fS(S:Nat->SV N.T)(nk:Nat)(x:Operand)(k:A_ N.T->Nat->Option R):Option R:=match Ap S x with
 | .lb b=>k ⟨.lb (!b),[],[]⟩ nk
 |s=>match Y_ s with
  |some b=>k ⟨.d .bool (!b),[],[]⟩ nk
  |none=>none
theorem eU{t:TypeId}{x:Operand}(ho:o.op= .unOp .not t x)(h:fS S nk x k=some r):AL P C S Rr nk o k r:=by
 have hox:∀ {η:Nat->Value} {H:Hp} {a:Act},(∀x∈o.op.operands,(Ap S x).is C η H (a.eval x))->(Ap S x).is C η H (a.eval x):=fun hx=>hx x (by rw[ho];simp[Op.operands])
 unfold fS at h
 split at h
 ·rename_i b hs
  refine .y h (Al.Cy fun η H O a hx _=>⟨.bool (!b),?_,rf⟩) fun _ _=>trivial
  have:=hox hx;rw[hs]at this
  rw[ho];exact Am.not (congrArg some this)
 ·split at h
  ·rename_i b hb
   exact .y h (Al.Cy fun η H O a hx _=>⟨_,by rw[ho];exact Am.not (congrArg some (PV hb (hox hx))),Ch⟩) fun _ _=>trivial
  ·cases h
def f_(S:Nat->SV N.T)(nk:Nat)(x:Operand)(k:A_ N.T->Nat->Option R):Option R:=match intOf (Ap S x)with
 |some (kk,n)=>Ab kk (0-n) (k ⟨.d (.int kk) (0-n),[],[]⟩ nk)
 |none=>none
theorem eY{t:TypeId}{x:Operand}(ho:o.op= .unOp .neg t x)(h:f_ S nk x k=some r):AL P C S Rr nk o k r:=by
 have hox:∀ {η:Nat->Value} {H:Hp} {a:Act},(∀x∈o.op.operands,(Ap S x).is C η H (a.eval x))->(Ap S x).is C η H (a.eval x):=fun hx=>hx x (by rw[ho];simp[Op.operands])
 unfold f_ at h
 split at h
 ·rename_i kk n hs
  obtain⟨h1,h2,h3⟩:=Bs h
  exact .y h3 (Al.Cy fun η H O a hx _=>⟨_,by rw[ho];exact Am.neg (congrArg some (AP hs (hox hx))) h1,Dd h2⟩) fun _ _=>trivial
 ·cases h
def gv(P:Program)(S:Nat->SV N.T)(Rr:Nat->Option (SR N.T))(nk:Nat)(x:Operand)(t:TypeId)(k:A_ N.T->Nat->Option R):Option R:=match P.underlying t with
 |some (.slice _)=>match Ap S x with
  | .d (.sl _) l=>k ⟨.na l.length,[],[]⟩ nk
  | .Az b=>match Rr b with
   |some (.row _ _ l)=>k ⟨.na l.length,[b],[]⟩ nk
   |_=>none
  | .raw (.slice none 0 0)=>k ⟨.na 0,[],[]⟩ nk
  |_=>none
 |some .string=>match PU (Ap S x)with
  |some s=>k ⟨.d (.int .i64) ((s.length:Nat):Int),[],[]⟩ nk
  |none=>none
 |_=>none
theorem fk{x:Operand}{t:TypeId}(ho:o.op= .call {callee:= .builtin .len,args:= #[x],argTypes:= #[t]})(h:gv P S Rr nk x t k=some r):AL P C S Rr nk o k r:=by
 have hox:∀ {η:Nat->Value} {H:Hp} {a:Act},(∀x∈o.op.operands,(Ap S x).is C η H (a.eval x))->(Ap S x).is C η H (a.eval x):=fun hx=>hx x (by rw[ho];simp[Op.operands,Call.operands])
 unfold gv at h
 split at h
 ·rename_i e ht
  split at h
  ·rename_i te l hs
   refine .y h (Al.Cy fun η H O a hx _=>?_) fun _ _=>trivial
   obtain⟨cs,⟨v,rfl,hv⟩,e2⟩:(SV.d (.sl te) l:SV N.T).is C η H (a.eval x):=by rw[<-hs];exact hox hx
   have e2:[v]=[a.eval x]:=e2
   cases e2
   exact⟨_,by rw[ho];exact Am.len ht rf hv.sl,rf,hv.le⟩
  ·rename_i b hs
   split at h
   ·rename_i g te l hb
    refine .y h (fun η H Of a w Y hn' hs' hi hx hr hfr K Q hK=>?_) fun _ _=>trivial
    rcases hr b (.inl (by simp)) _ hb with e|⟨X,h1,xs,e3,hL⟩
    ·cases e
    subst e3
    obtain⟨i,h2,_⟩:=GJ Of hn' h1
    have e1:a.eval x=η b:=by
     have:(SV.Az b:SV N.T).is C η H (a.eval x):=by rw[<-hs];exact hox hx
     exact this.1
    have hop:Am P o.op o.type (EV a) H (Y.map (·.2)++Of) (.int .i64 l.length):=by
     rw[ho];exact Am.len ht (congrArg some e1) (hs'.JU h2).1
    refine Oper.Bt (hop a w o rf rf (fun x u e=>by simpa using e) hs') hs' fun w' hw'=>?_
    exact hK _ w' H η Y (Hp.le.refl H) (fun _ _=>rfl) (fun _ _=>rfl) (fun k sr h=>by cases h) hn' (fun k hk=> .inl hk) hw' ⟨rfl,hs'.JW h2⟩
   ·cases h
  ·rename_i hs
   refine .y h (Al.Cy fun η H O a hx _=>?_) fun _ _=>trivial
   have:=hox hx;rw[hs]at this
   have this:a.eval x=_:=this
   exact⟨_,by rw[ho];exact Am.len (n:=0) ht rf (.inl ⟨this,rf⟩),rf,Nat.zero_le _⟩
  ·cases h
 ·rename_i ht
  split at h
  ·rename_i s hs
   exact .y h (Al.Cy fun η H O a hx _=>⟨_,by rw[ho];exact Am.uC ht (congrArg some (Ir hs (hox hx))),Dd trivial⟩) fun _ _=>trivial
  ·cases h
 ·cases h
def sC(P:Program)(S:Nat->SV N.T)(nk:Nat)(s d:TypeId)(x:Operand)(k:A_ N.T->Nat->Option R):Option R:=match P.underlying s,P.underlying d with
 |some (.int _),some (.int k')=>match dV (Ap S x),k' with
  |some n, .i64=>k ⟨.d (.int .i64) n,[],[]⟩ nk
  |some n, .u8=>k ⟨.d (.int .u8) n,[],[]⟩ nk
  |_,_=>match UH (Ap S x),k' with
   |some n, .i64=>k ⟨.na n,[],[]⟩ nk
   |_,_=>match intOf (Ap S x)with
    |some (_,n)=>Ab k' n (k ⟨.d (.int k') n,[],[]⟩ nk)
    |none=>none
 |_,_=>none
theorem dh{s d:TypeId}{x:Operand}(ho:o.op= .convert s d x)(h:sC P S nk s d x k=some r):AL P C S Rr nk o k r:=by
 have hox:∀ {η:Nat->Value} {H:Hp} {a:Act},(∀x∈o.op.operands,(Ap S x).is C η H (a.eval x))->(Ap S x).is C η H (a.eval x):=fun hx=>hx x (by rw[ho];simp[Op.operands])
 unfold sC at h
 split at h
 ·rename_i kk k' hs hd
  split at h
  ·rename_i n hn
   refine .y h (Al.Cy fun η H O a g _=>?_) fun _ _=>trivial
   obtain⟨e1,e2⟩:=TQ hn (hox g)
   exact⟨.int .i64 n,by rw[ho];exact Am.conv hs hd (congrArg some e1) (ML (by omega)),Dd trivial⟩
  ·rename_i n hn
   refine .y h (Al.Cy fun η H O a g _=>?_) fun _ _=>trivial
   obtain⟨e1,e2⟩:=TQ hn (hox g)
   exact⟨.int .u8 n,by rw[ho];exact Am.conv hs hd (congrArg some e1) (Vs e2),Dd e2⟩
  ·split at h
   ·rename_i n hn _ _
    refine .y h (Al.Cy fun η H O a g _=>?_) fun _ _=>trivial
    obtain⟨e1,e2⟩:=XR hn (hox g)
    exact⟨.int .i64 n,by rw[ho];exact Am.conv hs hd (congrArg some e1) (ML (by simp only[JG]at e2;omega)),rf,e2⟩
   ·split at h
    ·rename_i kk2 n hn
     obtain⟨h1,h2,h3⟩:=Bs h
     exact .y h3 (Al.Cy fun η H O a g _=>⟨_,by rw[ho];exact Am.conv hs hd (congrArg some (AP hn (hox g))) h1,Dd h2⟩) fun _ _=>trivial
    ·cases h
 ·cases h
def iq(S:Nat->SV N.T)(nk:Nat)(x:Operand)(i:Nat)(k:A_ N.T->Nat->Option R):Option R:=match Ap S x,i with
 | .t2 a _,0=>k ⟨a,[],[]⟩ nk
 | .t2 _ b,1=>k ⟨b,[],[]⟩ nk
 | .t3 a _ _,0=>k ⟨a,[],[]⟩ nk
 | .t3 _ b _,1=>k ⟨b,[],[]⟩ nk
 | .t3 _ _ c,2=>k ⟨c,[],[]⟩ nk
 |_,_=>none
def DO:SV N.T->Bool
 | .ct _ _| .cb _ _| .lt _ _ _| .Di _ _ _ _ _=>false
 |_=>true
theorem CT{s:SV N.T}{τ:Nat->Nat}(h:DO s=true):CD τ Rr s:=by
 cases s<;>first|trivial|cases h
theorem fC{x:Operand}{i:Nat}(ho:o.op= .extract x i)(h:iq S nk x i (fun s n=>match DO s.sv with|true=>k s n|false=>none)=some r):AL P C S Rr nk o k r:=by
 have hox:∀ {η:Nat->Value} {H:Hp} {a:Act},(∀x∈o.op.operands,(Ap S x).is C η H (a.eval x))->(Ap S x).is C η H (a.eval x):=fun hx=>hx x (by rw[ho];simp[Op.operands])
 have fin:∀ {s:SV N.T},(match DO s with|true=>k ⟨s,[],[]⟩ nk|false=>none)=some r->(∀ {η:Nat->Value} {H:Hp} {a:Act},(Ap S x).is C η H (a.eval x)->∃vs v,a.eval x= .tuple vs/\vs[i]?=some v/\s.is C η H v)->AL P C S Rr nk o k r:=fun{s} h g=>by
  split at h
  ·rename_i hp
   refine .y h (Al.Cy fun η H O a hx _=>?_) fun _ _=>CT hp
   obtain⟨vs,v,e1,e2,e3⟩:=g (hox hx)
   exact⟨v,by rw[ho];exact Am.extract (congrArg some e1) e2,e3⟩
  ·cases h
 unfold iq at h
 split at h
 ·rename_i a b hs
  exact fin h fun hx=>by rw[hs]at hx;obtain⟨x,y,e,h1,h2⟩:=hx;exact⟨_,_,e,rfl,h1⟩
 ·rename_i a b hs
  exact fin h fun hx=>by rw[hs]at hx;obtain⟨x,y,e,h1,h2⟩:=hx;exact⟨_,_,e,rfl,h2⟩
 ·rename_i a b c hs
  exact fin h fun hx=>by rw[hs]at hx;obtain⟨x,y,z,e,h1,h2,h3⟩:=hx;exact⟨_,_,e,rfl,h1⟩
 ·rename_i a b c hs
  exact fin h fun hx=>by rw[hs]at hx;obtain⟨x,y,z,e,h1,h2,h3⟩:=hx;exact⟨_,_,e,rfl,h2⟩
 ·rename_i a b c hs
  exact fin h fun hx=>by rw[hs]at hx;obtain⟨x,y,z,e,h1,h2,h3⟩:=hx;exact⟨_,_,e,rfl,h3⟩
 ·cases h
end
end Go.GV
namespace Go.GV
open Go Go.GK
theorem RQ(off:Nat)(l:List Value):∀(k:Nat) (acc:Array Value),(l.zipIdx k).foldl (fun cs (p:Value×Nat)=>cs.setIfInBounds (off+p.2) p.1) acc=(l.zipIdx (off+k)).foldl (fun cs (p:Value×Nat)=>cs.setIfInBounds p.2 p.1) acc:=by
 induction l with
 |nil=>intro k acc;rfl
 |cons v l ih=>
  intro k acc
  rw[List.zipIdx_cons,List.zipIdx_cons,List.foldl_cons,List.foldl_cons,ih (k+1),Nat.add_assoc]
theorem Xk{cs:Array Value}{off:Nat}{v:Array Value}(h:off+v.size<=cs.size):(v.zipIdx.foldl (fun cs (x:Value×Nat)=>match x with|(c,j)=>cs.setIfInBounds (off+j) c) cs)=(BZ cs.toList off v.toList).toArray:=by
 have h4:(v.zipIdx.foldl (fun cs (x:Value×Nat)=>match x with|(c,j)=>cs.setIfInBounds (off+j) c) cs)=((v.toList.zipIdx 0).foldl (fun cs (p:Value×Nat)=>cs.setIfInBounds (off+p.2) p.1) cs):=by
  rw[<-Array.foldl_toList,Array.toList_zipIdx]
 rw[h4,RQ]
 apply Array.ext_getElem?
 intro i
 rw[SE]
 simp only[Nat.add_zero,Array.length_toList,List.getElem?_toArray]
 unfold BZ
 have hl:(cs.toList.take off).length=off:=by simp;omega
 by_cases h1:i<off
 ·rw[if_neg (by omega),List.append_assoc,List.getElem?_append_left (by omega),List.getElem?_take_of_lt h1];simp
 ·by_cases h2:i<off+v.size
  ·rw[if_pos ⟨by omega,h2,by omega⟩,List.append_assoc,List.getElem?_append_right (by omega),hl,List.getElem?_append_left (by simp;omega)]
  ·rw[if_neg (by omega),List.getElem?_append_right (by simp;omega),List.getElem?_drop]
   have:off+v.toList.length+(i-(cs.toList.take off++v.toList).length)=i:=by simp;omega
   rw[this];simp
theorem Ie{place:Nat->Option (Nat×Nat)}{cells:Array Value}{i off size:Nat}{v:Value}{rest:List (Nat×Value)}(hp:place i=some (off,size))(hs:v.cells.size=size)(hb:off+v.cells.size<=cells.size):Instr.fill place cells ((i,v)::rest)=Instr.fill place (BZ cells.toList off v.cells.toList).toArray rest:=by
 have:(v.cells.size≠size||decide (off+v.cells.size>cells.size))=false:=by
  simp[hs];omega
 simp only[Instr.fill,hp]
 rw[this]
 simp only[Bool.false_eq_true,if_false]
 rw[Xk hb]
theorem Hu{a:Act} :∀ps:List (Nat×Operand),TH (EV a) ps=some (ps.map fun p=>(p.1,a.eval p.2))
 | []=>rfl
 |(i,x)::r=>by simp only[TH,EV,Hu r,List.map_cons]
section
variable {N : Cw} {R : Type} {P : Program} {C : List (SV N.T)} {S : Nat -> SV N.T} {Rr : Nat -> Option (SR N.T)} {nk : Nat} {o : Oper} {k : A_ N.T -> Nat -> Option R} {r : R}
def Oe(P:Program)(C:List (SV N.T))(S:Nat->SV N.T)(place:Nat->Option (Nat×Nat×TypeId)):List (Nat×Operand)->SV N.T->Option (SV N.T)
 | [],l=>some l
 |(i,x)::ps,l=>match place i with
  |some (off,size,t)=>match Nat.ble off (N1 l),Xw C l off (nS P t (Ap S x))with
   |true,some (l',n)=>match Nat.beq n size with
    |true=>Oe P C S place ps l'
    |false=>none
   |_,_=>none
  |none=>none
theorem Kt{place:Nat->Option (Nat×Nat×TypeId)}{η:Nat->Value}{H:Hp}{a:Act} :∀ {ps:List (Nat×Operand)} {l l':SV N.T} {cs:List Value},Oe P C S place ps l=some l'->l.is C η H (.agg cs.toArray)->(∀p∈ps,(Ap S p.2).is C η H (a.eval p.2))->
  ∃cs':List Value,Instr.fill (fun i=>(place i).map fun q=>(q.1,q.2.1)) cs.toArray (ps.map fun p=>(p.1,a.eval p.2))=some cs'.toArray/\l'.is C η H (.agg cs'.toArray)
 | [],l,l',cs,h,hl,_=>by cases h;exact⟨cs,rfl,hl⟩
 |(i,x)::ps,l,l',cs,h,hl,hp=>by
  unfold Oe at h
  split at h
  ·rename_i off size t hpl
   split at h
   ·rename_i l1 n hle hput
    split at h
    ·rename_i hb
     have e:=Nat.eq_of_beq_eq_true hb;subst e
     obtain⟨q1,q2,q3,q4⟩:=Qz hput (Nat.le_trans (Nat.le_of_ble_eq_true hle) (N0 hl)) (Ps (hp (i,x) (by simp))) hl
     subst q3
     obtain⟨cs',g1,g2⟩:=Kt h q1 fun p hp'=>hp p (by simp[hp'])
     refine⟨cs',?_,g2⟩
     rw[List.map_cons,Ie (off:=off) (size:=(a.eval x).cells.toList.length) (by simp[hpl]) (by simp) (by simpa using q2)]
     simpa using g1
    ·cases h
   ·cases h
  ·cases h
def nT:SV N.T->Bool
 | .lf _ a l=>match a with
  | .raw (.slice none 0 0)=>true
  | .Az _=>true
  |_=>nT l
 |_=>false
def mN(P:Program)(C:List (SV N.T))(t:TypeId)(l:SV N.T):SV N.T:=match Jc N P t with
 |some ty=>match ty.agg with
  |true=>match nT l,HD N C 64 ty l with
   |false,some (x, .nl)=> .d ty x
   |_,_=>l
  |false=>l
 |none=>l
theorem V'{t:TypeId}{l:SV N.T}{η:Nat->Value}{H:Hp}{cs:List Value}(h:l.is C η H (.agg cs.toArray)):(mN P C t l).is C η H (.agg cs.toArray):=by
 unfold mN
 split
 ·split
  ·rename_i ha
   split
   ·rename_i x _ hx
    obtain⟨c1,c2,e,h1,h2⟩:=Dl hx h
    have h2:Value.agg c2.toArray= .agg #[]:=h2
    have h2:c2=[]:=by simpa using h2
    subst h2
    rw[List.append_nil]at e;subst e
    refine⟨cs,h1,?_⟩
    unfold BS;rw[ha]
   ·exact h
  ·exact h
 ·exact h
def mF(P:Program)(fs:List Field)(i:Nat):Option (Nat×Nat×TypeId):=match fs[i]? with
 |some f=>match P.info? f.type with
  |some inf=>some (f.offset,inf.size,f.type)
  |none=>none
 |none=>none
def jf(
     P:Program) (C:List (SV N.T)) (S:Nat->SV N.T) (nk:Nat) (t:TypeId) (ps:List (Nat×Operand)) (k:A_ N.T->Nat->Option R):Option R:=match P.info? t with
 |some inf=>match inf.zero with
  |some z=>match W8 N P 64 [t] z.cells.toList with
   |some l0=>match P.underlying t with
    |some (.struct fs)=>match(placesOf P t).isSome,Oe P C S (mF P fs.toList) ps l0 with
     |true,some l=>match DO (mN P C t l)with
      |true=>k ⟨mN P C t l,[],[]⟩ nk
      |false=>none
     |_,_=>none
    |some (.array _ e)=>match P.info? e with
     |some ie=>match ie.zero.isSome,Oe P C S (fun i=>some (i*ie.size,ie.size,e)) ps l0 with
      |true,some l=>match DO (mN P C t l)with
       |true=>k ⟨mN P C t l,[],[]⟩ nk
       |false=>none
      |_,_=>none
     |none=>none
    |_=>none
   |none=>none
  |none=>none
 |none=>none
theorem J4:∀(l:List Field) (ps:List (Nat×Nat)),(l.mapM fun f=>(P.info? f.type).map fun i=>(f.offset,i.size))=some ps->∀i,ps[i]?=(mF P l i).map fun q=>(q.1,q.2.1)
 | [],ps,h,i=>by simp at h;subst h;simp[mF]
 |f::l,ps,h,i=>by
  rw[List.mapM_cons]at h
  cases hi:P.info? f.type with
  |none=>simp[hi]at h
  |some inf=>
   cases hl:(l.mapM fun f=>(P.info? f.type).map fun i=>(f.offset,i.size))with
   |none=>simp[hi,hl]at h
   |some qs=>
    simp[hi,hl]at h
    subst h
    cases i with
    |zero=>simp[mF,hi]
    |succ i=>
     have:=J4 l qs hl i
     simpa [mF]using this
theorem fJ{t:TypeId}{ps:List (Nat×Operand)}(ho:o.op= .build t ps.toArray)(h:jf P C S nk t ps k=some r):AL P C S Rr nk o k r:=by
 have hop:∀ {η:Nat->Value} {H:Hp} {a:Act},(∀x∈o.op.operands,(Ap S x).is C η H (a.eval x))->∀p∈ps,(Ap S p.2).is C η H (a.eval p.2):=fun hx p hp=>hx p.2 (by rw[ho];simp[Op.operands];exact⟨p.1,hp⟩)
 unfold jf at h
 split at h
 ·rename_i inf hi
  split at h
  ·rename_i z hz
   split at h
   ·rename_i l0 hl0
    have hti:TI P t inf.size inf.bytes z:=⟨inf,hi,rfl,rfl,hz⟩
    split at h
    ·rename_i fs hu
     split at h
     ·rename_i l hpl hl
      split at h
      ·rename_i hpb
       refine .y h (Al.Cy fun η H O a hx _=>?_) fun _ _=>CT hpb
       have hz0:=HJ (C:=C) (η:=η) (H:=H) hl0
       obtain⟨cs,g1,g2⟩:=Kt (a:=a) hl hz0 (hop hx)
       obtain⟨pl,hpl⟩:=Option.isSome_iff_exists.1 hpl
       refine⟨.agg cs.toArray,?_,V' g2⟩
       rw[ho]
       refine Am.iW (vcs:=_) (zs:=z.cells) hpl hti rf (Hu ps) rf ?_
       rw[<-fill_eq]
       unfold placesOf at hpl
       rw[hu]at hpl
       have e:(fun i=>pl[i]?)=fun i=>(mF P fs.toList i).map fun q=>(q.1,q.2.1):=funext fun i=>J4 _ _ hpl i
       rw[e]
       simpa using g1
      ·cases h
     ·cases h
    ·rename_i len e hu
     split at h
     ·rename_i ie hie
      split at h
      ·rename_i l hez hl
       split at h
       ·rename_i hpb
        refine .y h (Al.Cy fun η H O a hx _=>?_) fun _ _=>CT hpb
        have hz0:=HJ (C:=C) (η:=η) (H:=H) hl0
        obtain⟨cs,g1,g2⟩:=Kt (a:=a) hl hz0 (hop hx)
        obtain⟨ez,hez⟩:=Option.isSome_iff_exists.1 hez
        refine⟨.agg cs.toArray,?_,V' g2⟩
        rw[ho]
        refine Am.iZ (zs:=z.cells) hu hti ⟨ie,hie,rf,rf,hez⟩ rfl (Hu ps) ?_
        simpa using g1
       ·cases h
      ·cases h
     ·cases h
    ·cases h
   ·cases h
  ·cases h
 ·cases h
def Xc(C:List (SV N.T)):Nat->SV N.T->Nat->Option (SV N.T)
 |0,_,_=>none
 |fu+1,l,n=>match Nat.beq n 0 with
  |true=>some .nl
  |false=>match l with
   | .lf s a r=>match Nat.ble s n with
    |true=>(Xc C fu r (n-s)).map (.lf s (res C a))
    |false=>none
   |_=>none
theorem Ql{η:Nat->Value}{H:Hp} :∀ {fu:Nat} {l r:SV N.T} {n:Nat} {cs:List Value},Xc C fu l n=some r->l.is C η H (.agg cs.toArray)->r.is C η H (.agg (cs.take n).toArray)/\n<=cs.length
 |0,_,_,_,_,h,_=>by cases h
 |fu+1,l,r,n,cs,h,hl=>by
  unfold Xc at h
  split at h
  ·rename_i hb
   have:=Nat.eq_of_beq_eq_true hb;subst this
   cases h
   exact⟨by rw[List.take_zero];exact Ls,Nat.zero_le _⟩
  ·split at h
   ·rename_i s a q
    split at h
    ·rename_i hb
     obtain⟨r',h1,rfl⟩:=Option.map_eq_some_iff.1 h
     have hb:=Nat.le_of_ble_eq_true hb
     obtain⟨c1,c2,u,rfl,h2,h3,h4,h5,h6⟩:=En hl
     obtain⟨k1,k2⟩:=Ql h1 h6
     have:=IG (s:=s) (DN h3) (by rw[h4];exact h2) (by rw[h4];exact h5) k1
     rw[h4]at this
     refine⟨?_,by simp;omega⟩
     rw[List.take_append,List.take_of_length_le (by omega),h2]
     exact this
    ·cases h
   ·cases h
def o4(P:Program)(t:TypeId):Bool:=match P.underlying t with
 |some d=>C5 d
 |none=>false
def gw(P:Program)(C:List (SV N.T))(nk:Nat)(b off:Nat)(l:SV N.T)(t:TypeId)(k:A_ N.T->Nat->Option R):Option R:=match P.underlying t,P.info? t with
 |some d,some inf=>match C5 d&&inf.zero.isSome,Om N 64 l off with
  |true,some l1=>match Xc C 64 l1 inf.size with
   |some (.lf s a l2)=>k ⟨.lf s a l2,[b],[]⟩ nk
   |_=>none
  |_,_=>none
 |_,_=>none
def X7(P:Program)(C:List (SV N.T))(S:Nat->SV N.T)(Rr:Nat->Option (SR N.T))(nk:Nat)(t:TypeId)(x:Operand)(k:A_ N.T->Nat->Option R):Option R:=match Ap S x with
 | .loc b off=>match Rr b with
  |some (.Af _ l)=>match o4 P t with
   |false=>n7 P C S Rr nk t x k
   |true=>match DR N C l off (Jc N P t)with
    |some (.d _ _)=>n7 P C S Rr nk t x k
    |_=>gw P C nk b off l t k
  |_=>none
 |_=>n7 P C S Rr nk t x k
theorem Uv{t:TypeId}{x:Operand}(ho:o.op= .load t x)(hW:∃τ,KP Rr S τ)(h:X7 P C S Rr nk t x k=some r):AL P C S Rr nk o k r:=by
 have hop:∀ {η:Nat->Value} {H:Hp} {a:Act},(∀x∈o.op.operands,(Ap S x).is C η H (a.eval x))->(Ap S x).is C η H (a.eval x):=fun hx=>hx x (by rw[ho];simp[Op.operands])
 unfold X7 at h
 split at h
 ·rename_i b off hs
  split at h
  ·rename_i g l hb
   have fin:gw P C nk b off l t k=some r->AL P C S Rr nk o k r:=fun h=>by
    unfold gw at h
    split at h
    ·rename_i d inf hd hi
     split at h
     ·rename_i l1 hz hl1
      split at h
      ·rename_i s a l2 hl2
       rw[Bool.and_eq_true]at hz
       obtain⟨z,hz2⟩:=Option.isSome_iff_exists.1 hz.2
       refine .y h (Al.Cy fun η H O ac hx hr=>?_) fun _ _=>trivial
       obtain⟨B,e1,e2⟩:(SV.loc b off:SV N.T).is C η H (ac.eval x):=by rw[<-hs];exact hop hx
       rcases hr b (by simp) _ hb with e|⟨X,i,h1,B',cs,e3,e4,h2⟩
       ·cases e
       rw[e1]at e3
       have e3:B=B':=by simpa [ptr]using e3
       subst e3;subst e4
       obtain⟨k1,k2⟩:=Kx (cs:=cs.toList) hl1 h2
       obtain⟨k3,k4⟩:=Ql hl2 k1
       have hlen:((cs.toList.drop off).take inf.size).length=inf.size:=by rw[List.length_take];exact Nat.min_eq_left k4
       refine⟨.agg ((cs.toList.drop off).take inf.size).toArray,?_,k3⟩
       rw[ho]
       exact Am.U1 hd hz.1 (by rw[hlen];exact⟨inf,hi,rf,rf,hz2⟩) (congrArg some e2) h1 (by rw[hlen])
      ·cases h
     ·cases h
    ·cases h
   split at h
   ·exact Uw ho hW h
   ·split at h
    ·exact Uw ho hW h
    ·exact fin h
  ·cases h
 ·exact Uw ho hW h
end
end Go.GV
namespace Go.GV
open Go Go.GK
def Gm(Y:List (Nat×Ao))(k k':Nat)(r:Ao):List (Nat×Ao):=Y.map fun p=>match Nat.beq p.1 k with
 |true=>(k',r)
 |false=>p
theorem UI(Y:List (Nat×Ao))(k k':Nat)(r:Ao):(Gm Y k k' r).map (·.2)=(Gj Y k r).map (·.2):=by
 unfold Gm Gj
 rw[List.map_map,List.map_map]
 refine List.map_congr_left fun p _=>?_
 simp only[Function.comp]
 cases Nat.beq p.1 k<;>rfl
theorem Lu{Y:List (Nat×Ao)}{k k':Nat}{r:Ao}{j:Nat}(h:j∈keys (Gm Y k k' r)):j=k'\/(j∈keys Y/\j≠k):=by
 unfold keys Gm at h
 rw[List.map_map]at h
 obtain⟨p,hp,e⟩:=List.mem_map.1 h
 simp only[Function.comp]at e
 cases hb:Nat.beq p.1 k with
 |true=>rw[hb]at e;exact .inl e.symm
 |false=>rw[hb]at e;subst e;exact .inr ⟨List.mem_map.2 ⟨p,hp,rfl⟩,Nat.ne_of_beq_eq_false hb⟩
theorem XV{Y:List (Nat×Ao)}{k k':Nat}{r:Ao}(hn:(keys Y).Nodup)(hk:k'∉keys Y):(keys (Gm Y k k' r)).Nodup:=by
 induction Y with
 |nil=>exact hn
 |cons p Y ih=>
  obtain⟨q,y⟩:=p
  simp only[keys,List.map_cons,List.nodup_cons,List.mem_cons,not_or]at hn hk
  have ih:=ih hn.2 hk.2
  have tail:∀j,j∈keys (Gm Y k k' r)->j=k'->k∈keys Y:=fun j hj e=>by
   unfold keys Gm at hj
   rw[List.map_map]at hj
   obtain⟨p,hp,e2⟩:=List.mem_map.1 hj
   simp only[Function.comp]at e2
   cases hb:Nat.beq p.1 k with
   |true=>rw[<-Nat.eq_of_beq_eq_true hb];exact List.mem_map.2 ⟨p,hp,rfl⟩
   |false=>rw[hb]at e2;exact absurd (List.mem_map.2 ⟨p,hp,e2.trans e⟩) hk.2
  show(keys ((match Nat.beq q k with|true=>(k',r)|false=>(q,y))::Gm Y k k' r)).Nodup
  cases hb:Nat.beq q k with
  |true=>
   have:=Nat.eq_of_beq_eq_true hb;subst this
   exact List.nodup_cons.2 ⟨fun hm=>hn.1 (tail _ hm rf),ih⟩
  |false=>
   refine List.nodup_cons.2 ⟨fun hm=>?_,ih⟩
   rcases Lu hm with e|⟨e,_⟩
   ·exact hk.1 e.symm
   ·exact hn.1 e
theorem UJ{Y:List (Nat×Ao)}{k k':Nat}{r x:Ao}(h:An Y k=some x)(hk:k'∉keys Y):An (Gm Y k k' r) k'=some r:=by
 induction Y with
 |nil=>cases h
 |cons p Y ih=>
  obtain⟨q,y⟩:=p
  simp only[keys,List.map_cons,List.mem_cons,not_or]at hk
  simp only[An]at h
  show An ((match Nat.beq q k with|true=>(k',r)|false=>(q,y))::Gm Y k k' r) k'=some r
  cases hb:Nat.beq q k with
  |true=>exact Dj _ _ _
  |false=>
   rw[hb]at h
   show An ((q,y)::Gm Y k k' r) k'=some r
   rw[AR (fun e=>hk.1 e.symm)]
   exact ih h hk.2
theorem XU{Y:List (Nat×Ao)}{k k' j:Nat}{r:Ao}(h1:j≠k)(h2:j≠k'):An (Gm Y k k' r) j=An Y j:=by
 induction Y with
 |nil=>rfl
 |cons p Y ih=>
  obtain⟨q,y⟩:=p
  show An ((match Nat.beq q k with|true=>(k',r)|false=>(q,y))::Gm Y k k' r) j=An ((q,y)::Y) j
  cases hb:Nat.beq q k with
  |true=>
   have:=Nat.eq_of_beq_eq_true hb;subst this
   show An ((k',r)::Gm Y q k' r) j=An ((q,y)::Y) j
   rw[AR (Ne.symm h2),AR (Ne.symm h1)];exact ih
  |false=>
   show An ((q,y)::Gm Y k k' r) j=An ((q,y)::Y) j
   simp only[An]
   cases Nat.beq q j<;>first|rfl|exact ih
section
variable {N : Cw} {R : Type} {P : Program} {C : List (SV N.T)} {S : Nat -> SV N.T} {Rr : Nat -> Option (SR N.T)} {nk : Nat} {o : Oper} {k : A_ N.T -> Nat -> Option R} {r : R}
theorem Al.UB{sv:SV N.T}{rd:List Nat}{k k':Nat}{s0 s1:SR N.T}(hk:Rr k=some s0)(h0:s0≠ .gone)(hk':Rr k'=none)
  (h:∀(η:Nat->Value) (H:Hp) (O:List Ao) (a:Act) (x:Ao) (i:Nat),(∀x∈o.op.operands,(Ap S x).is C η H (a.eval x))->O[i]?=some x->s0.is C η H k x->(∀k∈rd,∀sr,Rr k=some sr->sr= .gone\/∃(x:Ao) (i:Nat),O[i]?=some x/\sr.is C η H k x)->
   Bl P o.op o.type (EV a) H O (fun v H' O'=>H'=H/\∃x' b,O'=O.set i x'/\s1.is C (DF η k' b) H k' x'/\sv.is C (DF η k' b) H v)):
  Al P C S Rr o ⟨sv,rd,[(k',s1),(k, .gone)]⟩:=by
 intro η H Of a w Y hn hs hi hx hr hfresh K Q hK
 have hkY:=hfresh k' (by simp[keys]) hk'
 rcases hr k (.inr (by simp[keys])) s0 hk with e|⟨x,g1,g2⟩
 ·exact absurd e h0
 obtain⟨i,g3,g4⟩:=GJ Of hn g1
 refine h η H (Y.map (·.2)++Of) a x i hx g3 g2 (fun j hj sr hsr=>(hr j (.inl hj) sr hsr).imp id fun⟨x,q1,q2⟩=>by
  obtain⟨i,q3,_⟩:=GJ Of hn q1
  exact⟨x,i,q3,q2⟩) a w o K Q rf rf (fun x u e=>by simpa using e) hs fun v w' H' O' hle ⟨e1,x',b,e2,e3,e4⟩ hw'=>?_
 subst e1;subst e2
 rw[g4,<-UI Y k k']at hw'
 refine hK v w' H' (DF η k' b) (Gm Y k k' x') (Hp.le.refl _) (fun j hj=>E4 fun e=>?_) (fun j hj=>XU (fun e=>hj (by subst e;simp[keys])) (fun e=>hj (by subst e;simp[keys]))) (fun j sr hj=>?_) (XV hn hkY) (fun j hj=>?_) hw' e4
 ·subst e;exact hj hk' (by simp[keys])
 ·simp only[An]at hj
  split at hj
  ·rename_i hb
   have:=Nat.eq_of_beq_eq_true hb;subst this;cases hj
   exact .inr ⟨x',UJ g1 hkY,e3⟩
  ·split at hj
   ·cases hj;exact .inl rfl
   ·cases hj
 ·rcases Lu hj with e|⟨e,_⟩
  ·subst e;exact .inr (by simp[keys])
  ·exact .inl e
theorem AL.uA{sv:SV N.T}{rd:List Nat}{b:Nat}{s0 s1:SR N.T}(h:k ⟨sv,rd,[(nk,s1),(b, .gone)]⟩ (nk+1)=some r)(h0:Rr b=some s0)(hl:Al P C S Rr o ⟨sv,rd,[(nk,s1),(b, .gone)]⟩)(hw:∀τ Rr,CD τ Rr sv):AL P C S Rr nk o k r:=
 ⟨_,nk+1,h,hl,Nat.le_succ _,fun j hj hn=>(by
  simp[keys]at hj
  rcases hj with e|e
  ·subst e;omega
  ·subst e;rw[h0]at hn;cases hn),fun τ _=>hw τ _⟩
def KD(P:Program)(e:TypeId):Nat:=match P.info? e with
 |some inf=>match Nat.ble inf.bytes 64 with
  |true=>Ak
  |false=>4294967296
 |none=>4294967296
def Dx(P:Program)(e:TypeId)(n:Nat):Bool:=match P.info? e with
 |some inf=>match inf.zero with
  |some z=>(Nat.beq inf.size n&&Nat.beq z.cells.size n)&&(Nat.ble inf.bytes 16384&&(Nat.blt 0 n&&Nat.ble n 16777216))
  |none=>false
 |none=>false
theorem Dh{e n:Nat}(h:Dx P e n=true):∃bytes z,TI P e n bytes z/\z.cells.size=n/\0<n/\(∀m,m<=KD P e->m<=Ak/\m*bytes<=70368744177664)/\n<=16777216:=by
 unfold Dx at h
 split at h
 ·rename_i inf hi
  split at h
  ·rename_i z hz
   simp only[Bool.and_eq_true]at h
   obtain⟨⟨h1,h2⟩,h3,h4,h5⟩:=h
   refine⟨inf.bytes,z,⟨inf,hi,Nat.eq_of_beq_eq_true h1,rf,hz⟩,Nat.eq_of_beq_eq_true h2,by simpa using h4,fun m hm=>?_,by simpa using h5⟩
   unfold KD at hm
   rw[hi]at hm
   simp only at hm
   have h3:inf.bytes<=16384:=Nat.le_of_ble_eq_true h3
   split at hm
   ·rename_i hb
    have:=Nat.mul_le_mul hm (Nat.le_of_ble_eq_true hb)
    simp only[Ak]at*
    omega
   ·have:=Nat.mul_le_mul hm h3
    simp only[Ak]at*
    omega
  ·cases h
 ·cases h
theorem Bl.Fx{op:Op}{T:TypeId}{E:Operand->Option Value}{H:Hp}{O:List Ao}{e:TypeId}{size:Nat}{X:Value->Hp->List Ao->Prop}(h:Bl P op T E H (.row (.slice none 0 0) e size 0 []::O) X):Bl P op T E H O X:=
 fun a w o next Q ho hT he hw k=>h a w o next Q ho hT he (hw.Fx e size) k
theorem Bl.emp{op:Op}{T:TypeId}{E:Operand->Option Value}{H:Hp}{O:List Ao}{X:Value->Hp->List Ao->Prop}(h:Bl P op T E H (.emp::O) X):Bl P op T E H O X:=
 fun a w o next Q ho hT he hw k=>h a w o next Q ho hT he (hw.push (World.grownBy.refl w none) trivial (fun b hb=>by cases hb)) k
def R2(S:Nat->SV N.T)(Rr:Nat->Option (SR N.T))(te:Ty)(x:Operand):Option (List (te.den N.T)×List Nat):=match Ap S x with
 | .Az j=>match Rr j with
  |some (.row _ t2 l2)=>(LP N.T (.sl t2) (.sl te)).map fun f=>(f l2,[j])
  |_=>none
 | .d (.sl t2) l2=>(LP N.T (.sl t2) (.sl te)).map fun f=>(f l2,[])
 |_=>none
theorem Jd{te:Ty}{x:Operand}{l2:List (te.den N.T)}{rd:List Nat}(h:R2 S Rr te x=some (l2,rd)){η:Nat->Value}{H:Hp}{O:List Ao}{a:Act}(hx:(Ap S x).is C η H (a.eval x))(hr:∀k∈rd,∀sr,Rr k=some sr->sr= .gone\/∃(x:Ao) (i:Nat),O[i]?=some x/\sr.is C η H k x):
  ∃ys,AM (N.c te) H l2 ys/\∀w,SH w H O->GK.Src w (a.eval x) (te.sz N) l2.length ys:=by
 unfold R2 at h
 split at h
 ·rename_i j hs
  rw[hs]at hx
  split at h
  ·rename_i g t2 l hj
   obtain⟨f,hf,e⟩:=Option.map_eq_some_iff.1 h
   cases e
   obtain⟨he,rfl⟩:=Bg hf
   have ee:=Ty.Bc he
   have e2:t2=te:=by injection ee
   subst e2
   rcases hr j (by simp) _ hj with e|⟨X,i,h1,ys,e3,hL⟩
   ·cases e
   subst e3
   rw[<-hx.1]at h1
   exact⟨ys,hL,fun w hs=>hs.ek h1⟩
  ·cases h
 ·rename_i t2 l hs
  rw[hs]at hx
  obtain⟨f,hf,e⟩:=Option.map_eq_some_iff.1 h
  cases e
  obtain⟨he,rfl⟩:=Bg hf
  have ee:=Ty.Bc he
  have e2:t2=te:=by injection ee
  subst e2
  obtain⟨cs,h1,h2⟩:=hx
  have h2:cs=[_]:=h2
  subst h2
  obtain⟨v,hv,h1⟩:∃v,[a.eval x]=[v]/\Fa (N.c t2) H l v:=h1
  cases hv
  obtain⟨⟨ys,g1,g2⟩,_⟩:=h1
  rw[A5]at g1
  exact⟨ys,g2,fun w hs=>hs.O5 g1⟩
 ·cases h
def jt(P:Program)(S:Nat->SV N.T)(Rr:Nat->Option (SR N.T))(nk:Nat)(s x:Operand)(t:TypeId)(k:A_ N.T->Nat->Option R):Option R:=match P.underlying t with
 |some (.slice e)=>match Ap S s with
  | .Az b=>match Rr b with
   |some (.row g te l)=>match Nat.beq g e&&Dx P e (te.sz N),R2 S Rr te x with
    |true,some (l2,rd)=>Ah (l.length+l2.length<=KD P e) (k ⟨.Az nk,rd,[(nk, .row g te (l++l2)),(b, .gone)]⟩ (nk+1))
    |_,_=>none
   |_=>none
  | .raw (.slice none 0 0)=>match Jc N P e with
   |some te=>match Dx P e (te.sz N),R2 S Rr te x with
    |true,some (l2,rd)=>Ah (([]:List (te.den N.T)).length+l2.length<=KD P e) (k ⟨.Az nk,rd,[(nk, .row e te ([]++l2))]⟩ (nk+1))
    |_,_=>none
   |none=>none
  |_=>none
 |_=>none
theorem M7{s x:Operand}{t e:TypeId}{T:TypeId}{a:Act}{te:Ty}{l l2:List (te.den N.T)}{xs ys:List Value}{H:Hp}{O:List Ao}{i:Nat}{v:Value}(ht:P.underlying t=some (.slice e))(hI:Dx P e (te.sz N)=true)(hs:a.eval s=v)
  (hi:O[i]?=some (.row v e (te.sz N) l.length xs)) (hL:AM (N.c te) H l xs) (hy:AM (N.c te) H l2 ys) (hsrc:∀w,SH w H O->GK.Src w (a.eval x) (te.sz N) l2.length ys) (hc:l.length+l2.length<=KD P e):
  Bl P (.call {callee:= .builtin .append,args:= #[s,x],argTypes:= #[t,t]}) T (EV a) H O (fun v' H' O'=>(H'=H/\O'=O.set i (.row v' e (te.sz N) (l++l2).length (xs++ys)))/\v'.oneCell'=true):=by
 obtain⟨bytes,z,hz,hzs,h0,hb,_⟩:=Dh hI
 obtain⟨hc,hbm⟩:=hb _ hc
 have hlt:i<O.length:=(List.getElem?_eq_some_iff.1 hi).1
 refine Bl.ET i ((Bl.append ht hz hzs h0 (congrArg some hs) rf hi hsrc hy.one (by omega) (by simp only[Ak]at hc;omega)).mono ?_) ?_
 ·rintro v' H' O' ⟨rfl,rfl⟩
  exact⟨rf,by rw[List.length_append]⟩
 ·rintro v' H' O' ⟨rfl,rfl⟩
  exact⟨e,_,_,_,by rw[List.getElem?_set_self hlt]⟩
theorem fP{s x:Operand}{t:TypeId}(ho:o.op= .call {callee:= .builtin .append,args:= #[s,x],argTypes:= #[t,t]})(hf:∀j,nk<=j->Rr j=none)(h:jt P S Rr nk s x t k=some r):AL P C S Rr nk o k r:=by
 have hos:∀ {η:Nat->Value} {H:Hp} {a:Act},(∀x∈o.op.operands,(Ap S x).is C η H (a.eval x))->(Ap S s).is C η H (a.eval s):=fun hx=>hx s (by rw[ho];simp[Op.operands,Call.operands])
 have hox:∀ {η:Nat->Value} {H:Hp} {a:Act},(∀x∈o.op.operands,(Ap S x).is C η H (a.eval x))->(Ap S x).is C η H (a.eval x):=fun hx=>hx x (by rw[ho];simp[Op.operands,Call.operands])
 unfold jt at h
 split at h
 ·rename_i e ht
  split at h
  ·rename_i b hs
   split at h
   ·rename_i g te l hb
    split at h
    ·rename_i l2 rd hI hsrc
     replace h:=AF h
     obtain⟨hc,h⟩:=h
     rw[Bool.and_eq_true]at hI
     have e1:=Nat.eq_of_beq_eq_true hI.1;subst e1
     refine .uA h hb (Al.UB hb (by simp) (hf nk (Nat.le_refl _)) fun η H O a X i hx h1 h2 hr=>?_) fun _ _=>trivial
     obtain⟨xs,e3,hL⟩:=h2
     subst e3
     have hv:=hos hx
     rw[hs]at hv
     obtain⟨ys,hy,hsr⟩:=Jd hsrc (hox hx) hr
     rw[ho]
     refine(M7 ht hI.2 hv.1 h1 hL hy hsr hc).mono ?_
     rintro v' H' O' ⟨⟨rfl,rfl⟩,h3⟩
     exact⟨rf,_,v',rf,⟨_,by rw[Ar],hL.app hy⟩,by rw[Ar],h3⟩
    ·cases h
   ·cases h
  ·rename_i hs
   split at h
   ·rename_i te ht2
    split at h
    ·rename_i l2 rd hI hsrc
     replace h:=AF h
     obtain⟨hc,h⟩:=h
     refine .new h (Al.E7 (hf nk (Nat.le_refl _)) fun η H O a hx hr=>?_) fun _ _=>trivial
     have hv:=hos hx
     rw[hs]at hv
     obtain⟨ys,hy,hsr⟩:=Jd hsrc (hox hx) hr
     rw[ho]
     refine Bl.Fx ((M7 (i:=0) (l:=[]) (xs:=[]) ht hI hv rf rf hy (fun w hs=>hsr w ?_) hc).mono ?_)
     ·have:=hs.VD 1;simpa using this
     ·rintro v' H' O' ⟨⟨rfl,rfl⟩,h3⟩
      exact⟨rf,_,v',rf,⟨[]++ys,by rw[Ar],AM.app (c:=N.c te) (l:=[]) (xs:=[]) rf hy⟩,by rw[Ar],h3⟩
    ·cases h
   ·cases h
  ·cases h
 ·cases h
theorem UL{t e:TypeId}{T:TypeId}{a:Act}{te:Ty}{x:te.den N.T}{p q:Operand}{kl kc:IntKind}{m bytes:Nat}{z:Value}{H:Hp}{O:List Ao}(ht:P.underlying t=some (.slice e))(hz:TI P e (te.sz N) bytes z)(hb:∀m,m<=KD P e->m<=Ak/\m*bytes<=70368744177664)(h0:0<te.sz N)(hl:a.eval p= .int kl (m:Int))(hc:a.eval q= .int kc (m:Int))
  (hm:m<=KD P e) (hlay:(N.c te).Bm H x z.cells.toList):
  Bl P (.makeSlice t p q) T (EV a) H O (fun v H' O'=>(H'=H/\∃xs,O'= .row v e (te.sz N) (List.replicate m x).length xs::O/\AM (N.c te) H (List.replicate m x) xs)/\v.oneCell'=true):=by
 refine Bl.ET 0 (.Aj fun a' w o ho _ he hs=>?_) ?_
 ·obtain⟨i,hi,g1,g2,g3⟩:=hz.ex
  obtain⟨hm,hbm⟩:=hb _ hm
  rw[Nat.mul_comm]at hbm
  obtain⟨w',hr,k1,k2⟩:=run_make_full (P:=P) (w:=w) 0 t e i z (te.sz N) ht hi g3 g1 kl kc m (by rw[g2];omega) (by simp only[maxLen,Ak]at*;omega) (Nat.zero_le _)
  have hL:AM (N.c te) H (List.replicate m x) (madeCells z.cells (m*te.sz N)).toList:=by
   have:=AM.rep hlay (by rw[A5];exact h0) m
   rwa [A5]at this
  refine⟨_,w',H,_,?_,Hp.le.refl H,⟨rf,_,by rw[List.length_replicate],hL⟩,hs.push (r:= .row (.slice (some ⟨w.heap.size,0,none⟩) m m) e (te.sz N) m (madeCells z.cells (m*te.sz N)).toList) k2 k1 (fun b hb=>by simp[Ao.has,Value.ownBlock]at hb;omega)⟩
  simp[execOp,ho,he p _ (congrArg some hl),he q _ (congrArg some hc),hr]
 ·rintro v H' O' ⟨rfl,xs,rfl,_⟩
  exact⟨e,_,_,_,rf⟩
def uy(y:Int)(k:Nat->Option R):Option R:=Ah (0<=y) (k y.toNat)
def XS(s:SV N.T)(k:Nat->Option R):Option R:=match s with
 | .na n| .ct _ n| .cb _ n=>k n
 | .raw (.int _ (.ofNat n))=>k n
 | .d (.int _) y=>uy y k
 |_=>none
theorem Lt{s:SV N.T}{kk:Nat->Option R}(h:XS s kk=some r):∃n,kk n=some r/\∀ {η:Nat->Value} {H:Hp} {v:Value},s.is C η H v->∃ik,v= .int ik (n:Int):=by
 unfold XS at h
 split at h
 ·exact⟨_,h,fun hs=>⟨_,hs.1⟩⟩
 ·exact⟨_,h,fun hs=>⟨_,hs.1⟩⟩
 ·exact⟨_,h,fun hs=>⟨_,hs.1⟩⟩
 ·exact⟨_,h,fun hs=>⟨_,hs⟩⟩
 ·rename_i ik y
  obtain⟨h1,h2⟩:=AF (p:=(0:Int)<=(show Int from y)) h
  refine⟨_,h2,fun hs=>⟨ik,?_⟩⟩
  have e:=AP (C:=C) (s:= .d (.int ik) y) rfl hs
  rw[e,Int.toNat_of_nonneg h1]
 ·cases h
def rX(P:Program)(S:Nat->SV N.T)(nk:Nat)(t:TypeId)(p q:Operand)(k:A_ N.T->Nat->Option R):Option R:=match P.underlying t with
 |some (.slice e)=>match Jc N P e,P.info? e with
  |some te,some inf=>match inf.zero with
   |some z=>match parse N 16 te z.cells.toList,Dx P e (te.sz N),sameO p q with
    |some (x,[]),true,true=>XS (Ap S p) fun m=>Ah (m<=KD P e) (k ⟨.Az nk,[],[(nk, .row e te (List.replicate m x))]⟩ (nk+1))
    |_,_,_=>none
   |none=>none
  |_,_=>none
 |_=>none
 where
 sameO:Operand->Operand->Bool
  | .tmp i, .tmp j=>Nat.beq i j
  | .const (.int _ i), .const (.int _ j)=>match i,j with
   | .ofNat i, .ofNat j=>Nat.beq i j
   |_,_=>false
  |_,_=>false
theorem nM{t:TypeId}{p q:Operand}(ho:o.op= .makeSlice t p q)(hf:∀j,nk<=j->Rr j=none)(h:rX P S nk t p q k=some r):AL P C S Rr nk o k r:=by
 have hop:∀ {η:Nat->Value} {H:Hp} {a:Act},(∀x∈o.op.operands,(Ap S x).is C η H (a.eval x))->(Ap S p).is C η H (a.eval p):=fun hx=>hx p (by rw[ho];simp[Op.operands])
 unfold rX at h
 split at h
 ·rename_i e ht
  split at h
  ·rename_i te inf hte hi
   split at h
   ·rename_i z hz
    split at h
    ·rename_i x hpz hI hpq
     obtain⟨m,h,hm⟩:=Lt (C:=C) h
     replace h:=AF h
     obtain⟨hc,h⟩:=h
     obtain⟨bytes,z',hti,_,h0,hb,_⟩:=Dh hI
     refine .new h (Al.E7 (hf nk (Nat.le_refl _)) fun η H O a hx hr=>?_) fun _ _=>trivial
     obtain⟨ik,hv⟩:=hm (hop hx)
     have hv2:∃ik',a.eval q= .int ik' (m:Int):=by
      unfold rX.sameO at hpq
      split at hpq
      ·rename_i i j
       have:=Nat.eq_of_beq_eq_true hpq;subst this;exact⟨ik,hv⟩
      ·split at hpq
       ·rename_i i j
        have:=Nat.eq_of_beq_eq_true hpq;subst this
        have hv:Value.int _ _=Value.int ik (m:Int):=hv
        injection hv with h1 h2
        exact⟨_,by show Value.int _ _=_;rw[h2]⟩
       ·cases hpq
      ·cases hpq
     obtain⟨ik',hv2⟩:=hv2
     obtain⟨i',g0,g1,g2,g3⟩:=hti.ex
     have e1:i'=inf:=by rw[hi]at g0;exact(Option.some.inj g0).symm
     subst e1
     have e2:z'=z:=by rw[hz]at g3;exact(Option.some.inj g3).symm
     subst e2
     obtain⟨pre,e3,hlay⟩:=B_ (H:=H) hpz
     rw[List.append_nil]at e3
     rw[ho]
     refine(UL ht hti hb h0 hv hv2 hc (by rw[e3];exact hlay)).mono ?_
     rintro v H' O' ⟨⟨rfl,xs,rfl,hL⟩,h3⟩
     exact⟨rf,_,v,rf,⟨xs,by rw[Ar],hL⟩,by rw[Ar],h3⟩
    ·cases h
   ·cases h
  ·cases h
 ·cases h
def YF(C:List (SV N.T))(S:Nat->SV N.T)(te:Ty):Nat->List (Nat×Operand)->Option (List (te.den N.T))
 |_,[]=>some []
 |i,(j,x)::ps=>match Nat.beq i j,OV C te (Ap S x),YF C S te (i+1) ps with
  |true,some y,some l=>some (y::l)
  |_,_,_=>none
theorem Rk{te:Ty}{n:Nat}(hn:te.sz N=n){η:Nat->Value}{H:Hp}{a:Act} :∀ {ps:List (Nat×Operand)} {i:Nat} {l:List (te.den N.T)} {cs:List Value},YF C S te i ps=some l->(∀p∈ps,(Ap S p.2).is C η H (a.eval p.2))->cs.length=(i+ps.length)*n->
  ∃xs,Instr.fill (fun i=>some (i*n,n)) cs.toArray (ps.map fun p=>(p.1,a.eval p.2))=some (cs.take (i*n)++xs).toArray/\AM (N.c te) H l xs/\l.length=ps.length
 | [],i,l,cs,h,_,hc=>by
  cases h
  refine⟨[],?_,rf,rf⟩
  simp only[List.map_nil,Instr.fill,List.append_nil]
  rw[List.take_of_length_le (by simpa using Nat.le_of_eq hc)]
 |(j,x)::ps,i,l,cs,h,hp,hc=>by
  unfold YF at h
  split at h
  ·rename_i y l' hb hy hl
   cases h
   have e:=Nat.eq_of_beq_eq_true hb;subst e
   obtain⟨k1,k2⟩:=Ct (CC hy (hp (i,x) (by simp)))
   have hlen:=AX k1
   rw[hn]at hlen
   simp only[List.length_cons]at hc
   have hle:i*n+n<=cs.length:=by rw[hc,<-Nat.succ_mul];exact Nat.mul_le_mul_right _ (by omega)
   have hs:(BZ cs (i*n) (a.eval x).cells.toList).length=(i+1+ps.length)*n:=by
    unfold BZ
    simp only[List.length_append,List.length_take,List.length_drop,hlen]
    have:(i+1+ps.length)*n=(i+(ps.length+1))*n:=by rw[Nat.add_assoc,Nat.add_comm 1]
    omega
   obtain⟨xs,g1,g2,g3⟩:=Rk hn hl (fun p hp'=>hp p (by simp[hp'])) hs
   refine⟨(a.eval x).cells.toList++xs,?_,⟨_,xs,rf,k1,g2⟩,by simp[g3]⟩
   rw[List.map_cons,Ie (off:=i*n) (size:=n) rfl (by simpa using hlen) (by simp at hlen⊢;omega)]
   rw[g1]
   congr 2
   rw[<-List.append_assoc]
   congr 1
   unfold BZ
   rw[List.take_append_of_le_length (by simp[hlen,Nat.succ_mul];omega),List.take_of_length_le (by simp[hlen,Nat.succ_mul];omega)]
  ·cases h
def u6(P:Program)(C:List (SV N.T))(S:Nat->SV N.T)(nk:Nat)(t:TypeId)(len:Nat)(ps:List (Nat×Operand))(k:A_ N.T->Nat->Option R):Option R:=match P.underlying t with
 |some (.slice e)=>match Jc N P e with
  |some te=>match Dx P e (te.sz N),Nat.beq ps.length len&&(Nat.blt 0 len&&Nat.ble (len*te.sz N) 16777216),YF C S te 0 ps with
   |true,true,some l=>k ⟨.Az nk,[],[(nk, .row e te l)]⟩ (nk+1)
   |_,_,_=>none
  |none=>none
 |_=>none
theorem nP{t:TypeId}{len:Nat}{ps:List (Nat×Operand)}(ho:o.op= .buildSlice t len ps.toArray)(hf:∀j,nk<=j->Rr j=none)(h:u6 P C S nk t len ps k=some r):AL P C S Rr nk o k r:=by
 have hop:∀ {η:Nat->Value} {H:Hp} {a:Act},(∀x∈o.op.operands,(Ap S x).is C η H (a.eval x))->∀p∈ps,(Ap S p.2).is C η H (a.eval p.2):=fun hx p hp=>hx p.2 (by rw[ho];simp[Op.operands];exact⟨p.1,hp⟩)
 unfold u6 at h
 split at h
 ·rename_i e ht
  split at h
  ·rename_i te hte
   split at h
   ·rename_i l hI hb hl
    simp only[Bool.and_eq_true]at hb
    obtain⟨hb1,hb2,hb3⟩:=hb
    have e1:=Nat.eq_of_beq_eq_true hb1;subst e1
    obtain⟨bytes,z,hti,hzs,h0,hb,_⟩:=Dh hI
    refine .new h (Al.E7 (hf nk (Nat.le_refl _)) fun η H O a hx hr=>?_) fun _ _=>trivial
    have hlen:(((Array.range (ps.length*te.sz N)).map (z.cells[· %z.cells.size]!)).toList:List Value).length=(0+ps.length)*te.sz N:=by simp
    obtain⟨xs,g1,g2,g3⟩:=Rk (C:=C) (η:=η) (H:=H) (a:=a) rfl hl (hop hx) hlen
    rw[Nat.zero_mul,List.take_zero,List.nil_append,Array.toArray_toList]at g1
    have hxl:=g2.len
    rw[A5,g3]at hxl
    rw[ho]
    refine Bl.emp ((Bl.ET 0 (Bl.iX (ρ:=fun _=>undef) (i:=0) 0 ht hti rf (by simpa using hb3) (by simpa using Nat.mul_pos (by simpa using hb2) h0) (Hu ps) g1 (by rw[List.size_toArray];exact hxl) rf) ?_).mono ?_)
    ·rintro v H' O' ⟨rfl,rfl,h4⟩
     refine⟨e,te.sz N,ps.length,xs,?_⟩
     rw[h4];rfl
    ·rintro v H' O' ⟨⟨rfl,rfl,h4⟩,h3⟩
     rw[h4]
     exact⟨rf,_,v,rf,⟨xs,by rw[Ar,g3],g2⟩,by rw[Ar],h3⟩
   ·cases h
  ·cases h
 ·cases h
def iH(P:Program)(S:Nat->SV N.T)(Rr:Nat->Option (SR N.T))(nk:Nat)(t:TypeId)(x y:Operand)(k:A_ N.T->Nat->Option R):Option R:=match P.underlying t,Ap S x with
 |some (.slice e), .Az b=>match Rr b,intOf (Ap S y)with
  |some (.row g te l),some (_,h)=>match Nat.beq g e&&Dx P e (te.sz N)with
   |true=>Ah (0<=h/\h<=((l.length:Nat):Int)) (k ⟨.Az nk,[],[(nk, .row g te (l.take h.toNat)),(b, .gone)]⟩ (nk+1))
   |false=>none
  |_,_=>none
 |_,_=>none
theorem fD{t:TypeId}{x y:Operand}(ho:o.op= .slice t x none (some y) none)(hf:∀j,nk<=j->Rr j=none)(h:iH P S Rr nk t x y k=some r):AL P C S Rr nk o k r:=by
 have hox:∀ {η:Nat->Value} {H:Hp} {a:Act},(∀x∈o.op.operands,(Ap S x).is C η H (a.eval x))->(Ap S x).is C η H (a.eval x):=fun hx=>hx x (by rw[ho];simp[Op.operands])
 have hoy:∀ {η:Nat->Value} {H:Hp} {a:Act},(∀x∈o.op.operands,(Ap S x).is C η H (a.eval x))->(Ap S y).is C η H (a.eval y):=fun hx=>hx y (by rw[ho];simp[Op.operands])
 unfold iH at h
 split at h
 ·rename_i e b ht hs
  split at h
  ·rename_i g te l ik hh hb hi
   split at h
   ·rename_i hI
    replace h:=AF h
    obtain⟨hc,h⟩:=h
    rw[Bool.and_eq_true]at hI
    have e1:=Nat.eq_of_beq_eq_true hI.1;subst e1
    obtain⟨bytes,z,hti,hzs,h0,hbb,_⟩:=Dh hI.2
    refine .uA h hb (Al.UB hb (by simp) (hf nk (Nat.le_refl _)) fun η H O a X i hx h1 h2 hr=>?_) fun _ _=>trivial
    obtain⟨xs,e3,hL⟩:=h2
    subst e3
    have hv:=hox hx
    rw[hs]at hv
    have hy:=AP (C:=C) hi (hoy hx)
    rw[<-hv.1,<-A5]at h1
    have hlt:i<O.length:=(List.getElem?_eq_some_iff.1 h1).1
    rw[ho]
    refine(Bl.ET i (Bl.eA (c:=N.c te) (l:=l) ht (by rw[A5];exact hti) rf (congrArg some hy) h1 hc) ?_).mono ?_
    ·rintro v' H' O' ⟨rfl,rfl⟩
     exact⟨_,_,_,_,by rw[List.getElem?_set_self hlt]⟩
    ·rintro v' H' O' ⟨⟨rfl,rfl⟩,h3⟩
     have hT:=hL.take hh.toNat
     refine⟨rf,_,v',rf,⟨_,by rw[Ar,A5,List.length_take,Nat.min_eq_left (by omega)],?_⟩,by rw[Ar],h3⟩
     rw[A5]at hT;exact hT
   ·cases h
  ·cases h
 ·cases h
end
end Go.GV
namespace Go.GV
open Go Go.GK
section
variable {N : Cw} {R : Type} {P : Program} {C : List (SV N.T)} {S : Nat -> SV N.T} {Rr : Nat -> Option (SR N.T)} {nk : Nat} {o : Oper} {k : A_ N.T -> Nat -> Option R} {r : R}
theorem V8{t tn e:TypeId}{T:TypeId}{a:Act}{te:Ty}{x:te.den N.T}{p q:Operand}{kn kq:IntKind}{m bytes:Nat}{z:Value}{H:Hp}{O:List Ao}(ht:P.underlying t=some (.slice e))(htn:P.underlying tn=some (.int kn))(hz:TI P e (te.sz N) bytes z)(hzs:z.cells.size=te.sz N)(hm:m+1<=Ak)(hb:(m+1)*bytes<=140737488355328)
  (h0:0<te.sz N) (hp:a.eval p= .slice none 0 0) (hq:a.eval q= .int kq ((m+1:Nat):Int)) (hlay:(N.c te).Bm H x z.cells.toList):
  Bl P (.call {callee:= .builtin .append,args:= #[p,q],argTypes:= #[t,tn]}) T (EV a) H O (fun v H' O'=>(H'=H/\∃xs,O'= .row v e (te.sz N) (List.replicate (m+1) x).length xs::O/\AM (N.c te) H (List.replicate (m+1) x) xs)/\v.oneCell'=true):=by
 refine Bl.ET 0 (.Aj fun a' w o ho hT he hs=>?_) ?_
 ·obtain⟨i,hi,g1,g2,g3⟩:=hz.ex
  have hr:=Go.Lib.run_append_grow_zeros (P:=P) w t tn T e i z kq kn ht htn hi g3 none 0 0 [] (by simp[Builtin.firstCells]) (m+1) (by omega) (by omega) (by omega) (by simp only[Ak]at hm;omega) (by rw[g2];omega) (by simp[Builtin.nextslicecap];rw[g2];omega)
  have hL:AM (N.c te) H (List.replicate (m+1) x) (madeCells z.cells ((m+1)*te.sz N)).toList:=by
   have:=AM.rep hlay (by rw[A5];exact h0) (m+1)
   rwa [A5]at this
  have e1:Builtin.zeroCells z.cells (m+1)=madeCells z.cells ((m+1)*te.sz N):=by unfold Builtin.zeroCells madeCells;rw[hzs]
  have hge:=grownCap_ge w (0+(m+1)) 0 e
  have hle:=grownCap_le_maxLen w (0+(m+1)) 0 e (by simp only[maxLen,Ak]at*;omega)
  have hg:w.grownBy (w.drew.alloc (.cells (([]:List Value).toArray++Builtin.zeroCells z.cells (m+1)++Builtin.zeroCells z.cells (grownCap w (0+(m+1)) 0 e-(0+(m+1)))) e)) none:=by
   have:=World.grownBy_alloc w.drew (.cells (([]:List Value).toArray++Builtin.zeroCells z.cells (m+1)++Builtin.zeroCells z.cells (grownCap w (0+(m+1)) 0 e-(0+(m+1)))) e) none
   exact⟨this.os,this.tape,this.output,this.size,this.block⟩
  refine⟨.slice (some ⟨w.heap.size,0,none⟩) (0+(m+1)) (grownCap w (0+(m+1)) 0 e),_,H,_,?_,Hp.le.refl H,⟨rf,_,by rw[List.length_replicate],hL⟩,hs.push (r:= .row (.slice (some ⟨w.heap.size,0,none⟩) (0+(m+1)) (grownCap w (0+(m+1)) 0 e)) e (te.sz N) (m+1) (madeCells z.cells ((m+1)*te.sz N)).toList) hg ?_ (fun b hb=>by simp[Ao.has,Value.ownBlock]at hb;omega)⟩
  ·have h1:a'.eval p= .slice none 0 0:=he p _ (congrArg some hp)
   have h2:a'.eval q= .int kq ((m+1:Nat):Int):=he q _ (congrArg some hq)
   simp only[execOp,ho,resolve,invoke,builtin]
   simp[h1,h2,resolve,invoke,builtin,hT]at hr⊢
   rw[hr]
   rfl
  ·refine⟨by simp[size_madeCells], .inr ⟨w.heap.size,grownCap w (0+(m+1)) 0 e,([]:List Value).toArray++Builtin.zeroCells z.cells (m+1)++Builtin.zeroCells z.cells (grownCap w (0+(m+1)) 0 e-(0+(m+1))),by rw[Nat.zero_add],Nat.zero_le _,(by show(w.heap.push _)[w.heap.size]?=_;simp),by omega,hle,?_,?_⟩⟩
   ·simp[size_zeroCells,hzs]
    rw[<-Nat.add_mul]
    congr 1
    rw[Nat.zero_add]at hge
    omega
   ·rw[e1]
    simp[List.take_append,size_madeCells]
 ·rintro v H' O' ⟨rfl,xs,rfl,_⟩
  exact⟨e,_,_,_,rf⟩
def jo(
     P:Program) (S:Nat->SV N.T) (nk:Nat) (p q:Operand) (t tn:TypeId) (k:A_ N.T->Nat->Option R):Option R:=match P.underlying t,P.underlying tn,Ap S p with
 |some (
     .slice e),some (.int _), .raw (.slice none 0 0)=>match Jc N P e,P.info? e with
  |some te,some inf=>match inf.zero with
   |some z=>match parse N 16 te z.cells.toList,Dx P e (te.sz N)with
    |some (x,[]),true=>XS (Ap S q) fun m=>match m with
     |0=>none
     |m+1=>Ah (m+1<=KD P e) (k ⟨.Az nk,[],[(nk, .row e te (List.replicate (m+1) x))]⟩ (nk+1))
    |_,_=>none
   |none=>none
  |_,_=>none
 |_,_,_=>none
theorem fM{p q:Operand}{t tn:TypeId}(ho:o.op= .call {callee:= .builtin .append,args:= #[p,q],argTypes:= #[t,tn]})(hf:∀j,nk<=j->Rr j=none)(h:jo P S nk p q t tn k=some r):AL P C S Rr nk o k r:=by
 have hop:∀ {η:Nat->Value} {H:Hp} {a:Act},(∀x∈o.op.operands,(Ap S x).is C η H (a.eval x))->(Ap S p).is C η H (a.eval p):=fun hx=>hx p (by rw[ho];simp[Op.operands,Call.operands])
 have hoq:∀ {η:Nat->Value} {H:Hp} {a:Act},(∀x∈o.op.operands,(Ap S x).is C η H (a.eval x))->(Ap S q).is C η H (a.eval q):=fun hx=>hx q (by rw[ho];simp[Op.operands,Call.operands])
 unfold jo at h
 split at h
 ·rename_i e kn ht htn hs
  split at h
  ·rename_i te inf hte hi
   split at h
   ·rename_i z hz
    split at h
    ·rename_i x hpz hI
     obtain⟨m,h,hm⟩:=Lt (C:=C) h
     split at h
     ·cases h
     ·rename_i m
      replace h:=AF h
      obtain⟨hc,h⟩:=h
      obtain⟨bytes,z',hti,hzs,h0,hb,_⟩:=Dh hI
      obtain⟨hb1,hb2⟩:=hb _ hc
      refine .new h (Al.E7 (hf nk (Nat.le_refl _)) fun η H O a hx hr=>?_) fun _ _=>trivial
      obtain⟨ik,hv⟩:=hm (hoq hx)
      have hp0:=hop hx
      rw[hs]at hp0
      have hp0:a.eval p= .slice none 0 0:=hp0
      obtain⟨i',g0,g1,g2,g3⟩:=hti.ex
      have e1:i'=inf:=by rw[hi]at g0;exact(Option.some.inj g0).symm
      subst e1
      have e2:z'=z:=by rw[hz]at g3;exact(Option.some.inj g3).symm
      subst e2
      obtain⟨pre,e3,hlay⟩:=B_ (H:=H) hpz
      rw[List.append_nil]at e3
      rw[ho]
      refine(V8 ht htn hti hzs hb1 (by omega) h0 hp0 hv (by rw[e3];exact hlay)).mono ?_
      rintro v H' O' ⟨⟨rfl,xs,rfl,hL⟩,h3⟩
      exact⟨rf,_,v,rf,⟨xs,by rw[Ar],hL⟩,by rw[Ar],h3⟩
    ·cases h
   ·cases h
  ·cases h
 ·cases h
def iI(P:Program)(S:Nat->SV N.T)(nk:Nat)(x:Operand)(t:TypeId)(k:A_ N.T->Nat->Option R):Option R:=match P.underlying t,Ap S x with
 |some (.slice _), .raw (.slice none 0 0)=>k ⟨.na 0,[],[]⟩ nk
 |_,_=>none
theorem fE{x:Operand}{t:TypeId}(ho:o.op= .call {callee:= .builtin .cap,args:= #[x],argTypes:= #[t]})(h:iI P S nk x t k=some r):AL P C S Rr nk o k r:=by
 unfold iI at h
 split at h
 ·rename_i e ht hs
  refine .y h (Al.Cy fun η H O a hx _=>?_) fun _ _=>trivial
  have hv:=hx x (by rw[ho];simp[Op.operands,Call.operands])
  rw[hs]at hv
  have hv:a.eval x= .slice none 0 0:=hv
  refine⟨.int .i64 ((0:Nat):Int),?_,rf,Nat.zero_le _⟩
  rw[ho]
  refine Am.Aj fun ac w o' ho' _ he _=>?_
  have:=he x _ (congrArg some hv)
  simp[execOp,ho',this,resolve,invoke,builtin,Builtin.cap_,AG ht,goInt]
 ·cases h
def iG(P:Program)(S:Nat->SV N.T)(nk:Nat)(t:TypeId)(x y:Operand)(k:A_ N.T->Nat->Option R):Option R:=match P.underlying t,Ap S x,Ap S y with
 |some (.slice e), .raw (.slice none 0 0), .na 0=>match(P.info? e).isSome with
  |true=>k ⟨.raw (.slice none 0 0),[],[]⟩ nk
  |false=>none
 |_,_,_=>none
theorem XH{t:TypeId}{x y:Operand}(ho:o.op= .slice t x none (some y) none)(h:iG P S nk t x y k=some r):AL P C S Rr nk o k r:=by
 unfold iG at h
 split at h
 ·rename_i e ht hs hy
  split at h
  ·rename_i hi
   obtain⟨inf,hi⟩:=Option.isSome_iff_exists.1 hi
   refine .y h (Al.Cy fun η H O a hx _=>?_) fun _ _=>trivial
   have hv:=hx x (by rw[ho];simp[Op.operands])
   have hw:=hx y (by rw[ho];simp[Op.operands])
   rw[hs]at hv;rw[hy]at hw
   have hv:a.eval x= .slice none 0 0:=hv
   have hw:a.eval y= .int .i64 ((0:Nat):Int):=hw.1
   refine⟨.slice none 0 0,?_,rf⟩
   rw[ho]
   refine Am.Aj fun ac w o' ho' _ he _=>?_
   have e1:=he x _ (congrArg some hv)
   have e2:=he y _ (congrArg some hw)
   simp[execOp,ho',e1,e2,Instr.sliceAt,Instr.slice,Instr.sliceBounds,Instr.sliceBound,AG ht,sizeOf,typeInfo,hi,asIntOf,asInt]
  ·cases h
 ·cases h
end
end Go.GV
namespace Go.GV
open Go Go.GK
section
variable {N : Cw} {R : Type} {P : Program} {C : List (SV N.T)} {S : Nat -> SV N.T} {Rr : Nat -> Option (SR N.T)} {nk : Nat} {o : Oper} {k : A_ N.T -> Nat -> Option R} {r : R}
theorem Xl{t e:TypeId}{size bytes:Nat}{z:Value}{a:Option Addr}{n cap:Nat}{kl kh km:IntKind}{l h m:Int}(ht:P.underlying t=some (.slice e))(hz:TI P e size bytes z)(h0:0<=l)(h1:l<=h)(h2:h<=m)(h3:m<=(cap:Nat))(w:World):
  (Instr.sliceAt t (.slice a n cap) (some (.int kl l)) (some (.int kh h)) (some (.int km m))).run P w= .ok (sliced a l.toNat h.toNat m.toNat size) w:=by
 have ht':=MP ht
 have hs:(Go.sizeOf (P.elem t)).run P w= .ok size w:=by rw[MQ ht];exact hz.sizeOf
 rw[run_sliceAt_slice (h:=ht'),run_slice_lhm (t:=t) (a:=a) (len:=n) (cap:=cap) (ht:=ht') (h0:=h0) (h1:=h1) (h2:=h2) (h3:=h3),hs];simp[Result.andThen]
theorem Xm{t e:TypeId}{size bytes:Nat}{z:Value}{a:Option Addr}{n cap:Nat}{kh km:IntKind}{h m:Int}(ht:P.underlying t=some (.slice e))(hz:TI P e size bytes z)(h0:0<=h)(h2:h<=m)(h3:m<=(cap:Nat))(w:World):
  (Instr.sliceAt t (.slice a n cap) none (some (.int kh h)) (some (.int km m))).run P w= .ok (sliced a 0 h.toNat m.toNat size) w:=by
 have ht':=MP ht
 have hs:(Go.sizeOf (P.elem t)).run P w= .ok size w:=by rw[MQ ht];exact hz.sizeOf
 rw[run_sliceAt_slice (h:=ht'),run_slice_hm (t:=t) (a:=a) (len:=n) (cap:=cap) (ht:=ht') (h0:=h0) (h2:=h2) (h3:=h3),hs];simp[Result.andThen]
def VJ(P:Program)(S:Nat->SV N.T)(Rr:Nat->Option (SR N.T))(nk:Nat)(t:TypeId)(x:Operand)(lo:Option Operand)(hi mx:Operand)(k:A_ N.T->Nat->Option R):Option R:=match P.underlying t,intOf (Ap S hi),intOf (Ap S mx)with
 |some (.slice e),some (_,h),some (_,m)=>match lo,Ap S x with
  |some lo, .Az b=>match Rr b,intOf (Ap S lo)with
   |some (.row g te l),some (_,a)=>match Nat.beq g e&&Dx P e (te.sz N)with
    |true=>Ah ((0<=a/\a<h)/\(h=m/\m<=((l.length:Nat):Int))) (k ⟨.px [b] (.sub a.toNat (h-a).toNat te),[b],[]⟩ nk)
    |false=>none
   |_,_=>none
  |none, .d (.sl te) l=>match Dx P e (te.sz N)with
   |true=>Ah (h=((List.length (show List (te.den N.T)from l):Nat):Int)/\m=h) (k ⟨.px [] (.dx te l),[],[]⟩ nk)
   |false=>none
  |_,_=>none
 |_,_,_=>none
theorem XI{t:TypeId}{x:Operand}{lo:Option Operand}{hi mx:Operand}(ho:o.op= .slice t x lo (some hi) (some mx))(h:VJ P S Rr nk t x lo hi mx k=some r):AL P C S Rr nk o k r:=by
 have hox:∀ {η:Nat->Value} {H:Hp} {a:Act} {y:Operand},y=x\/y=hi\/y=mx\/some y=lo->(∀x∈o.op.operands,(Ap S x).is C η H (a.eval x))->(Ap S y).is C η H (a.eval y):=fun{η H a y} hy hx=>hx y (by
  rw[ho]
  cases lo with
  |none=>rcases hy with rfl|rfl|rfl|hy<;>first|(cases hy;done)|simp[Op.operands]
  |some z=>rcases hy with rfl|rfl|rfl|hy<;>first|(cases hy;simp[Op.operands];done)|simp[Op.operands])
 unfold VJ at h
 split at h
 case h_2=>cases h
 rename_i e kh hh km mm ht hhi hmx
 split at h
 ·rename_i lo b hs
  split at h
  ·rename_i g te l ka aa hb hlo
   split at h
   ·rename_i hI
    obtain⟨⟨⟨c1,c2⟩,c3,c4⟩,h⟩:=AF h
    rw[Bool.and_eq_true]at hI
    obtain⟨bytes,z,hti,hzs,h0,hbb,_⟩:=Dh hI.2
    refine .y h (fun η H Of a w Y hn' hs' hinv hx hr hfr K Q hK=>?_) fun τ _=>trivial
    rcases hr b (.inl (by simp)) _ hb with e|⟨X,h1,xs,e3,hL⟩
    ·cases e
    subst e3
    obtain⟨i,h2,_⟩:=GJ Of hn' h1
    have e1:a.eval x=η b:=by
     have:(SV.Az b:SV N.T).is C η H (a.eval x):=by rw[<-hs];exact hox (.inl rfl) hx
     exact this.1
    have e2:=AP hhi (hox (.inr (.inl rfl)) hx)
    have e3:=AP hmx (hox (.inr (.inr (.inl rfl))) hx)
    have e4:=AP hlo (hox (.inr (.inr (.inr rfl))) hx)
    obtain⟨ad,c,e5,hle⟩:∃ad c,η b= .slice (some ad) l.length c/\l.length<=c:=by
     rcases(hs'.JU h2).1 with⟨_,h0⟩|⟨ad,c,e,hc⟩
     ·omega
     ·exact⟨ad,c,e,hc⟩
    have hop:Am P o.op o.type (EV a) H (Y.map (·.2)++Of) (.slice (some (ad.add (aa.toNat*te.sz N))) (hh-aa).toNat (hh-aa).toNat):= .Aj fun ac w o ho' _ he _=>by
     have hr:=Xl (a:=some ad) (n:=l.length) (cap:=c) (kl:=ka) (kh:=kh) (km:=km) ht hti c1 (by omega:aa<=hh) (by omega:hh<=mm) (by omega) w
     have hsl:sliced (some ad) aa.toNat hh.toNat mm.toNat (te.sz N)= .slice (some (ad.add (aa.toNat*te.sz N))) (hh-aa).toNat (hh-aa).toNat:=by
      unfold sliced
      rw[if_neg (by omega)]
      simp only[Option.map_some,Value.slice.injEq,true_and]
      omega
     rw[hsl]at hr
     have q1:ac.eval x= .slice (some ad) l.length c:=he x _ (congrArg some (e1.trans e5))
     have q2:ac.eval hi= .int kh hh:=he hi _ (congrArg some e2)
     have q3:ac.eval mx= .int km mm:=he mx _ (congrArg some e3)
     have q4:ac.eval lo= .int ka aa:=he lo _ (congrArg some e4)
     rw[ho]at ho'
     simp[execOp,ho',q1,q2,q3,q4,hr]
    refine Oper.Bt (hop a w o rf rf (fun x u e=>by simpa using e) hs') hs' fun w' hw'=>?_
    refine hK _ w' H η Y (Hp.le.refl H) (fun _ _=>rfl) (fun _ _=>rfl) (fun k sr h=>by cases h) hn' (fun k hk=> .inl hk) hw' ⟨ad,l.length,c,?_,by omega,rfl⟩
    simp[e5]
   ·cases h
  ·cases h
 ·rename_i te l hs
  split at h
  ·rename_i hI
   obtain⟨⟨c1,c2⟩,h⟩:=AF h
   obtain⟨bytes,z,hti,hzs,h0,hbb,_⟩:=Dh hI
   refine .y h (Al.Cy fun η H O a hx _=>?_) fun _ _=>trivial
   obtain⟨cs,⟨v,rfl,hv⟩,e2⟩:(SV.d (.sl te) l:SV N.T).is C η H (a.eval x):=by rw[<-hs];exact hox (.inl rfl) hx
   have e2:[v]=[a.eval x]:=e2
   cases e2
   have e2:=AP hhi (hox (.inr (.inl rfl)) hx)
   have e3:=AP hmx (hox (.inr (.inr (.inl rfl))) hx)
   change List (te.den N.T)at l
   obtain⟨ad,c,e5,hle⟩:∃ad c,a.eval x= .slice ad l.length c/\l.length<=c:=by
    rcases hv.sl with⟨e,h0⟩|⟨ad,c,e,hc⟩
    ·exact⟨none,0,by rw[e,h0],by omega⟩
    ·exact⟨some ad,c,e,hc⟩
   obtain⟨ad',hv',e6⟩:∃ad',Fa (N.c te) H l (.slice ad' l.length l.length)/\sliced ad 0 l.length l.length (te.sz N)= .slice ad' l.length l.length:=by
    obtain⟨⟨xs,q1,q2⟩,q3⟩:=hv
    rw[e5]at q1
    refine⟨ad,⟨⟨xs,⟨q1.len,?_,?_⟩,q2⟩,q3⟩,?_⟩
    ·rcases q1.sl with⟨e,h0⟩|⟨a',c',e,hc⟩
     ·left
      injection e with e _ _
      exact⟨by rw[e,h0],h0⟩
     ·right
      injection e with e _ e'
      exact⟨a',l.length,by rw[e],Nat.le_refl _⟩
    ·intro j u hj
     have:=q1.cells j u hj
     cases ad<;>exact this
    ·unfold sliced
     cases ad with
     |none=>simp
     |some ad=>
      simp only[Option.map_some,Nat.zero_mul,Nat.sub_zero]
      have:ad.add 0=ad:=Gx ad
      rw[this];simp
   refine⟨.slice ad' l.length l.length,?_,⟨ad',rf⟩,[_],⟨_,rf,hv'⟩,rf⟩
   rw[ho]
   refine .Aj fun ac w o ho' _ he _=>?_
   have hr:=Xm (a:=ad) (n:=l.length) (cap:=c) (kh:=kh) (km:=km) (h:=hh) (m:=mm) ht hti (by omega) (by omega) (by rw[c2,c1];exact_mod_cast hle) w
   rw[c2,c1]at hr
   rw[show((l.length:Nat):Int).toNat=l.length from rfl,e6]at hr
   have q1:ac.eval x= .slice ad l.length c:=he x _ (congrArg some e5)
   have q2:ac.eval hi= .int kh hh:=he hi _ (congrArg some e2)
   have q3:ac.eval mx= .int km mm:=he mx _ (congrArg some e3)
   rw[c1]at q2
   rw[c2,c1]at q3
   simp[execOp,ho',q1,q2,q3,hr]
  ·cases h
 ·cases h
def gP(P:Program)(S:Nat->SV N.T)(Rr:Nat->Option (SR N.T))(nk:Nat)(t:TypeId)(x y:Operand)(k:A_ N.T->Nat->Option R):Option R:=match P.underlying t,intOf (Ap S y),Ap S x with
 |some (.slice e),some (_,j), .px [b] (.sub i m te)=>match Rr b with
  |some (.row _ te' l)=>match OU P e (te.sz N)&&te.Ig te' with
   |true=>Ah (0<=j/\j<(m:Int)) (Ac (idx l ((i:Int)+j)) fun z=>k ⟨.Di b ((i:Int)+j) 0 te' z,[b],[]⟩ nk)
   |false=>none
  |_=>none
 |_,_,_=>none
theorem fw{t:TypeId}{x y:Operand}(ho:o.op= .indexAddr t x y)(h:gP P S Rr nk t x y k=some r):AL P C S Rr nk o k r:=by
 have hox:∀ {η:Nat->Value} {H:Hp} {a:Act},(∀x∈o.op.operands,(Ap S x).is C η H (a.eval x))->(Ap S x).is C η H (a.eval x):=fun hx=>hx x (by rw[ho];simp[Op.operands])
 have hoy:∀ {η:Nat->Value} {H:Hp} {a:Act},(∀x∈o.op.operands,(Ap S x).is C η H (a.eval x))->(Ap S y).is C η H (a.eval y):=fun hx=>hx y (by rw[ho];simp[Op.operands])
 unfold gP at h
 split at h
 case h_2=>cases h
 rename_i e kk j b i m te ht hn hs
 split at h
 case h_2=>cases h
 rename_i g te' l hb
 split at h
 case h_2=>cases h
 rename_i hB
 rw[Bool.and_eq_true]at hB
 have e0:=Ty.Bc hB.2
 subst e0
 obtain⟨bytes,zv,hti⟩:=Du hB.1
 obtain⟨⟨c1,c2⟩,h⟩:=AF h
 obtain⟨z,hz,h⟩:=A9 h
 refine .y h (Al.Cy fun η H O a hx _=>?_) fun τ _ g' t' l' hl'=>?_
 ·obtain⟨ad,n,c,e1,e2,e3⟩:(SV.px [b] (.sub i m te):SV N.T).is C η H (a.eval x):=by rw[<-hs];exact hox hx
  have e1:η b= .slice (some ad) n c:=by simpa using e1
  have e4:=AP hn (hoy hx)
  refine⟨AE (a.eval x) (j.toNat*te.sz N),?_,?_,ad,n,c,e1⟩
  ·rw[ho]
   exact Am.Yb ht hti rf (.inr ⟨_,_,e3,Nat.le_refl _⟩) (congrArg some e4) ⟨c1,c2⟩
  ·rw[e3,e1]
   simp only[AE,Value.pointer.injEq,Option.some.injEq,Nat.add_zero]
   rw[Cv,<-Nat.add_mul]
   congr 2
   omega
 ·rw[hb]at hl'
  cases hl'
  exact⟨Ty.Oh te,by rw[hz];rfl⟩
theorem Za{s x:Operand}{t e:TypeId}{T:TypeId}{a:Act}{te:Ty}{l l2:List (te.den N.T)}{ys:List Value}{H:Hp}{O:List Ao}{ad:Option Addr}(ht:P.underlying t=some (.slice e))(hI:Dx P e (te.sz N)=true)(hs:a.eval s= .slice ad l.length l.length)(hv:Fa (N.c te) H l (.slice ad l.length l.length))
  (hy:AM (N.c te) H l2 ys) (hsrc:∀w,SH w H O->GK.Src w (a.eval x) (te.sz N) l2.length ys) (hc:l.length+l2.length<=KD P e) (h2:l2≠ []):
  Bl P (.call {callee:= .builtin .append,args:= #[s,x],argTypes:= #[t,t]}) T (EV a) H O (fun v' H' O'=>(H'=H/\∃xs,O'= .row v' e (te.sz N) (l++l2).length xs::O/\AM (N.c te) H (l++l2) xs)/\v'.oneCell'=true):=by
 obtain⟨bytes,z,hz,hzs,h0,hb,_⟩:=Dh hI
 obtain⟨xs,hx1,hx2⟩:=hv.ex
 rw[A5]at hx1
 cases ad with
 |none=>
  have hl:l=[]:=by
   rcases hx1.sl with⟨_,h0⟩|⟨a',c',e,hc⟩
   ·exact List.length_eq_zero_iff.1 h0
   ·injection e with e _ _;cases e
  subst hl
  refine Bl.Fx ((M7 (i:=0) (l:=[]) (xs:=[]) ht hI hs rf rf hy (fun w hs=>hsrc w ?_) hc).mono ?_)
  ·have:=hs.VD 1;simpa using this
  ·rintro v' H' O' ⟨⟨rfl,rfl⟩,h3⟩
   exact⟨⟨rf,_,rf,AM.app (c:=N.c te) (l:=[]) (xs:=[]) rf hy⟩,h3⟩
 |some ad=>
  obtain⟨hc,hbm⟩:=hb _ hc
  refine Bl.ET 0 (.Aj fun a' w o ho hT he hw=>?_) ?_
  ·obtain⟨ii,hii,g1,g2,g3⟩:=hz.ex
   obtain⟨hlen,hsr⟩:=hsrc w hw
   have hpos:0<l2.length:=by cases l2 with
    |nil=>exact absurd rfl h2
    |cons _ _=>simp
   rcases hsr with⟨_,h0'⟩|⟨ax,cx,hax,hcells⟩
   ·omega
   obtain⟨ho1,ho2⟩:=hw.O5 hx1
   rcases ho2 with⟨e,_⟩|⟨ad',c',e,holds⟩
   ·injection e with e _ _;cases e
   injection e with e _ _
   injection e with e
   subst e
   obtain⟨v',w',hr,k1,k2⟩:=run_append_arg_grows (P:=P) w t o.type e ii z (te.sz N) bytes ht hii g3 g1 g2 hzs h0 ad l.length l.length xs ho1 holds ax l2.length cx ys hlen hcells (by omega) (by simp only[maxLen,Ak]at*;omega) (by omega)
   refine⟨v',w',H,_,?_,Hp.le.refl H,⟨rf,xs++ys,rf,hx2.app hy⟩,hw.push (r:= .row v' e (te.sz N) (l++l2).length (xs++ys)) k2 ?_ (fun b hb=>?_)⟩
   ·have q1:a'.eval s= .slice (some ad) l.length l.length:=he s _ (congrArg some hs)
    have q2:a'.eval x= .slice (some ax) l2.length cx:=he x _ (congrArg some hax)
    simp[execOp,ho,resolve,invoke,builtin,q1,q2,hr,Result.andThen]
   ·rw[List.length_append]
    exact⟨k1.1,k1.2.imp id fun⟨g,cap,cur,e,_,h⟩=>⟨g,cap,cur,e,Nat.zero_le _,h⟩⟩
   ·exact(World.ownsRow.lt k1 b hb).1
  ·rintro v' H' O' ⟨rfl,xs,rfl,_⟩
   exact⟨e,_,_,_,rf⟩
def jq(P:Program)(S:Nat->SV N.T)(Rr:Nat->Option (SR N.T))(nk:Nat)(s x:Operand)(t:TypeId)(k:A_ N.T->Nat->Option R):Option R:=match P.underlying t,Ap S s with
 |some (.slice e), .px _ (.dx te l)=>match Dx P e (te.sz N),R2 S Rr te x with
  |true,some (l2,rd)=>Ah (l.length+l2.length<=KD P e/\0<l2.length) (k ⟨.Az nk,rd,[(nk, .row e te (l++l2))]⟩ (nk+1))
  |_,_=>none
 |_,_=>none
theorem fN{s x:Operand}{t:TypeId}(ho:o.op= .call {callee:= .builtin .append,args:= #[s,x],argTypes:= #[t,t]})(hf:∀j,nk<=j->Rr j=none)(h:jq P S Rr nk s x t k=some r):AL P C S Rr nk o k r:=by
 have hos:∀ {η:Nat->Value} {H:Hp} {a:Act},(∀x∈o.op.operands,(Ap S x).is C η H (a.eval x))->(Ap S s).is C η H (a.eval s):=fun hx=>hx s (by rw[ho];simp[Op.operands,Call.operands])
 have hox:∀ {η:Nat->Value} {H:Hp} {a:Act},(∀x∈o.op.operands,(Ap S x).is C η H (a.eval x))->(Ap S x).is C η H (a.eval x):=fun hx=>hx x (by rw[ho];simp[Op.operands,Call.operands])
 unfold jq at h
 split at h
 case h_2=>cases h
 rename_i e ks te l ht hs
 split at h
 case h_2=>cases h
 rename_i l2 rd hI hsrc
 obtain⟨⟨hc,hp⟩,h⟩:=AF h
 refine .new h (Al.E7 (hf nk (Nat.le_refl _)) fun η H O a hx hr=>?_) fun _ _=>trivial
 obtain⟨⟨ad,e1⟩,cs,⟨v,rfl,hv⟩,e2⟩:(SV.px ks (.dx te l):SV N.T).is C η H (a.eval s):=by rw[<-hs];exact hos hx
 have e2:[v]=[a.eval s]:=e2
 cases e2
 obtain⟨ys,hy,hsr⟩:=Jd hsrc (hox hx) hr
 rw[ho]
 rw[e1]at hv
 refine(Za ht hI e1 hv hy hsr hc (fun e=>by rw[e]at hp;simp at hp)).mono ?_
 rintro v' H' O' ⟨⟨rfl,xs,rfl,hL⟩,h3⟩
 exact⟨rf,_,v',rf,⟨xs,by rw[Ar],hL⟩,by rw[Ar],h3⟩
def fX(P:Program)(S:Nat->SV N.T)(nk:Nat)(t:TypeId)(x:Operand)(k:A_ N.T->Nat->Option R):Option R:=match P.underlying t,Ap S x with
 |some (.slice _), .d (.sl te) l=>match(show List (te.den N.T)from l)with
  | []=>k ⟨.px [] .ub,[],[]⟩ nk
  |_::_=>k ⟨.lb false,[],[]⟩ nk
 |_,_=>none
theorem QM{t e:TypeId}{x:Operand}{b:BinOp}(hb:b= .eql){T Ty:TypeId}{H:Hp}{O:List Ao}{E:Operand->Option Value}{a:Option Addr}{n c:Nat}(ht:P.underlying t=some (.slice e))(hx:E x=some (.slice a n c)):Am P (.binOp b t x (.const (.slice none 0 0)) Ty) T E H O (.bool a.isNone):= .Aj fun ac w o ho _ hE hw=>by
 subst hb
 have h:(binOp .eql t (.slice a n c) (.slice none 0 0)).run P w= .ok (.bool a.isNone) w:=by
  have h:∀d:Nat,(Op.equalIn (d+1) t (.slice a n c) (.slice none 0 0)).run P w= .ok a.isNone w:=fun d=>by
   cases a<;>simp[Op.equalIn,AG ht]
  simp only[binOp]
  show(do pure (.bool (<-Op.equal t _ _)):Sem Value).run P w=_
  unfold Op.equal Op.maxDepth
  simp[h 9999]
 have hc:ac.eval (.const (.slice none 0 0))= .slice none 0 0:=rfl
 simp[execOp,ho,hE x _ hx,eqGuard,h,hc]
theorem eV{t Ty:TypeId}{x:Operand}(ho:o.op= .binOp .eql t x (.const (.slice none 0 0)) Ty)(h:fX P S nk t x k=some r):AL P C S Rr nk o k r:=by
 have hox:∀ {η:Nat->Value} {H:Hp} {a:Act},(∀x∈o.op.operands,(Ap S x).is C η H (a.eval x))->(Ap S x).is C η H (a.eval x):=fun hx=>hx x (by rw[ho];simp[Op.operands])
 unfold fX at h
 split at h
 case h_2=>cases h
 rename_i e te l ht hs
 have key:∀ {η:Nat->Value} {H:Hp} {a:Act},(∀x∈o.op.operands,(Ap S x).is C η H (a.eval x))->∃ad n c,a.eval x= .slice ad n c/\(ad=none->n=0)/\n=(show List (te.den N.T)from l).length:=fun{η H a} hx=>by
  obtain⟨cs,⟨v,rfl,hv⟩,e2⟩:(SV.d (.sl te) l:SV N.T).is C η H (a.eval x):=by rw[<-hs];exact hox hx
  have e2:[v]=[a.eval x]:=e2
  cases e2
  rcases hv.sl with⟨e,h0⟩|⟨ad,c,e,_⟩
  ·exact⟨none,0,0,e,fun _=>rfl,h0.symm⟩
  ·exact⟨some ad,_,c,e,(fun h=>by cases h),rfl⟩
 split at h
 ·refine .y h (Al.Cy fun η H O a hx _=>?_) fun _ _=>trivial
  obtain⟨ad,n,c,e1,_,_⟩:=key hx
  exact⟨_,by rw[ho];exact QM rf ht (congrArg some e1),_,rf⟩
 ·rename_i z zs hl
  refine .y h (Al.Cy fun η H O a hx _=>?_) fun _ _=>trivial
  obtain⟨ad,n,c,e1,e2,e3⟩:=key hx
  refine⟨_,by rw[ho];exact QM rf ht (congrArg some e1),?_⟩
  cases ad with
  |some ad=>rfl
  |none=>
   have hl:(show List (te.den N.T)from l)=z::zs:=hl
   rw[hl]at e3
   have:=e2 rfl
   simp at e3;omega
def S4:List Int->Ax:=fun l=>l.map fun n=>UInt8.ofNat n.toNat
theorem U5{H:Hp} :∀ {l:List Int} {xs:List Value},AM (N.c (.int .u8)) H l xs->xs=(S4 l).map fun b=>Value.int .u8 (b.toNat:Int)
 | [],_,h=>h
 |n::l,_,⟨cs,xs,e,h1,h2⟩=>by
  obtain⟨h1,h3⟩:=Db.1 h1
  have h3:0<=n/\n<=255:=h3
  subst e;subst h1
  have e2:((UInt8.ofNat n.toNat).toNat:Int)=n:=by
   rw[UInt8.toNat_ofNat']
   omega
  rw[U5 h2]
  show [Value.int .u8 n]++_=Value.int .u8 ((UInt8.ofNat n.toNat).toNat:Int)::_
  rw[e2];rfl
def i_(P:Program)(S:Nat->SV N.T)(nk:Nat)(s d:TypeId)(x:Operand)(k:A_ N.T->Nat->Option R):Option R:=match P.underlying s,P.underlying d,Ap S x with
 |some (.slice e),some .string, .d (.sl (.int .u8)) l=>match P.underlying e with
  |some (.int .u8)=>k ⟨.d .str (S4 l),[],[]⟩ nk
  |_=>none
 |some (.slice e),some .string, .raw (.slice none 0 0)=>match P.underlying e with
  |some (.int .u8)=>k ⟨.d .str [],[],[]⟩ nk
  |_=>none
 |some (.int _),some .string,s=>match intOf s with
  |some (_,n)=>Ah (0<=n/\n<128) (k ⟨.d .str [UInt8.ofNat n.toNat],[],[]⟩ nk)
  |none=>none
 |_,_,_=>none
theorem SN{n:Int}(h0:0<=n)(h1:n<128):Utf8.encode n=⟨⟨[UInt8.ofNat n.toNat]⟩⟩:=by
 have hv:Utf8.valid n=true:=by rw[validRune_eq];unfold validRune;exact decide_eq_true (.inl ⟨h0,by omega⟩)
 unfold Utf8.encode
 rw[if_pos hv]
 simp only
 rw[if_pos (show n.toNat<128 by omega)]
theorem RB{s d e:TypeId}{x:Operand}{T:TypeId}{l:List Int}{H:Hp}{O:List Ao}{E:Operand->Option Value}{v:Value}(hs:P.underlying s=some (.slice e))(hd:P.underlying d=some .string)(he:P.underlying e=some (.int .u8))(hx:E x=some v)(hv:Fa (N.c (.int .u8)) H l v):Am P (.convert s d x) T E H O (sv (S4 l)):= .Aj fun ac w o ho _ hE hw=>by
 obtain⟨xs,h1,h2⟩:=hv.ex
 have hxs:=U5 h2
 obtain⟨hlen,hc⟩:=hw.O5 h1
 rcases hc with⟨rfl,h0⟩|⟨ad,c,rfl,hcells⟩
 ·have hl:l=[]:=List.length_eq_zero_iff.1 h0
  subst hl
  have:=run_convert_bytes_string (P:=P) w s d e none 0 0 hs he hd
  have h2:(Conv.bytesToString (.slice none 0 0)).run P w= .ok (.string ByteArray.empty) w:=by simp[Conv.bytesToString]
  rw[h2]at this
  simp[execOp,ho,hE x _ hx,this];rfl
 ·have hbl:(S4 l).length=l.length:=by simp[S4]
  have:=run_convert_bytes_back (P:=P) w s d e ad c (S4 l) hs he hd (fun j hj=>hcells j _ (by rw[hxs];simp[hj]))
  rw[hbl]at this
  simp only[execOp,ho,hE x _ hx]
  simp
  erw [this]
  rfl
theorem fG{s d:TypeId}{x:Operand}(ho:o.op= .convert s d x)(h:i_ P S nk s d x k=some r):AL P C S Rr nk o k r:=by
 have hox:∀ {η:Nat->Value} {H:Hp} {a:Act},(∀x∈o.op.operands,(Ap S x).is C η H (a.eval x))->(Ap S x).is C η H (a.eval x):=fun hx=>hx x (by rw[ho];simp[Op.operands])
 unfold i_ at h
 split at h
 ·rename_i e l hs hd hx0
  split at h
  ·rename_i he
   refine .y h (Al.Cy fun η H O a hx _=>?_) fun _ _=>trivial
   obtain⟨cs,⟨v,rfl,hv⟩,e2⟩:(SV.d (.sl (.int .u8)) l:SV N.T).is C η H (a.eval x):=by rw[<-hx0];exact hox hx
   have e2:[v]=[a.eval x]:=e2
   cases e2
   exact⟨_,by rw[ho];exact RB hs hd he rf hv,[_],rf,rf⟩
  ·cases h
 ·rename_i e hs hd hx0
  split at h
  ·rename_i he
   refine .y h (Al.Cy fun η H O a hx _=>?_) fun _ _=>trivial
   have hv:a.eval x= .slice none 0 0:=by
    have:(SV.raw (.slice none 0 0):SV N.T).is C η H (a.eval x):=by rw[<-hx0];exact hox hx
    exact this
   exact⟨_,by rw[ho];exact RB (N:=N) (l:=[]) hs hd he (congrArg some hv) Fa.nil,[_],rf,rf⟩
  ·cases h
 ·rename_i q hs hd
  split at h
  ·rename_i q2 n hn
   obtain⟨hc,h⟩:=AF h
   refine .y h (Al.Cy fun η H O a hx _=>?_) fun _ _=>trivial
   have hv:=AP hn (hox hx)
   refine⟨sv [UInt8.ofNat n.toNat],?_,[_],rf,rf⟩
   rw[ho]
   refine .Aj fun ac w o ho _ hE hw=>?_
   have:=run_convert_int_string (P:=P) w s d q2 n (by rw[hs];rfl) hd
   rw[SN hc.1 hc.2]at this
   simp[execOp,ho,hE x _ (congrArg some hv),this];rfl
  ·cases h
 ·cases h
end
end Go.GV
namespace Go.GV
open Go Go.GK
section
variable {P : Program} {T : TypeId} {E : Operand -> Option Value} {H : Hp} {O : List Ao}
theorem Bl.Zb{s x:Operand}{t u e:TypeId}{v:Value}{i m:Nat}{str:Ax}{xs:List Value}(ht:P.underlying t=some (.slice e))(hu:P.underlying u=some .string)(hz:TI P e 1 1 (.int .u8 0))(hs:E s=some v)(hx:E x=some (sv str))
  (hi:O[i]?=some (.row v e 1 m xs)) (hb:m+str.length<=Ak):
  Bl P (.call {callee:= .builtin .append,args:= #[s,x],argTypes:= #[t,u]}) T E H O (fun v' H' O'=>H'=H/\O'=O.set i (.row v' e 1 (m+str.length) (xs++Lib.byteCells str))):=by
 intro a w o next Q ho hT he hw k
 have hown:=hw.ok i _ hi
 simp only[Ao.ok]at hown
 obtain⟨ii,hii,g1,g2,g3⟩:=hz.ex
 have hsz:(ByteArray.mk (Array.mk str)).size=str.length:=rfl
 have hsc:Lib.strCells (ByteArray.mk (Array.mk str))=Lib.byteCells str:=rfl
 obtain⟨v',w',hr,k1,k2,k3⟩:=Lib.run_append_own_string (P:=P) w 0 t u o.type e ii ht hu hii g3 g1 g2 v m xs hown ⟨⟨str⟩⟩ (by rw[hsz];simp only[maxLen,Ak]at*;omega) (by rw[hsz];simp only[Ak]at*;omega) (Nat.zero_le _)
 rw[hsz,hsc]at k1
 unfold Oper.wp
 simp only[sv]at hx
 simp[execOp,ho,resolve,invoke,builtin,he s _ hs,he x _ hx,hr,Result.andThen]
 refine k v' w' H _ (Hp.le.refl H) ⟨rf,rf⟩ (hw.set hi k2 k1 (fun b hb'=>?_))
 rcases hown.2 with⟨rfl,hl0⟩|⟨g,cap,cur,rfl,_,hg,hnc,hcm,hcs,htake⟩
 ·right
  subst hl0
  have hx0:xs=[]:=List.eq_nil_of_length_eq_zero (by rw[hown.1,Nat.zero_mul])
  subst hx0
  obtain⟨v2,w2,hr2,q1,_,_⟩:=Lib.run_append_own_string (P:=P) w w.heap.size t u o.type e ii ht hu hii g3 g1 g2 (.slice none 0 0) 0 [] (World.ownsRow_nil w _ e _) ⟨⟨str⟩⟩ (by rw[hsz];simp only[maxLen,Ak]at*;omega) (by rw[hsz];simp only[Ak]at*;omega) (Nat.le_refl _)
  rw[hr]at hr2
  injection hr2 with e1 e2
  subst e1;subst e2
  exact(World.ownsRow.lt q1 b hb').1
 ·by_cases hroom:m+str.length<=cap
  ·left
   have hr2:=Lib.run_append_room_string (P:=P) w t u o.type e ii ht hu hii g1 g m cap cur hg ⟨⟨str⟩⟩ hroom (by rw[hsz];simp at hcs;omega)
   rw[hr]at hr2
   injection hr2 with e1 e2
   rw[e1]at hb'
   exact hb'
  ·right
   have hcc:Ak=1099511627776:=rfl
   have hr2:=Lib.run_append_grow_string (P:=P) w t u o.type e ii (.int .u8 0) ht hu hii g3 ⟨g,0,none⟩ m cap xs (by rw[hown.1,g1]) (hown.cells (g:=g) rfl) ⟨⟨str⟩⟩ (by rw[hsz];omega) (by rw[hsz];simp only[Ak]at*;omega) (by rw[g2,hsz];exact growslice_fits (by simp only[Ak]at*;omega) (by simp only[Ak]at*;omega))
   rw[hr]at hr2
   injection hr2 with e1 e2
   rw[e1]at hb'
   simp[Ao.has,Value.ownBlock]at hb'
   omega
end
section
variable {N : Cw} {R : Type} {P : Program} {C : List (SV N.T)} {S : Nat -> SV N.T} {Rr : Nat -> Option (SR N.T)} {nk : Nat} {o : Oper} {k : A_ N.T -> Nat -> Option R} {r : R}
def VZ:Ax->List Int:=fun l=>l.map fun b=>(b.toNat:Int)
theorem QX{H:Hp} :∀l:Ax,AM (N.c (.int .u8)) H (VZ l) (Lib.byteCells l)
 | []=>rfl
 |b::l=>⟨[.int .u8 (b.toNat:Int)],Lib.byteCells l,rfl,Db.2 ⟨rfl,by
  have:=b.toNat_lt
  show(0:Int)<=b.toNat/\(b.toNat:Int)<=255
  omega⟩,QX l⟩
def tR(P:Program)(e:TypeId):Bool:=match P.info? e with
 |some inf=>Nat.beq inf.size 1&&(Nat.beq inf.bytes 1&&match inf.zero with
  |some (.int .u8 0)=>true
  |_=>false)
 |none=>false
theorem dW{e:TypeId}(h:tR P e=true):TI P e 1 1 (.int .u8 0):=by
 unfold tR at h
 split at h
 ·rename_i inf hi
  simp only[Bool.and_eq_true]at h
  obtain⟨h1,h2,h3⟩:=h
  split at h3
  ·rename_i hz
   exact⟨inf,hi,Nat.eq_of_beq_eq_true h1,Nat.eq_of_beq_eq_true h2,hz⟩
  ·cases h3
 ·cases h
def jr(P:Program)(S:Nat->SV N.T)(Rr:Nat->Option (SR N.T))(nk:Nat)(s x:Operand)(t u:TypeId)(k:A_ N.T->Nat->Option R):Option R:=match P.underlying t,P.underlying u,Ap S s,PU (Ap S x)with
 |some (.slice e),some .string, .Az b,some str=>match Rr b with
  |some (.row g (.int .u8) l)=>match Nat.beq g e&&tR P e with
   |true=>Ah (List.length (show List Int from l)+str.length<=Ak) (k ⟨.Az nk,[],[(nk, .row g (.int .u8) (show List Int from(show List Int from l)++VZ str)),(b, .gone)]⟩ (nk+1))
   |false=>none
  |_=>none
 |_,_,_,_=>none
theorem fO{s x:Operand}{t u:TypeId}(ho:o.op= .call {callee:= .builtin .append,args:= #[s,x],argTypes:= #[t,u]})(hf:∀j,nk<=j->Rr j=none)(h:jr P S Rr nk s x t u k=some r):AL P C S Rr nk o k r:=by
 have hos:∀ {η:Nat->Value} {H:Hp} {a:Act},(∀x∈o.op.operands,(Ap S x).is C η H (a.eval x))->(Ap S s).is C η H (a.eval s):=fun hx=>hx s (by rw[ho];simp[Op.operands,Call.operands])
 have hox:∀ {η:Nat->Value} {H:Hp} {a:Act},(∀x∈o.op.operands,(Ap S x).is C η H (a.eval x))->(Ap S x).is C η H (a.eval x):=fun hx=>hx x (by rw[ho];simp[Op.operands,Call.operands])
 unfold jr at h
 split at h
 case h_2=>cases h
 rename_i e b str ht hu hs hstr
 split at h
 case h_2=>cases h
 rename_i g l hb
 split at h
 case h_2=>cases h
 rename_i hI
 rw[Bool.and_eq_true]at hI
 have e1:=Nat.eq_of_beq_eq_true hI.1;subst e1
 obtain⟨hc,h⟩:=AF h
 change List Int at l
 have hc:l.length+str.length<=Ak:=hc
 refine .uA h hb (Al.UB hb (by simp) (hf nk (Nat.le_refl _)) fun η H O a X i hx h1 h2 hr=>?_) fun _ _=>trivial
 obtain⟨xs,e3,hL⟩:=h2
 subst e3
 have hv:=hos hx
 rw[hs]at hv
 have e4:a.eval x=sv str:=Ir hstr (hox hx)
 rw[<-hv.1]at h1
 have h1:O[i]?=some (.row (a.eval s) g 1 l.length xs):=h1
 have hlt:i<O.length:=(List.getElem?_eq_some_iff.1 h1).1
 rw[ho]
 refine(Bl.ET i (Bl.Zb ht hu (dW hI.2) rf (congrArg some e4) h1 hc) ?_).mono ?_
 ·rintro v' H' O' ⟨rfl,rfl⟩
  exact⟨_,_,_,_,by rw[List.getElem?_set_self hlt]⟩
 ·rintro v' H' O' ⟨⟨rfl,rfl⟩,h3⟩
  refine⟨rf,_,v',rf,⟨_,?_,hL.app (QX str)⟩,by rw[Ar],h3⟩
  rw[Ar]
  have e5:List.length (l++VZ str)=l.length+str.length:=by rw[List.length_append];simp[VZ]
  show Ao.row v' g 1 (l.length+str.length) _=Ao.row v' g 1 (List.length (l++VZ str)) _
  rw[e5]
def ja(P:Program)(nk:Nat)(t:TypeId)(k:A_ N.T->Nat->Option R):Option R:=match P.underlying t with
 |some (.slice e)=>match Jc N P e with
  |some te=>match Dx P e (te.sz N)with
   |true=>k ⟨.Az nk,[],[(nk, .row e te [])]⟩ (nk+1)
   |false=>none
  |none=>none
 |_=>none
theorem YX{t e:TypeId}{size bytes:Nat}{z:Value}{T:TypeId}{E:Operand->Option Value}{H:Hp}{O:List Ao}(ht:P.underlying t=some (.slice e))(hz:TI P e size bytes z):
  Bl P (.buildSlice t 0 #[]) T E H O (fun v H' O'=>H'=H/\v.oneCell'=true/\O'= .row v e size 0 []::O):= .Aj fun a w o ho _ he hs=>by
 refine⟨.slice (some ⟨w.heap.size,0,none⟩) 0 0,w.alloc (.cells #[] e),H,_,?_,Hp.le.refl H,⟨rf,rf,rf⟩,hs.push (World.grownBy_alloc w _ none) ?_ (fun b hb=>by simp[Ao.has,Value.ownBlock]at hb;omega)⟩
 ·simp[execOp,ho,Instr.buildSlice,AG ht,hz.sizeOf,Instr.fill,newRow]
  have h0:((Array.range 0).map fun _:Nat=>(default:Value))= #[]:=Array.eq_empty_of_size_eq_zero (by simp)
  rw[h0]
 ·exact⟨by simp, .inr ⟨w.heap.size,0, #[],rf,Nat.zero_le _,heap_alloc_new w _,Nat.le_refl _,Nat.zero_le _,by simp,by simp⟩⟩
theorem fH{t:TypeId}(ho:o.op= .buildSlice t 0 #[])(hf:∀j,nk<=j->Rr j=none)(h:ja P nk t k=some r):AL P C S Rr nk o k r:=by
 unfold ja at h
 split at h
 case h_2=>cases h
 rename_i e ht
 split at h
 case h_2=>cases h
 rename_i te hte
 split at h
 case h_2=>cases h
 rename_i hI
 obtain⟨bytes,z,hti,_⟩:=Dh hI
 refine .new h (Al.E7 (hf nk (Nat.le_refl _)) fun η H O a hx hr=>?_) fun _ _=>trivial
 rw[ho]
 refine(YX ht hti).mono ?_
 rintro v H' O' ⟨rfl,h1,rfl⟩
 exact⟨rf,_,v,rf,⟨[],by rw[Ar];rfl,rf⟩,by rw[Ar],h1⟩
def dT(P:Program)(S:Nat->SV N.T)(Rr:Nat->Option (SR N.T))(nk:Nat)(x:Operand)(T:TypeId)(k:A_ N.T->Nat->Option R):Option R:=match Ap S x,P.underlying T with
 | .Az b,some (.pointer _)=>match Rr b with
  |some (.row _ (.int .u8) l)=>k ⟨.px [b] (.sd (List.length (show List Int from l))),[b],[]⟩ nk
  |_=>none
 |_,_=>none
theorem eQ{x:Operand}{t:TypeId}(ho:o.op= .call {callee:= .builtin .unsafeSliceData,args:= #[x],argTypes:= #[t]})(h:dT P S Rr nk x o.type k=some r):AL P C S Rr nk o k r:=by
 have hox:∀ {η:Nat->Value} {H:Hp} {a:Act},(∀x∈o.op.operands,(Ap S x).is C η H (a.eval x))->(Ap S x).is C η H (a.eval x):=fun hx=>hx x (by rw[ho];simp[Op.operands,Call.operands])
 unfold dT at h
 split at h
 case h_2=>cases h
 rename_i b pe hs hT
 split at h
 case h_2=>cases h
 rename_i g l hb
 change List Int at l
 refine .y h (fun η H Of a w Y hn' hs' hinv hx hr hfr K Q hK=>?_) fun τ _=>trivial
 rcases hr b (.inl (by simp)) _ hb with e|⟨X,h1,xs,e3,hL⟩
 ·cases e
 subst e3
 obtain⟨i,h2,_⟩:=GJ Of hn' h1
 have e1:a.eval x=η b:=by
  have:(SV.Az b:SV N.T).is C η H (a.eval x):=by rw[<-hs];exact hox hx
  exact this.1
 have hown:=hs'.ok i _ h2
 have hown:w.ownsRow 0 g 1 (η b) l.length xs:=hown
 have fin:∀v w',SH w' H (Y.map (·.2)++Of)->(∃p,v= .pointer p)->(0<l.length->v=AE (η b) 0)->(execOp a.eval o).run P w= .ok (.value v) w'->o.wp P a w K Q:=fun v w' hw' q1 q2 hrun=>by
  unfold Oper.wp
  rw[hrun]
  exact hK v w' H η Y (Hp.le.refl H) (fun _ _=>rfl) (fun _ _=>rfl) (fun k sr h=>by cases h) hn' (fun k hk=> .inl hk) hw' ⟨q1,fun h=>⟨η b,rfl,q2 h⟩⟩
 rcases hown.2 with⟨hv,h0⟩|⟨gg,cap,cur,hv,_,hg,hnc,hcm,hcs,htake⟩
 ·refine fin (.pointer none) w hs' ⟨none,rf⟩ (fun h=>by omega) ?_
  have h:=Lib.run_unsafeSliceData_nil (P:=P) w #[t] o.type 0 0
  rw[hv]at e1
  simp[execOp,ho,resolve,invoke,builtin,e1,h]
 ·by_cases hc0:cap=0
  ·subst hc0
   refine fin (.pointer (some ⟨w.heap.size,0,none⟩)) (w.alloc (.view ⟨gg,0,none⟩ pe)) ?_ ⟨_,rf⟩ (fun h=>by omega) ?_
   ·have:=(hs'.alloc (.view ⟨gg,0,none⟩ pe)).drop 0
    simpa using this
   ·have h:=Lib.run_unsafeSliceData_zero (P:=P) w #[t] o.type pe hT ⟨gg,0,none⟩ l.length (sh:=(g,cur.size)) (by simp[World.shape?,hg])
    rw[hv]at e1
    simp[execOp,ho,resolve,invoke,builtin,e1,h]
  ·refine fin (AE (η b) 0) w hs' ⟨_,by rw[hv];rfl⟩ (fun _=>rfl) ?_
   have h:=Lib.run_unsafeSliceData_row (P:=P) w #[t] o.type ⟨gg,0,none⟩ l.length cap hc0
   rw[hv]at e1⊢
   simp[execOp,ho,resolve,invoke,builtin,e1,h,AE,Addr.add]
def dS(P:Program)(S:Nat->SV N.T)(Rr:Nat->Option (SR N.T))(nk:Nat)(x y:Operand)(pt:TypeId)(k:A_ N.T->Nat->Option R):Option R:=match Ap S x,intOf (Ap S y),P.underlying pt with
 | .px [b] (.sd m),some (.i64,n),some (.pointer e)=>match Rr b,Nat.beq (P.cellsOf e) 1 with
  |some (.row g (.int .u8) l),true=>match Nat.beq g e with
   |true=>Ah (n=((List.length (show List Int from l):Nat):Int)/\m=List.length (show List Int from l)) (k ⟨.d .str (S4 l),[],[(b, .gone)]⟩ nk)
   |false=>none
  |_,_=>none
 |_,_,_=>none
theorem eP{x y:Operand}{pt it:TypeId}(ho:o.op= .call {callee:= .builtin .unsafeString,args:= #[x,y],argTypes:= #[pt,it]})(h:dS P S Rr nk x y pt k=some r):AL P C S Rr nk o k r:=by
 have hox:∀ {η:Nat->Value} {H:Hp} {a:Act},(∀x∈o.op.operands,(Ap S x).is C η H (a.eval x))->(Ap S x).is C η H (a.eval x):=fun hx=>hx x (by rw[ho];simp[Op.operands,Call.operands])
 have hoy:∀ {η:Nat->Value} {H:Hp} {a:Act},(∀x∈o.op.operands,(Ap S x).is C η H (a.eval x))->(Ap S y).is C η H (a.eval y):=fun hx=>hx y (by rw[ho];simp[Op.operands,Call.operands])
 unfold dS at h
 split at h
 case h_2=>cases h
 rename_i b m n e hs hn hpt
 split at h
 case h_2=>cases h
 rename_i g l hb hce
 split at h
 case h_2=>cases h
 rename_i hge
 have:=Nat.eq_of_beq_eq_true hge;subst this
 change List Int at l
 obtain⟨⟨c1,c2⟩,h⟩:=AF h
 have c1:n=(l.length:Nat):=c1
 have c2:m=l.length:=c2
 have hbl:(S4 l).length=l.length:=by simp[S4]
 refine⟨_,nk,h,fun η H Of a w Y hn' hs' hinv hx hr hfr K Q hK=>?_,Nat.le_refl _,fun j hj hnone=>?_,fun τ _=>trivial⟩
 ·rcases hr b (.inr (by simp[keys])) _ hb with e|⟨X,h1,xs,e3,hL⟩
  ·cases e
  subst e3
  obtain⟨i,h2,h3⟩:=GJ Of hn' h1
  obtain⟨⟨p,hp⟩,hsd⟩:(SV.px [b] (.sd m):SV N.T).is C η H (a.eval x):=by rw[<-hs];exact hox hx
  have ey:=AP hn (hoy hx)
  rw[c1,<-hbl]at ey
  have fin:∀w',SH w' H ((Gj Y b .emp).map (·.2)++Of)->K (a.put o.dst (sv (S4 l))) w':=fun w' hw'=>
   hK _ w' H η (Gj Y b .emp) (Hp.le.refl H) (fun _ _=>rfl) (fun j hj=>L9 fun e=>hj (by subst e;simp[keys])) (fun j sr hj=>by
    simp only[An]at hj
    split at hj
    ·cases hj;exact .inl rfl
    ·cases hj) (by rw[DJ];exact hn') (fun j hj=> .inl (by rw[DJ]at hj;exact hj)) hw' ⟨[_],rfl,rfl⟩
  by_cases h0:l=[]
  ·subst h0
   have hop:Am P o.op o.type (EV a) H (Y.map (·.2)++Of) (sv (S4 [])):=by
    rw[ho]
    exact Am.IZ (congrArg some hp) (congrArg some ey)
   refine Oper.Bt (hop a w o rf rf (fun x u e=>by simpa using e) hs') hs' fun w' hw'=>fin w' ?_
   rw[<-h3]
   exact hw'.set h2 ⟨rfl,rfl,rfl,Nat.le_refl _,fun _ _ _=>rfl⟩ trivial (fun b hb=>by cases hb)
  ·have hpos:0<m:=by rw[c2];exact List.length_pos_iff.2 h0
   obtain⟨u,e5,e6⟩:=hsd hpos
   have e5:u=η b:=by simpa using e5.symm
   subst e5
   have hLB:AM u5 H (S4 l) xs:=QY.2 (U5 hL)
   have h2:(Y.map (·.2)++Of)[i]?=some (.row (η b) g 1 (S4 l).length xs):=by rw[hbl];exact h2
   have hop:=Bl.unsafeString (P:=P) (T:=o.type) (E:=EV a) (x:=x) (y:=y) (pt:=pt) (it:=it) (e:=g) hpt (Nat.eq_of_beq_eq_true hce) (congrArg some e6) (congrArg some ey) h2 hLB (fun e=>h0 (by
    have:=congrArg List.length e
    rw[hbl]at this
    exact List.length_eq_zero_iff.1 this))
   refine hop a w o K Q ho rf (fun x u e=>by simpa using e) hs' fun v w' H' O' hle ⟨e7,e8,e9⟩ hw'=>?_
   subst e7;subst e8;subst e9
   rw[h3]at hw'
   exact fin w' hw'
 ·simp only[keys,List.map_cons,List.map_nil,List.mem_singleton]at hj
  subst hj
  rw[hb]at hnone;cases hnone
end
end Go.GV
namespace Go.GV
open Go Go.GK
section
variable {P : Program} {H : Hp} {O : List Ao} {E : Operand -> Option Value} {T : TypeId} {x y : Operand} {kk : IntKind} {m n : Int} {tys : Array TypeId}
theorem Am.max2(hx:E x=some (.int kk m))(hy:E y=some (.int kk n)):Am P (.call {callee:= .builtin .max,args:= #[x,y],argTypes:=tys}) T E H O (.int kk (if n>m then n else m)):= .Aj fun a w o ho _ he _=>by
 simp[execOp,ho,he x _ hx,he y _ hy,resolve,invoke,builtin,Builtin.max_,Builtin.max2]
theorem Am.min2(hx:E x=some (.int kk m))(hy:E y=some (.int kk n)):Am P (.call {callee:= .builtin .min,args:= #[x,y],argTypes:=tys}) T E H O (.int kk (if n<m then n else m)):= .Aj fun a w o ho _ he _=>by
 simp[execOp,ho,he x _ hx,he y _ hy,resolve,invoke,builtin,Builtin.min_,Builtin.min2]
theorem Bl.YJ{t e:TypeId}{size:Nat}{ii:TypeInfo}{v z:Value}{i m m':Nat}{xs news:List Value}(ht:P.underlying t=some (.slice e))(hii:P.info? e=some ii)(hsz:ii.size=size)(hty:tys[0]?=some t)(hx:E x=some v)(hy:E y=some z)
  (hi:O[i]?=some (.row v e size m xs)) (hsrc:∀w,SH w H O->GK.Src w z size m' news) (h1:∀u∈news,u.oneCell'=true):
  Bl P (.call {callee:= .builtin .copy,args:= #[x,y],argTypes:=tys}) T E H O (fun v' H' O'=>H'=H/\O'=O.set i (.row v e size m (news.take (min m' m*size)++xs.drop (min m' m*size)))/\v'= .int .i64 (min m' m:Nat)):=by
 intro a w o next Q ho hT he hw k
 have hown:=hw.ok i _ hi
 simp only[Ao.ok]at hown
 obtain⟨hlen,hsrc⟩:=hsrc w hw
 have hxl:=hown.1
 have sx:=he x _ hx
 have sy:=he y _ hy
 have none_:min m' m=0->(Builtin.copy_ tys o.type #[v,z]).run P w= .ok (goInt 0) w->o.wp P a w next Q:=fun h0 hr=>by
  unfold Oper.wp
  simp[execOp,ho,resolve,invoke,builtin,sx,sy,hr,Result.andThen]
  refine k _ w H _ (Hp.le.refl H) ⟨rf,rf,?_⟩ ?_
  ·rw[h0];rfl
  ·rw[h0]
   simp only[Nat.zero_mul,List.take_zero,List.drop_zero,List.nil_append]
   rw[NF hi];exact hw
 rcases hown.2 with⟨rfl,rfl⟩|⟨g,cap,cur,rfl,hg0,hg,hnc,hcap,hcs,htake⟩
 ·refine none_ (by simp) ?_
  rcases hsrc with⟨rfl,rfl⟩|⟨ad,c,rfl,hcells⟩
  ·simp[Builtin.copy_,hty,run_underlying ht,Builtin.lenOf,Builtin.firstCells,sizeOf,typeInfo,hii]
  ·have:=run_loadCells_list (P:=P) w ad [] (fun j v h=>by simp at h)
   simp at this
   simp[Builtin.copy_,hty,run_underlying ht,Builtin.lenOf,Builtin.firstCells,sizeOf,typeInfo,hii,this]
 ·rcases hsrc with⟨rfl,rfl⟩|⟨ad,c,rfl,hcells⟩
  ·refine none_ (by simp) ?_
   simp[Builtin.copy_,hty,run_underlying ht,Builtin.lenOf,Builtin.firstCells,sizeOf,typeInfo,hii,storeCells]
  ·have hle:min m' m*size<=news.length:=by rw[hlen];exact Nat.mul_le_mul_right _ (Nat.min_le_left _ _)
   have hln:(news.take (min m' m*size)).length=min m' m*size:=by rw[List.length_take];omega
   have hl:=run_loadCells_list (P:=P) w ad (news.take (min m' m*size)) (fun j u hj=>hcells j u (by
    rw[List.getElem?_take]at hj
    split at hj
    ·exact hj
    ·cases hj))
   rw[hln]at hl
   have hfit:min m' m*size<=cur.size:=by rw[hcs];exact Nat.mul_le_mul_right _ (by omega)
   have hst:=run_storeCells_at P g 0 e (news.take (min m' m*size)) 0 cur w hg (by simpa [hln]using hfit) (fun u hu=>h1 u (List.mem_of_mem_take hu))
   simp only[Nat.zero_add,List.take_zero,List.nil_append,hln]at hst
   have hr:(Builtin.copy_ tys o.type #[.slice (some ⟨g,0,none⟩) m cap, .slice (some ad) m' c]).run P w= .ok (goInt (Nat.min m' m:Nat)) (w.setRow g (news.take (min m' m*size)++cur.toList.drop (min m' m*size)).toArray):=by
    simp[Builtin.copy_,hty,run_underlying ht,Builtin.lenOf,Builtin.firstCells,sizeOf,typeInfo,hii,hsz,hl,hst]
   unfold Oper.wp
   simp[execOp,ho,resolve,invoke,builtin,sx,sy,hr,Result.andThen]
   refine k _ _ H _ (Hp.le.refl H) ⟨rf,rf,by simp[goInt,Nat.min_def];try omega⟩ (hw.set hi (DT w g _) ?_ (fun b hb=> .inl hb))
   refine⟨?_, .inr ⟨g,cap,(news.take (min m' m*size)++cur.toList.drop (min m' m*size)).toArray,rf,hg0,setRow_heap w g cur _ e _ hg,hnc,hcap,?_,?_⟩⟩
   ·rw[List.length_append,hln,List.length_drop,hxl]
    have:min m' m*size<=m*size:=Nat.mul_le_mul_right _ (Nat.min_le_right _ _)
    omega
   ·simp[hln];omega
   ·have hms:min m' m*size<=m*size:=Nat.mul_le_mul_right _ (Nat.min_le_right _ _)
    simp only[List.take_append,hln]
    rw[List.take_of_length_le (by rw[hln];exact hms),<-htake,List.drop_take]
end
section
variable {N : Cw} {R : Type} {P : Program} {C : List (SV N.T)} {S : Nat -> SV N.T} {Rr : Nat -> Option (SR N.T)} {nk : Nat} {o : Oper} {k : A_ N.T -> Nat -> Option R} {r : R}
def gl(S:Nat->SV N.T)(nk:Nat)(x y:Operand)(k:A_ N.T->Nat->Option R):Option R:=match intOf (Ap S x),intOf (Ap S y)with
 |some (kk,m),some (kk',n)=>match kb kk kk' with
  |true=>Ab kk (if n>m then n else m) (k ⟨.d (.int kk) (if n>m then n else m),[],[]⟩ nk)
  |false=>none
 |_,_=>none
def gj(S:Nat->SV N.T)(nk:Nat)(x y:Operand)(k:A_ N.T->Nat->Option R):Option R:=match intOf (Ap S x),intOf (Ap S y)with
 |some (kk,m),some (kk',n)=>match kb kk kk' with
  |true=>Ab kk (if n<m then n else m) (k ⟨.d (.int kk) (if n<m then n else m),[],[]⟩ nk)
  |false=>none
 |_,_=>none
theorem ff{x y:Operand}{tys:Array TypeId}(ho:o.op= .call {callee:= .builtin .max,args:= #[x,y],argTypes:=tys})(h:gl S nk x y k=some r):AL P C S Rr nk o k r:=by
 unfold gl at h
 split at h
 ·rename_i kk m kk' n hx hy
  split at h
  ·rename_i hb
   have e:=LG hb;subst e
   obtain⟨_,h2,h3⟩:=Bs h
   refine .y h3 (Al.Cy fun η H O a g _=>⟨_,?_,Dd h2⟩) fun _ _=>trivial
   rw[ho]
   exact Am.max2 (congrArg some (AP hx (g x (by rw[ho];simp[Op.operands,Call.operands])))) (congrArg some (AP hy (g y (by rw[ho];simp[Op.operands,Call.operands]))))
  ·cases h
 ·cases h
theorem fa{x y:Operand}{tys:Array TypeId}(ho:o.op= .call {callee:= .builtin .min,args:= #[x,y],argTypes:=tys})(h:gj S nk x y k=some r):AL P C S Rr nk o k r:=by
 unfold gj at h
 split at h
 ·rename_i kk m kk' n hx hy
  split at h
  ·rename_i hb
   have e:=LG hb;subst e
   obtain⟨_,h2,h3⟩:=Bs h
   refine .y h3 (Al.Cy fun η H O a g _=>⟨_,?_,Dd h2⟩) fun _ _=>trivial
   rw[ho]
   exact Am.min2 (congrArg some (AP hx (g x (by rw[ho];simp[Op.operands,Call.operands])))) (congrArg some (AP hy (g y (by rw[ho];simp[Op.operands,Call.operands]))))
  ·cases h
 ·cases h
def YI{α:Type}(l l2:List α):List α:=l2.take (min l2.length l.length)++l.drop (min l2.length l.length)
theorem VM{α:Type}(l l2:List α):(YI l l2).length=l.length:=by
 unfold YI;rw[List.length_append,List.length_take,List.length_drop];omega
theorem LB{α:Type}{c:Cd α}{H:Hp} :∀ {l:List α} {xs:List Value} (m:Nat),AM c H l xs->AM c H (l.drop m) (xs.drop (m*c.sz))
 |l,xs,0,h=>by simpa using h
 | [],xs,m+1,h=>by simp only[AM]at h;subst h;simp[AM]
 |a::l,_,m+1,⟨cs,ys,e,h1,h2⟩=>by
  subst e
  have:=LB m h2
  have e:(cs++ys).drop ((m+1)*c.sz)=ys.drop (m*c.sz):=by
   have hl:=c.len h1
   have e2:(m+1)*c.sz=cs.length+m*c.sz:=by rw[hl,Nat.add_mul,Nat.one_mul,Nat.add_comm]
   rw[e2,<-List.drop_drop,List.drop_left]
  rw[e]
  exact this
def VN(P:Program)(S:Nat->SV N.T)(Rr:Nat->Option (SR N.T))(nk:Nat)(x y:Operand)(t:TypeId)(k:A_ N.T->Nat->Option R):Option R:=match P.underlying t,Ap S x with
 |some (.slice e), .Az b=>match Rr b with
  |some (.row g te l)=>match Nat.beq g e&&Dx P e (te.sz N),R2 S Rr te y with
   |true,some (l2,rd)=>Ah (min l2.length l.length<=Ak) (k ⟨.na (min l2.length l.length),rd,[(b, .row g te (YI l l2))]⟩ nk)
   |_,_=>none
  |_=>none
 |_,_=>none
theorem XJ{x y:Operand}{t t2:TypeId}(ho:o.op= .call {callee:= .builtin .copy,args:= #[x,y],argTypes:= #[t,t2]})(h:VN P S Rr nk x y t k=some r):AL P C S Rr nk o k r:=by
 unfold VN at h
 split at h
 ·rename_i e b ht hs
  split at h
  ·rename_i g te l hb
   split at h
   ·rename_i l2 rd hI hsrc
    obtain⟨hc,h⟩:=AF h
    refine .set h hb (Al.J9 hb (by simp) fun η H O a X i hx h1 h2 hr=>?_) fun _ _=>trivial
    rw[Bool.and_eq_true]at hI
    have e1:=Nat.eq_of_beq_eq_true hI.1
    subst e1
    obtain⟨xs,e3,hL⟩:=h2
    subst e3
    have hv:(SV.Az b:SV N.T).is C η H (a.eval x):=by rw[<-hs];exact hx x (by rw[ho];simp[Op.operands,Call.operands])
    obtain⟨ys,hy,hsr⟩:=Jd hsrc (hx y (by rw[ho];simp[Op.operands,Call.operands])) hr
    obtain⟨bytes,z,hz,hzs,_,_,_⟩:=Dh hI.2
    obtain⟨ii,hii,g1,_,_⟩:=hz.ex
    have hlay:AM (N.c te) H (YI l l2) (ys.take (min l2.length l.length*te.sz N)++xs.drop (min l2.length l.length*te.sz N)):=by
     have a1:=AM.take (min l2.length l.length) hy
     have a2:=LB (min l2.length l.length) hL
     rw[A5]at a1 a2
     exact a1.app a2
    refine⟨.row (η b) g (te.sz N) l.length (ys.take (min l2.length l.length*te.sz N)++xs.drop (min l2.length l.length*te.sz N)),⟨_,by rw[VM],hlay⟩,?_⟩
    rw[ho]
    rw[<-hv.1]at h1
    refine(Bl.YJ (tys:= #[t,t2]) ht hii g1 rf rf rf h1 hsr hy.one).mono ?_
    rintro v' H' O' ⟨rfl,rfl,rfl⟩
    refine⟨rf,by rw[hv.1],rf,?_⟩
    simp only[Ak,JG]at*
    omega
   ·cases h
  ·cases h
 ·cases h
theorem TR{te:Ty}(ha:te.agg=false):te.sz N=1:=by
 unfold Ty.agg at ha
 split at ha
 ·cases ha
 ·cases ha
 ·cases ha
 ·cases ha
 ·cases ha
 ·cases ha
 ·rename_i q1 q2 q3 q4 q5 q6
  unfold Ty.sz
  split
  ·exact absurd rf (q1 _)
  ·exact absurd rf (q5 _ _)
  ·exact absurd rf q6
  ·exact absurd rf q2
  ·exact absurd rf (q3 _)
  ·exact absurd rf (q4 _ _)
  ·rfl
def uN(P:Program)(S:Nat->SV N.T)(nk:Nat)(t:TypeId)(x:Operand)(i:Nat)(k:A_ N.T->Nat->Option R):Option R:=match Yu P t i with
 |some (off,ft,m+1)=>match Jc N P ft,Ap S x with
  |some te, .d t' y=>match t'.agg,Ec N 16 t' y off te with
   |true,some z=>k ⟨.d te z,[],[]⟩ nk
   |_,_=>none
  |_,_=>none
 |_=>none
theorem nN{t:TypeId}{x:Operand}{i:Nat}(ho:o.op= .field t x i)(h:uN P S nk t x i k=some r):AL P C S Rr nk o k r:=by
 unfold uN at h
 split at h
 ·rename_i off ft m hf
  obtain⟨fs,f,f1,f2,f3,f4,_⟩:=(Zk.of hf).ex
  split at h
  ·rename_i te t' y hte hs
   split at h
   ·rename_i z hag hsub
    refine .y h (Al.Cy fun η H O a hx _=>?_) fun _ _=>trivial
    obtain⟨cs,e1,e2⟩:(SV.d t' y:SV N.T).is C η H (a.eval x):=by rw[<-hs];exact hx x (by rw[ho];simp[Op.operands])
    have e2:(match t'.agg with|true=>a.eval x= .agg cs.toArray|false=>cs=[a.eval x]):=e2
    rw[hag]at e2
    have e2:a.eval x= .agg cs.toArray:=e2
    obtain⟨d,hd,hda,bytes,zz,hti⟩:=GG hte
    obtain⟨hl,hle⟩:=Cq hsub e1
    cases hta:te.agg with
    |true=>
     refine⟨.agg (cs.toArray.extract off (off+te.sz N)),?_,(cs.drop off).take (te.sz N),hl,?_⟩
     ·rw[ho]
      refine Am.Aj fun ac w o' ho' _ he _=>?_
      have:=he x _ rfl
      simp[execOp,ho',this,e2,Instr.field,AG f1,f2,asAgg,part,f4,f3,BE hd,hda,hta,hti.sizeOf]
     ·unfold BS;rw[hta]
      simp only[Value.agg.injEq]
      apply Array.ext'
      simp[List.extract_eq_take_drop]
    |false=>
     have h1:=TR (N:=N) hta
     rw[h1]at hl hle
     have hlt:off<cs.length:=by omega
     have hc:(cs.drop off).take 1=[cs[off]]:=by rw[List.drop_eq_getElem_cons hlt];rfl
     rw[hc]at hl
     refine⟨cs[off],?_,[cs[off]],hl,?_⟩
     ·rw[ho]
      refine Am.Aj fun ac w o' ho' _ he _=>?_
      have:=he x _ rfl
      simp[execOp,ho',this,e2,Instr.field,AG f1,f2,asAgg,part,f4,f3,BE hd,hda,hta,hlt]
     ·unfold BS;rw[hta]
   ·cases h
  ·cases h
 ·cases h
end
end Go.GV
namespace Go.GV
open Go Go.GK
section
variable {N : Cw} {R : Type} {P : Program} {C : List (SV N.T)} {S : Nat -> SV N.T} {Rr : Nat -> Option (SR N.T)} {nk : Nat} {o : Oper} {k : A_ N.T -> Nat -> Option R} {r : R}
def II:Ty->Option (List IntKind)
 | .int k=>some [k]
 | .st t=>II t
 | .pr a b=>match II a,II b with
  |some x,some y=>some (x++y)
  |_,_=>none
 |_=>none
def CV:(t:Ty)->t.den N.T->List Int
 | .int _,x=>[x]
 | .st t,x=>CV t x
 | .pr a b,x=>CV a x.1++CV b x.2
 |_,_=>[]
theorem Cb:∀ {t:Ty} {x:t.den N.T} {ks:List IntKind},II t=some ks->(CV t x).length=ks.length
 | .int _,_,_,h=>by cases h;rfl
 | .st t,x,_,h=>Cb (t:=t) h
 | .pr a b,x,ks,h=>by
  unfold II at h
  split at h
  ·rename_i p q h1 h2
   cases h
   show(CV a x.1++CV b x.2).length=_
   rw[List.length_append,List.length_append,Cb h1,Cb h2]
  ·cases h
theorem Nh:∀ {ks:List IntKind} {xs:List Int} {ks':List IntKind} {ys:List Int},xs.length=ks.length->Cj (ks++ks') (xs++ys)=Cj ks xs++Cj ks' ys
 | [],[],_,_,_=>rfl
 |k::ks,x::xs,_,_,h=>by
  simp only[Cj,List.cons_append,List.zipWith_cons_cons]
  congr 1
  exact Nh (by simpa using h)
 | [],_::_,_,_,h=>by simp at h
 |_::_,[],_,_,h=>by simp at h
theorem Dc{H:Hp} :∀ {t:Ty} {x:t.den N.T} {ks:List IntKind} {cs:List Value},II t=some ks->(N.c t).Bm H x cs->cs=Cj ks (CV t x)
 | .int k,x,_,cs,h,hl=>by cases h;exact(Db.1 hl).1
 | .st t,x,_,cs,h,hl=>Dc (t:=t) h hl
 | .pr a b,x,ks,cs,h,hl=>by
  unfold II at h
  split at h
  ·rename_i p q h1 h2
   cases h
   obtain⟨c1,c2,rfl,g1,g2⟩:=hl
   show _=Cj (p++q) (CV a x.1++CV b x.2)
   rw[Nh (Cb h1),<-Dc h1 g1,<-Dc h2 g2]
  ·cases h
def two(C:List (SV N.T))(t:Ty)(x y:SV N.T):Option (t.den N.T×t.den N.T):=match OV C t x,OV C t y with
 |some a,some b=>some (a,b)
 |_,_=>none
def jm(P:Program)(t:TypeId)(ks:List IntKind):Bool:=match P.underlying t with
 |some (.array n e)=>match P.underlying e with
  |some (.int k)=>(OU P e 1&& !P.eqGuardType P.depth t)&&(Nat.beq ks.length n&&ks.all fun j=>kb j k)
  |_=>false
 |_=>false
theorem JA{k:IntKind} :∀ {ks:List IntKind} {xs:List Int},(∀j∈ks,j=k)->xs.length=ks.length->Cj ks xs=xs.map (Value.int k)
 | [],[],_,_=>rfl
 |j::ks,x::xs,h,hl=>by
  simp only[Cj,List.zipWith_cons_cons,List.map_cons,h j (by simp)]
  congr 1
  exact JA (fun j hj=>h j (by simp[hj])) (by simpa using hl)
 | [],_::_,_,h=>by simp at h
 |_::_,[],_,h=>by simp at h
theorem Am.iz{H:Hp}{O:List Ao}{E:Operand->Option Value}{T u:TypeId}{ne:Bool}{t:TypeId}{ks:List IntKind}{xs ys:List Int}{x y:Operand}(hb:jm P t ks=true)(hx:E x=some (.agg (Cj ks xs).toArray))(hy:E y=some (.agg (Cj ks ys).toArray))(h1:xs.length=ks.length)(h2:ys.length=ks.length):
  Am P (.binOp (match ne with|true=> .neq|false=> .eql) t x y u) T E H O (.bool (match ne with|true=> !decide (xs=ys)|false=>decide (xs=ys))):=by
 unfold jm at hb
 split at hb
 ·rename_i n e ht
  split at hb
  ·rename_i k he
   simp only[Bool.and_eq_true,Bool.not_eq_true']at hb
   obtain⟨⟨b1,b2⟩,b3,b4⟩:=hb
   have b3:=Nat.eq_of_beq_eq_true b3
   have hk:∀j∈ks,j=k:=fun j hj=>LG (List.all_eq_true.1 b4 j hj)
   obtain⟨bytes,z,hti⟩:=Du b1
   rw[JA hk h1]at hx
   rw[JA hk h2]at hy
   cases ne with
   |true=>exact Am.dn b2 ht he hti hx hy (h1.trans b3) (h2.trans b3)
   |false=>exact Am.dv b2 ht he hti hx hy (h1.trans b3) (h2.trans b3)
  ·cases hb
 ·cases hb
def sB(P:Program)(C:List (SV N.T))(S:Nat->SV N.T)(nk:Nat)(ne:Bool)(t:TypeId)(x y:Operand)(k:A_ N.T->Nat->Option R):Option R:=match Jc N P t with
 |some .bs=>match P.underlying t with
  |some (.array 4 e)=>match P.underlying e,OU P e 1,P.eqGuardType P.depth t,two C .bs (Ap S x) (Ap S y)with
   |some (.int .u64),true,false,some (a,b)=>match ne with
    |false=>k ⟨.d .bool (W3 a b),[],[]⟩ nk
    |true=>k ⟨.d .bool (!W3 a b),[],[]⟩ nk
   |_,_,_,_=>none
  |_=>none
 |some (.st u)=>match II u,two C (.st u) (Ap S x) (Ap S y)with
  |some ks,some (a,b)=>match N9 P t ks with
   |true=>match ne with
    |false=>k ⟨.d .bool (decide (CV u a=CV u b)),[],[]⟩ nk
    |true=>k ⟨.d .bool (!decide (CV u a=CV u b)),[],[]⟩ nk
   |false=>match jm P t ks with
    |true=>k ⟨.d .bool (match ne with|true=> !decide (CV u a=CV u b)|false=>decide (CV u a=CV u b)),[],[]⟩ nk
    |false=>none
  |_,_=>none
 |_=>none
theorem L_{t:Ty}{x y:SV N.T}{a b:t.den N.T}{η:Nat->Value}{H:Hp}{v w:Value}(h:two C t x y=some (a,b))(hx:x.is C η H v)(hy:y.is C η H w):(SV.d t a).is C η H v/\(SV.d t b).is C η H w:=by
 unfold two at h
 split at h
 ·rename_i p q h1 h2
  cases h
  exact⟨CC h1 hx,CC h2 hy⟩
 ·cases h
theorem ok_eq{ne:Bool}{t u:TypeId}{x y:Operand}(ho:o.op= .binOp (match ne with|true=> .neq|false=> .eql) t x y u)(h:sB P C S nk ne t x y k=some r):AL P C S Rr nk o k r:=by
 have hox:∀ {η:Nat->Value} {H:Hp} {a:Act},(∀x∈o.op.operands,(Ap S x).is C η H (a.eval x))->(Ap S x).is C η H (a.eval x):=fun hx=>hx x (by rw[ho];simp[Op.operands])
 have hoy:∀ {η:Nat->Value} {H:Hp} {a:Act},(∀x∈o.op.operands,(Ap S x).is C η H (a.eval x))->(Ap S y).is C η H (a.eval y):=fun hx=>hx y (by rw[ho];simp[Op.operands])
 unfold sB at h
 split at h
 ·split at h
  ·rename_i e ht
   split at h
   ·rename_i a b he hz hg h2
    obtain⟨bytes,z,hti⟩:=Du hz
    have val:∀ {η:Nat->Value} {H:Hp} {ac:Act},(∀x∈o.op.operands,(Ap S x).is C η H (ac.eval x))->ac.eval x= .agg (KL a)/\ac.eval y= .agg (KL b):=fun hx=>by
     obtain⟨⟨c1,g1,g2⟩,c2,g3,g4⟩:=L_ h2 (hox hx) (hoy hx)
     have g1:c1=(KL a).toList:=g1
     have g3:c2=(KL b).toList:=g3
     subst g1;subst g3
     have g2:_=Value.agg (KL a).toList.toArray:=g2
     have g4:_=Value.agg (KL b).toList.toArray:=g4
     rw[Array.toArray_toList]at g2 g4
     exact⟨g2,g4⟩
    split at h
    ·refine .y h (Al.Cy fun η H O ac hx _=>?_) fun _ _=>trivial
     obtain⟨e1,e2⟩:=val hx
     exact⟨_,by rw[ho];exact Am.uP hg ht he hti (congrArg some e1) (congrArg some e2),Ch⟩
    ·refine .y h (Al.Cy fun η H O ac hx _=>?_) fun _ _=>trivial
     obtain⟨e1,e2⟩:=val hx
     exact⟨_,by rw[ho];exact Am.ux hg ht he hti (congrArg some e1) (congrArg some e2),Ch⟩
   ·cases h
  ·cases h
 ·rename_i w hty
  split at h
  ·rename_i ks a b hk h2
   split at h
   ·rename_i hb
    have val:∀ {η:Nat->Value} {H:Hp} {ac:Act},(∀x∈o.op.operands,(Ap S x).is C η H (ac.eval x))->ac.eval x= .agg (Cj ks (CV w a)).toArray/\ac.eval y= .agg (Cj ks (CV w b)).toArray:=fun hx=>by
     obtain⟨⟨c1,g1,g2⟩,c2,g3,g4⟩:=L_ h2 (hox hx) (hoy hx)
     have g1:=Dc (t:=w) hk g1
     have g3:=Dc (t:=w) hk g3
     subst g1;subst g3
     exact⟨g2,g4⟩
    split at h
    ·refine .y h (Al.Cy fun η H O ac hx _=>?_) fun _ _=>trivial
     obtain⟨e1,e2⟩:=val hx
     exact⟨_,by rw[ho];exact Am.iw hb (congrArg some e1) (congrArg some e2) (Cb hk) (Cb hk),Ch⟩
    ·refine .y h (Al.Cy fun η H O ac hx _=>?_) fun _ _=>trivial
     obtain⟨e1,e2⟩:=val hx
     exact⟨_,by rw[ho];exact Am.ga hb (congrArg some e1) (congrArg some e2) (Cb hk) (Cb hk),Ch⟩
   ·split at h
    ·rename_i hb
     refine .y h (Al.Cy fun η H O ac hx _=>?_) fun _ _=>trivial
     obtain⟨⟨c1,g1,g2⟩,c2,g3,g4⟩:=L_ h2 (hox hx) (hoy hx)
     have g1:=Dc (t:=w) hk g1
     have g3:=Dc (t:=w) hk g3
     subst g1;subst g3
     exact⟨_,by rw[ho];exact Am.iz (ne:=ne) hb (congrArg some g2) (congrArg some g4) (Cb hk) (Cb hk),Ch⟩
    ·cases h
  ·cases h
 ·cases h
def V2(P:Program)(C:List (SV N.T))(S:Nat->SV N.T)(nk:Nat)(b:BinOp)(t:TypeId)(x y:Operand)(k:A_ N.T->Nat->Option R):Option R:=match o4 P t with
 |true=>match b with
  | .eql=>sB P C S nk false t x y k
  | .neq=>sB P C S nk true t x y k
  |_=>none
 |false=>jg P S nk b t x y k
theorem XL{b:BinOp}{t u:TypeId}{x y:Operand}(ho:o.op= .binOp b t x y u)(h:V2 P C S nk b t x y k=some r):AL P C S Rr nk o k r:=by
 unfold V2 at h
 split at h
 ·split at h
  ·exact ok_eq (ne:=false) ho h
  ·exact ok_eq (ne:=true) ho h
  ·cases h
 ·exact fK ho h
end
end Go.GV
namespace Go.GV
open Go Go.GK
def EK(Y:List (Nat×Ao))(k:Nat):List (Nat×Ao):=Y.filter fun p=> !Nat.beq p.1 k
theorem Ei{Y:List (Nat×Ao)}{k j:Nat}(h:j≠k):An (EK Y k) j=An Y j:=by
 induction Y with
 |nil=>rfl
 |cons p Y ih=>
  obtain⟨q,y⟩:=p
  simp only[EK,List.filter_cons]at ih⊢
  cases hb:Nat.beq q k with
  |true=>
   have:=Nat.eq_of_beq_eq_true hb;subst this
   simp only[Bool.not_true,Bool.false_eq_true,if_false,ih,An]
   cases hb2:Nat.beq q j with
   |true=>exact absurd (Nat.eq_of_beq_eq_true hb2).symm h
   |false=>rfl
  |false=>
   simp only[Bool.not_false,if_true,An,ih]
theorem De{Y:List (Nat×Ao)}{k j:Nat}(h:j∈keys (EK Y k)):j∈keys Y:=by
 obtain⟨p,hp,e⟩:=List.mem_map.1 h
 exact List.mem_map.2 ⟨p,(List.mem_filter.1 hp).1,e⟩
theorem Hw{Y:List (Nat×Ao)}{k:Nat}(h:(keys Y).Nodup):(keys (EK Y k)).Nodup:=by
 unfold keys EK
 exact(List.filter_sublist.map _).nodup h
theorem SO{Y:List (Nat×Ao)}{k:Nat}(h:k∉keys Y):EK Y k=Y:=by
 unfold EK
 rw[List.filter_eq_self]
 intro p hp
 cases hb:Nat.beq p.1 k with
 |true=>exact absurd (List.mem_map.2 ⟨p,hp,Nat.eq_of_beq_eq_true hb⟩) h
 |false=>rfl
theorem SM{Y:List (Nat×Ao)}(Of:List Ao){k:Nat}{x:Ao}(hn:(keys Y).Nodup)(h:An Y k=some x):∃i,(Y.map (·.2)++Of)[i]?=some x/\(Y.map (·.2)++Of).eraseIdx i=(EK Y k).map (·.2)++Of:=by
 induction Y with
 |nil=>cases h
 |cons p Y ih=>
  obtain⟨q,y⟩:=p
  simp only[An]at h
  simp only[keys,List.map_cons,List.nodup_cons]at hn
  cases hb:Nat.beq q k with
  |true=>
   rw[hb]at h;cases h
   have:=Nat.eq_of_beq_eq_true hb;subst this
   refine⟨0,rf,?_⟩
   have:EK ((q,x)::Y) q=Y:=by
    unfold EK
    rw[List.filter_cons]
    simp only[Nat.beq_refl,Bool.not_true,Bool.false_eq_true,if_false]
    exact SO hn.1
   rw[this];rfl
  |false=>
   rw[hb]at h
   obtain⟨i,h1,h2⟩:=ih hn.2 h
   refine⟨i+1,by simpa using h1,?_⟩
   have:EK ((q,y)::Y) k=(q,y)::EK Y k:=by
    unfold EK
    rw[List.filter_cons];simp[hb]
   rw[this]
   simp only[List.map_cons,List.cons_append,List.eraseIdx_cons_succ,h2]
section
variable {N : Cw}
def E3(k:Nat)(t:Ty)(l:List (t.den N.T)):SV N.T->SV N.T
 | .Az j=>match Nat.beq j k with
  |true=> .d (.sl t) l
  |false=> .Az j
 | .Di j i off te x=>match Nat.beq j k with
  |true=> .no
  |false=> .Di j i off te x
 | .lf s a r=> .lf s (E3 k t l a) (E3 k t l r)
 | .t2 a b=> .t2 (E3 k t l a) (E3 k t l b)
 | .t3 a b c=> .t3 (E3 k t l a) (E3 k t l b) (E3 k t l c)
 | .AA f r cs=> .AA f (E3 k t l r) cs
 | .vc a r=> .vc (E3 k t l a) (E3 k t l r)
 |s=>s
variable {C : List (SV N.T)} {η : Nat -> Value} {H : Hp}
theorem Cf{g:Nat->Value->Prop}{k:Nat}{t:Ty}{l:List (t.den N.T)}(h:Fa (N.c t) H l (η k)):∀ {s:SV N.T} {v:Value},s.Bo g η H v->(E3 k t l s).Bo g η H v
 | .Az j,v,hv=>by
  unfold E3
  split
  ·rename_i hb
   have:=Nat.eq_of_beq_eq_true hb;subst this
   exact⟨[v],⟨v,rf,by rw[hv.1];exact h⟩,rf⟩
  ·exact hv
 | .Di j i off te x,v,hv=>by
  unfold E3
  split
  ·trivial
  ·exact hv
 | .lf s a r,v,⟨c1,c2,u,h1,h2,h3,h4,h5,h6⟩=>⟨c1,c2,u,h1,h2,Cf h h3,h4,h5,Cf h h6⟩
 | .t2 a b,v,⟨x,y,h1,h2,h3⟩=>⟨x,y,h1,Cf h h2,Cf h h3⟩
 | .t3 a b c,v,⟨x,y,z,h1,h2,h3,h4⟩=>⟨x,y,z,h1,Cf h h2,Cf h h3,Cf h h4⟩
 | .AA f r cs,v,⟨us,h1,h2⟩=>⟨us,h1,Cf h h2⟩
 | .vn,_,h=>h
 | .vc a r,v,⟨u,us,h1,h2,h3⟩=>⟨u,us,h1,Cf h h2,Cf h h3⟩
 | .d _ _,_,h=>h
 | .na _,_,h=>h
 | .ct _ _,_,h=>h
 | .cb _ _,_,h=>h
 | .lt _ _ _,_,h=>h
 | .lb _,_,h=>h
 | .raw _,_,h=>h
 | .ud,_,h=>h
 | .no,_,h=>h
 | .loc _ _,_,h=>h
 | .pd _ _ _,_,h=>h
 | .mp _,_,h=>h
 | .nl,_,h=>h
 | .px _ _,_,h=>h
 | .BO _,_,h=>h
end
end Go.GV
namespace Go.GV
open Go Go.GK
theorem Jm{Y:List (Nat×Ao)}(Of:List Ao){k:Nat}{x:Ao}(h:An Y k=some x):(Y.map (·.2)++Of)[(keys Y).idxOf k]?=some x/\(keys Y).idxOf k<Y.length:=by
 induction Y with
 |nil=>cases h
 |cons p Y ih=>
  obtain⟨q,y⟩:=p
  simp only[An]at h
  simp only[keys,List.map_cons]
  rw[List.idxOf_cons]
  cases hb:Nat.beq q k with
  |true=>
   rw[hb]at h;cases h
   have:=Nat.eq_of_beq_eq_true hb;subst this
   simp
  |false=>
   rw[hb]at h
   have hne:(q==k)=false:=by simpa using Nat.ne_of_beq_eq_false hb
   obtain⟨h1,h2⟩:=ih h
   rw[hne]
   simp only[cond_false]
   unfold keys at h1 h2
   exact⟨by simpa using h1,by simpa using h2⟩
inductive PP where
 |sub (j n:Nat) (t:Ty)
 |sf
 |hc (n:Nat)
inductive SP where
 |v (j:Nat) (t:Ty)
 |AK (j i:Nat)
 |nat (j:Nat)
 |Aa
 |kp (t:Ty)
 |c (j:Nat)
 |Az (k:Nat)
 |loc (k off:Nat)
 |AA (f:Nat) (fs:List (Nat×Ty)) (cs:List Nat)
 |nl
 |sv (ls:List (Nat×Nat×Ty))
 |mp (k:Nat)
 |px (ks:List Nat) (p:PP)
 |pd (j:Nat) (t:Ty) (off:Nat)
inductive RP where
 |row (g:TypeId) (j:Nat)
 |Af (g:TypeId) (ls:List (Nat×SP))
 |c (j:Nat)
 |map (g:TypeId) (j:Nat)
 |DB (g e:TypeId) (h j:Nat)
inductive HT where
 |Ae (t:Ty)
 |nat
structure AY where
 hs:List HT
 sl:List (Nat×SP)
 ro:List (Nat×RP)
 nk:Nat
section
variable (N : Cw)
def HT.den:HT->Type
 | .Ae t=>t.den N.T
 | .nat=>Nat
def Bu:List HT->Type
 | []=>Unit
 | [t]=>t.den N
 |t::u::ts=>t.den N×Bu (u::ts)
def vb{T:Nat->Type} :SV T->Option Nat
 | .na n| .ct _ n| .cb _ n=>some n
 | .raw (.int .i64 (.ofNat n))=>match Nat.ble n JG with
  |true=>some n
  |false=>none
 |_=>none
def mM(C:List (SV N.T)):(h:HT)->SV N.T->Option (h.den N)
 | .Ae t,s=>OV C t s
 | .nat,s=>vb s
def TE:(h:HT)->h.den N->SV N.T
 | .Ae t,x=> .d t x
 | .nat,n=> .na n
def oy(C:List (SV N.T))(f:Nat->SV N.T):Nat->(hs:List HT)->Option (Bu N hs)
 |_,[]=>some ()
 |j,[t]=>mM N C t (f j)
 |j,t::u::ts=>match mM N C t (f j),oy C f (j+1) (u::ts)with
  |some x,some y=>some (x,y)
  |_,_=>none
def BP:(hs:List HT)->Bu N hs->Nat->SV N.T
 | [],_,_=> .no
 | [t],x,0=>TE N t x
 | [_],_,_+1=> .no
 |t::_::_,x,0=>TE N t x.1
 |_::u::ts,x,j+1=>BP (u::ts) x.2 j
def ng(hs:List HT)(x:Bu N hs):List (Nat×Ty)->SV N.T
 | []=> .vn
 |(j,_)::l=> .vc (BP N hs x j) (ng hs x l)
def dY(hs:List HT)(x:Bu N hs):List (Nat×Nat×Ty)->SV N.T
 | []=> .nl
 |(s,j,_)::l=> .lf s (BP N hs x j) (dY hs x l)
def inst(hs:List HT)(x:Bu N hs):SP->SV N.T
 | .v j _| .nat j=>BP N hs x j
 | .AK j i=>match BP N hs x j with
  | .na n=> .ct i n
  |s=>s
 | .c j=> .BO j
 | .Az k=> .Az k
 | .loc k off=> .loc k off
 | .AA f fs cs=> .AA f (ng N hs x fs) cs
 | .nl=> .raw (.slice none 0 0)
 | .sv ls=>dY N hs x ls
 | .mp k=> .mp k
 | .px ks (.sub j n t)=>match BP N hs x j,BP N hs x n with
  | .na i, .na m=> .px ks (.sub i m t)
  |_,_=> .px ks .any
 | .px ks .sf=> .px ks .sf
 | .px ks (.hc n)=> .px ks (.hc n)
 | .pd j _ off=>match BP N hs x j with
  | .d t x=> .pd t x off
  |_=> .no
 |_=> .no
def instL(hs:List HT)(x:Bu N hs):List (Nat×SP)->SV N.T
 | []=> .nl
 |(s,p)::ls=> .lf s (inst N hs x p) (instL hs x ls)
def instR(hs:List HT)(x:Bu N hs):RP->SR N.T
 | .row g j=>match BP N hs x j with
  | .d (.sl t) l=> .row g t l
  |_=> .gone
 | .Af g ls=> .Af g (instL N hs x ls)
 | .c j=> .BO j
 | .map g j=>match BP N hs x j with
  | .d (.sl (.st (.pr kt vt))) l=> .map g kt vt l
  |_=> .gone
 | .DB g e h j=>match BP N hs x j with
  | .d (.sl (.pr .bool (.sl t))) l=> .DB g e t h l
  |_=> .gone
def Ep(p:AY)(x:Bu N p.hs):St N.T:=⟨p.sl.map fun q=>(q.1,inst N p.hs x q.2),p.ro.map fun q=>(q.1,instR N p.hs x q.2),p.nk⟩
def N4:SV N.T->Nat->Nat->Option (SV N.T)
 | .lf s a l,off,n=>match Nat.blt off s with
  |true=>match Nat.beq off 0&&Nat.beq s n with
   |true=>some a
   |false=>none
  |false=>N4 l (off-s) n
 |_,_,_=>none
def O8:SV N.T->Nat
 | .lf s _ l=>s+O8 l
 |_=>0
def whole{T:Nat->Type} :SV T->Bool
 | .lf _ _ r=>whole r
 | .nl=>true
 |_=>false
def RX:SV N.T->Nat
 | .d t _=>t.sz N
 |_=>1
def rT(f:Nat->Nat)(c:Nat):Option (SV N.T)->Bool
 |some (.px [k] .sf)=>Nat.beq (f c) k
 |some (.loc k 0)=>Nat.beq (f c) k
 |some (.raw (.pointer none))=>true
 |_=>false
def K8:Nat->List (Nat×SP)->List (Nat×Nat×SP)
 |_,[]=>[]
 |off,(s,p)::l=>(off,s,p)::K8 (off+s) l
def AJ(m:List (Nat×Nat))(c:Nat):Nat:=match An m c with
 |some k=>k
 |none=>c
def Mc(l:List (Nat×SP)):Nat:=l.foldr (fun q n=>q.1+n) 0
def zb(C:List (SV N.T))(b:SV N.T)(l:List (Nat×SP)):List (Nat×Nat):=(K8 0 l).flatMap fun q=>match q.2.2,DR N C b q.1 none with
 | .Az c,some (.Az k)=>[(c,k)]
 | .mp c,some (.mp k)=>[(c,k)]
 | .px cs .sf,some (.px ks .sf)=>cs.zip ks
 | .px [c] .sf,some (.loc k _)=>[(c,k)]
 | .AA _ _ cs,some (.AA _ _ ks)=>cs.zip ks
 |_,_=>[]
def gY(C:List (SV N.T))(b:SV N.T)(l:List (Nat×SP)):List (Nat×SV N.T):=(K8 0 l).flatMap fun q=>match q.2.2 with
 | .v j t=>[(j,(DR N C b q.1 (some t)).getD .no)]
 | .nat j=>[(j,(DR N C b q.1 none).getD .no)]
 |_=>[]
end
section
variable {N : Cw} {C : List (SV N.T)} {CR : List (SR N.T)} {n : Nat} {Of : List Ao} {bs : List (Nat × Value)} {st : St N.T} {η : Nat -> Value} {H : Hp} {a : Act} {w : World}
theorem ji{s:SV N.T}{m:Nat}{v:Value}(h:vb s=some m)(hs:s.is C η H v):(SV.na m:SV N.T).is C η H v:=by
 unfold vb at h
 split at h
 ·cases h;exact hs
 ·cases h;exact hs
 ·cases h;exact⟨hs.1,Nat.le_of_lt hs.2⟩
 ·split at h
  ·rename_i hb
   cases h
   exact⟨hs,Nat.le_of_ble_eq_true hb⟩
  ·cases h
 ·cases h
theorem jj{h:HT}{s:SV N.T}{x:h.den N}{v:Value}(hx:mM N C h s=some x)(hs:s.is C η H v):(TE N h x).is C η H v:=by
 cases h with
 |Ae t=>exact CC (t:=t) hx hs
 |nat=>exact ji hx hs
theorem Xb{h:HT}{x:h.den N}{C':List (SV N.T)}{η':Nat->Value}{v:Value}(hs:(TE N h x).is C η H v):(TE N h x).is C' η' H v:=by
 cases h<;>exact hs
theorem Ho{f:Nat->SV N.T} :∀(hs:List HT) (i:Nat) (x:Bu N hs),oy N C f i hs=some x->∀j,BP N hs x j= .no\/∃h y,mM N C h (f (i+j))=some y/\BP N hs x j=TE N h y
 | [],_,_,_,_=> .inl rfl
 | [t],i,x,h,j=>by
  cases j with
  |zero=>exact .inr ⟨t,x,h,rfl⟩
  |succ j=>exact .inl rfl
 |t::u::ts,i,x,h,j=>by
  have h:(match mM N C t (f i),oy N C f (i+1) (u::ts)with
   |some x,some y=>some (x,y)
   |_,_=>none)=some x:=h
  split at h
  ·rename_i y z h1 h2
   cases h
   cases j with
   |zero=>exact .inr ⟨t,y,h1,rfl⟩
   |succ j=>
    have:=Ho (u::ts) (i+1) z h2 j
    rw[show i+1+j=i+(j+1) by omega]at this
    exact this
  ·cases h
theorem Ba:∀ {l:List Nat},BF l=true->l.Nodup
 | [],_=>List.nodup_nil
 |k::l,h=>by
  simp only[BF,Bool.and_eq_true,Bool.not_eq_true']at h
  refine List.nodup_cons.2 ⟨fun hm=>?_,Ba h.2⟩
  rw[AB.2 hm]at h;cases h.1
theorem MB{α:Type}{f:α->Nat} :∀ {l:List α},(l.map f).Nodup->∀ {a b:α},a∈l->b∈l->f a=f b->a=b
 | [],_,_,_,h,_,_=>by cases h
 |x::l,hn,a,b,ha,hb,e=>by
  rw[List.map_cons,List.nodup_cons]at hn
  rcases List.mem_cons.1 ha with e1|h1<;>rcases List.mem_cons.1 hb with e2|h2
  ·exact e1.trans e2.symm
  ·subst e1;exact(hn.1 (List.mem_map.2 ⟨_,h2,e.symm⟩)).elim
  ·subst e2;exact(hn.1 (List.mem_map.2 ⟨_,h1,e⟩)).elim
  ·exact MB hn.2 h1 h2 e
theorem E2{b:SV N.T}{q:Nat×Nat×SP}{l:List (Nat×SP)}(h:q∈K8 0 l):(∀j t,q.2.2= .v j t->(j,(DR N C b q.1 (some t)).getD .no)∈gY N C b l)/\∀j,q.2.2= .nat j->(j,(DR N C b q.1 none).getD .no)∈gY N C b l:=
 ⟨fun j t e=>List.mem_flatMap.2 ⟨q,h,by rw[e];simp⟩,fun j e=>List.mem_flatMap.2 ⟨q,h,by rw[e];simp⟩⟩
theorem HK:∀ {l:SV N.T} {cs:List Value},whole l=true->l.is C η H (.agg cs.toArray)->∀x∈cs,x.oneCell'=true:=by
 intro l
 induction l with
 |lf s a r _ ih=>
  intro cs hw h x hx
  obtain⟨c1,c2,u,rfl,h2,h3,h4,h5,h6⟩:=En h
  rcases List.mem_append.1 hx with hx|hx
  ·exact h5 x hx
  ·exact ih hw h6 x hx
 |nl=>
  intro cs _ h x hx
  have:cs=[]:=by
   have h:Value.agg cs.toArray= .agg #[]:=h
   simpa using h
  subst this;cases hx
 |_=>intro cs hw _;cases hw
theorem FU:∀ {l:SV N.T} {cs:List Value},whole l=true->l.is C η H (.agg cs.toArray)->O8 N l=cs.length:=by
 intro l
 induction l with
 |lf s a r _ ih=>
  intro cs hw h
  obtain⟨c1,c2,u,rfl,h2,h3,h4,h5,h6⟩:=En h
  have:=ih hw h6
  simp only[O8,List.length_append];omega
 |nl=>
  intro cs _ h
  have:cs=[]:=by
   have h:Value.agg cs.toArray= .agg #[]:=h
   simpa using h
  subst this;rfl
 |_=>intro cs hw _;cases hw
theorem UY:∀ {l s:SV N.T} {off m:Nat} {cs:List Value},N4 N l off m=some s->l.is C η H (.agg cs.toArray)->∃u,s.is C η H u/\u.cells.toList=(cs.drop off).take m/\u.cells.toList.length=m:=by
 intro l
 induction l with
 |lf s a r _ ih=>
  intro sv off m cs h hl
  obtain⟨c1,c2,u,rfl,h2,h3,h4,h5,h6⟩:=En hl
  unfold N4 at h
  split at h
  ·split at h
   ·rename_i hb
    cases h
    simp only[Bool.and_eq_true]at hb
    have e0:=Nat.eq_of_beq_eq_true hb.1
    have e1:=Nat.eq_of_beq_eq_true hb.2
    subst e0;subst e1
    exact⟨u,h3,by rw[h4,List.drop_zero,List.take_append_of_le_length (by omega),<-h2,List.take_length],by rw[h4];exact h2⟩
   ·cases h
  ·rename_i hb
   have hb:s<=off:=by
    rcases Nat.lt_or_ge off s with hh|hh
    ·rw[show Nat.blt off s=true by simpa using hh]at hb;cases hb
    ·exact hh
   obtain⟨u',k1,k2,k3⟩:=ih h h6
   refine⟨u',k1,?_,k3⟩
   rw[List.drop_append,List.drop_of_length_le (by omega),List.nil_append,h2];exact k2
 |_=>intro sv off m cs h _;simp[N4]at h
structure Wj(C:List (SV N.T))(Hs:List (Nat×SV N.T))(P:Nat->SV N.T):Prop where
 ok:∀j s,(j,s)∈Hs->P j= .no\/∃h y,mM N C h s=some y/\P j=TE N h y
theorem Wj.is{Hs:List (Nat×SV N.T)}{P:Nat->SV N.T}(h:Wj C Hs P){C':List (SV N.T)}{η':Nat->Value}{j:Nat}{s:SV N.T}{v:Value}(hj:(j,s)∈Hs)(hs:s.is C η H v):(P j).is C' η' H v:=by
 rcases h.ok j s hj with e|⟨h',y,e1,e2⟩
 ·rw[e];trivial
 ·rw[e2];exact Xb (jj e1 hs)
theorem TY{cs:List Value}{off m:Nat}{c:List Value}(h:(cs.drop off).take m=c)(hl:c.length=m):cs.drop off=c++cs.drop (off+m):=by
 rw[<-h,<-List.drop_drop]
 exact(List.take_append_drop m (cs.drop off)).symm
theorem T4{f:Nat->Nat}{c:Nat}{s:SV N.T}{u:Value}(hb:rT N f c (some s)=true)(h:s.is C η H u){C':List (SV N.T)} :(SV.px [c] .sf:SV N.T).is C' (fun c=>η (f c)) H u/\RX N s=1:=by
 unfold rT at hb
 split at hb
 ·rename_i k e
  cases e
  have:=Nat.eq_of_beq_eq_true hb;subst this
  exact⟨h,rf⟩
 ·rename_i k e
  cases e
  have:=Nat.eq_of_beq_eq_true hb;subst this
  obtain⟨B,h1,h2⟩:=h
  exact⟨.inr ⟨B,by simp[h1],h2⟩,rf⟩
 ·rename_i e
  cases e
  exact⟨.inl h,rf⟩
 ·cases hb
theorem BR{sv:SV N.T}{c:List Value}(h:o9 C η H sv c):c.length=RX N sv:=by
 obtain⟨u,h1,h2,h3⟩:=h
 rcases h3 with⟨ty,y,rfl,e⟩|⟨ho,hn⟩
 ·exact e
 ·rw[<-h2,AU ho]
  cases sv<;>first|rfl|exact absurd rfl (hn _ _)
end
end Go.GV
namespace Go.GV
open Go Go.GK
def SV.CO{T:Nat->Type}(ρ:Nat->Nat):SV T->SV T
 | .loc k o=> .loc (ρ k) o
 | .Az k=> .Az (ρ k)
 | .mp k=> .mp (ρ k)
 | .Di _ _ _ _ _=> .no
 | .lf s a l=> .lf s (a.CO ρ) (l.CO ρ)
 | .t2 a b=> .t2 (a.CO ρ) (b.CO ρ)
 | .t3 a b c=> .t3 (a.CO ρ) (b.CO ρ) (c.CO ρ)
 | .AA f l cs=> .AA f (l.CO ρ) (cs.map ρ)
 | .vc a l=> .vc (a.CO ρ) (l.CO ρ)
 | .px ks p=> .px (ks.map ρ) p
 |s=>s
def SR.CO{T:Nat->Type}(ρ:Nat->Nat):SR T->SR T
 | .Af g l=> .Af g (l.CO ρ)
 | .row g t l=> .row g t l
 | .map g kt vt l=> .map g kt vt l
 | .DB g e t h l=> .DB g e t (ρ h) l
 |_=> .gone
section
variable {N : Cw} {C : List (SV N.T)} {η η' : Nat -> Value} {H : Hp}
theorem SV.CG{g:Nat->Value->Prop}{ρ:Nat->Nat} :∀ {s:SV N.T} {v:Value},(∀k∈s.Ay,η' (ρ k)=η k)->s.Bo g η H v->(s.CO ρ).Bo g η' H v
 | .d t x,v,_,h=>h
 | .na _,_,_,h=>h
 | .ct _ _,_,_,h=>h
 | .cb _ _,_,_,h=>h
 | .lt _ _ _,_,_,h=>h
 | .lb _,_,_,h=>h
 | .raw _,_,_,h=>h
 | .ud,_,_,h=>h
 | .no,_,_,h=>h
 | .loc k o,_,e,h=>by simp only[SV.CO,SV.Bo]at h⊢;rw[e k (by simp[SV.Ay])];exact h
 | .Az k,_,e,h=>by simp only[SV.CO,SV.Bo]at h⊢;rw[e k (by simp[SV.Ay])];exact h
 | .Di _ _ _ _ _,_,_,_=>trivial
 | .pd t x off,v,_,h=>h
 | .mp k,_,e,h=>by simp only[SV.CO,SV.Bo]at h⊢;rw[e k (by simp[SV.Ay])];exact h
 | .lf s a l,v,e,⟨c1,c2,u,h1,h2,h3,h4,h5,h6⟩=>⟨c1,c2,u,h1,h2,SV.CG (fun k hk=>e k (by simp[SV.Ay,hk])) h3,h4,h5,SV.CG (fun k hk=>e k (by simp[SV.Ay,hk])) h6⟩
 | .nl,_,_,h=>h
 | .t2 a b,v,e,⟨x,y,h1,h2,h3⟩=>⟨x,y,h1,SV.CG (fun k hk=>e k (by simp[SV.Ay,hk])) h2,SV.CG (fun k hk=>e k (by simp[SV.Ay,hk])) h3⟩
 | .t3 a b c,v,e,⟨x,y,z,h1,h2,h3,h4⟩=>⟨x,y,z,h1,SV.CG (fun k hk=>e k (by simp[SV.Ay,hk])) h2,SV.CG (fun k hk=>e k (by simp[SV.Ay,hk])) h3,SV.CG (fun k hk=>e k (by simp[SV.Ay,hk])) h4⟩
 | .AA f l cs,v,e,⟨us,h1,h2⟩=>⟨us,by rw[h1,List.map_map];congr 2;exact List.map_congr_left fun k hk=>(e k (by simp[SV.Ay,hk])).symm,SV.CG (fun k hk=>e k (by simp[SV.Ay,hk])) h2⟩
 | .vn,_,_,h=>h
 | .vc a l,v,e,⟨u,us,h1,h2,h3⟩=>⟨u,us,h1,SV.CG (fun k hk=>e k (by simp[SV.Ay,hk])) h2,SV.CG (fun k hk=>e k (by simp[SV.Ay,hk])) h3⟩
 | .px ks p,v,e,h=>by
  have e':(ks.map ρ).map η'=ks.map η:=by
   rw[List.map_map];exact List.map_congr_left fun k hk=>e k (by simp[SV.Ay,hk])
  show p.is ((ks.map ρ).map η') H v
  rw[e'];exact h
 | .BO _,_,_,h=>h
theorem SR.J1{C':List (SV N.T)}{ρ:Nat->Nat}{k:Nat}{s:SR N.T}{r:Ao}(e0:η' (ρ k)=η k)(e:∀j∈s.Ay,η' (ρ j)=η j)(h:s.is [] η H k r):(s.CO ρ).is C' η' H (ρ k) r:=by
 cases s with
 |Af g l=>
  obtain⟨B,cs,h1,h2,h3⟩:=h
  exact⟨B,cs,e0.trans h1,h2,SV.Bo.imp (fun _ _ ⟨_,h,_⟩=>by simp at h) (SV.CG e h3)⟩
 |row g t l=>obtain⟨xs,h1,h2⟩:=h;exact⟨xs,by rw[e0];exact h1,h2⟩
 |BO j=>exact h.elim
 |gone=>exact h.elim
 |map g kt vt l=>obtain⟨B,h1,h2⟩:=h;exact⟨B,e0.trans h1,h2⟩
 |DB g e' t hh l=>obtain⟨xs,rs,h1,h2,h3⟩:=h;exact⟨xs,rs,by rw[e0];exact h1,(e hh (by simp[SR.Ay])).trans h2,h3⟩
theorem SV.J1{C':List (SV N.T)}{ρ:Nat->Nat}{s:SV N.T}{v:Value}(e:∀k∈s.Ay,η' (ρ k)=η k)(h:s.is [] η H v):(s.CO ρ).is C' η' H v:=
 SV.Bo.imp (fun _ _ ⟨_,h,_⟩=>by simp at h) (SV.CG e h)
theorem SH.O3{w:World}{Y Z:List (Nat×Ao)}{Of:List Ao}(h:SH w H (Y.map (·.2)++Of))(hn:(keys Z).Nodup)(hz:∀p∈Z,An Y p.1=some p.2):SH w H (Z.map (·.2)++Of):=by
 refine h.pick (fun i=>match Z[i]? with
  |some p=>(keys Y).idxOf p.1
  |none=>Y.length+(i-Z.length)) (fun i r hr=>?_) fun i j hi hj e=>?_
 ·cases hg:Z[i]? with
  |some p=>
   have hi:=(List.getElem?_eq_some_iff.1 hg).1
   rw[List.getElem?_append_left (by simpa using hi),List.getElem?_map,hg]at hr
   cases hr
   exact(Jm Of (hz p (List.mem_of_getElem? hg))).1
  |none=>
   have hi:=List.getElem?_eq_none_iff.1 hg
   rw[List.getElem?_append_right (by simpa using hi)]at hr
   simp only[List.length_map]at hr
   show(Y.map (·.2)++Of)[Y.length+(i-Z.length)]?=_
   rw[List.getElem?_append_right (by simp)]
   simpa using hr
 ·have lt:∀ {i:Nat} {p:Nat×Ao},Z[i]?=some p->(keys Y).idxOf p.1<Y.length:=fun{i} {p} hg=>(Jm Of (hz p (List.mem_of_getElem? hg))).2
  cases hgi:Z[i]? with
  |some p=>
   cases hgj:Z[j]? with
   |some q=>
    simp only[hgi,hgj]at e
    have e1:=Ce (hz p (List.mem_of_getElem? hgi))
    have e2:=Ce (hz q (List.mem_of_getElem? hgj))
    have g1:(keys Y)[(keys Y).idxOf p.1]?=some p.1:=by rw[List.getElem?_eq_getElem (List.idxOf_lt_length_iff.2 e1),List.getElem_idxOf]
    have g2:(keys Y)[(keys Y).idxOf q.1]?=some q.1:=by rw[List.getElem?_eq_getElem (List.idxOf_lt_length_iff.2 e2),List.getElem_idxOf]
    rw[e,g2]at g1
    have g3:=Option.some.inj g1
    have k1:(keys Z)[i]?=some p.1:=by unfold keys;rw[List.getElem?_map,hgi];rfl
    have k2:(keys Z)[j]?=some q.1:=by unfold keys;rw[List.getElem?_map,hgj];rfl
    obtain⟨hi',k1⟩:=List.getElem?_eq_some_iff.1 k1
    obtain⟨hj',k2⟩:=List.getElem?_eq_some_iff.1 k2
    rcases Nat.lt_trichotomy i j with hlt|e'|hlt
    ·exact(List.pairwise_iff_getElem.1 hn i j hi' hj' hlt (by rw[k1,k2];exact g3.symm)).elim
    ·exact e'
    ·exact(List.pairwise_iff_getElem.1 hn j i hj' hi' hlt (by rw[k1,k2];exact g3)).elim
   |none=>
    simp only[hgi,hgj]at e
    have:=lt hgi;omega
  |none=>
   cases hgj:Z[j]? with
   |some q=>
    simp only[hgi,hgj]at e
    have:=lt hgj;omega
   |none=>
    simp only[hgi,hgj]at e
    have h1:=List.getElem?_eq_none_iff.1 hgi
    have h2:=List.getElem?_eq_none_iff.1 hgj
    omega
end
structure PQ(N:Cw)where
 pi:AY
 po:AY
 rk:Nat
 gone:List Nat
 F:Bu N pi.hs->Option (Bu N po.hs)
def CS:List (Nat×SP)->Nat->SP:=fun l i=>match An l i with
 |some p=>p
 |none=> .Aa
section
variable {N : Cw}
def Gk(q:PQ N)(y:Bu N q.po.hs):SV N.T:=match q.rk with
 |0=> .raw (.tuple #[])
 |1=>inst N q.po.hs y (CS q.po.sl 0)
 |2=> .t2 (inst N q.po.hs y (CS q.po.sl 0)) (inst N q.po.hs y (CS q.po.sl 1))
 |_=> .t3 (inst N q.po.hs y (CS q.po.sl 0)) (inst N q.po.hs y (CS q.po.sl 1)) (inst N q.po.hs y (CS q.po.sl 2))
structure zr(q:PQ N)(x:Bu N q.pi.hs)(η:Nat->Value)(H:Hp)(Y:List (Nat×Ao))(vs:List Value):Prop where
 len:vs.length=q.pi.sl.length
 sl:∀p∈q.pi.sl,∃v,vs[p.1]?=some v/\(inst N q.pi.hs x p.2).is [] η H v
 ks:keys Y=q.pi.ro.map (·.1)
 ro:∀p∈q.pi.ro,∃X,An Y p.1=some X/\(instR N q.pi.hs x p.2).is [] η H p.1 X
 inv:N.inv H
structure o_(q:PQ N)(y:Bu N q.po.hs)(η η':Nat->Value)(H':Hp)(Y Y':List (Nat×Ao))(v:Value):Prop where
 env:∀k,k<q.pi.nk->η' k=η k
 nd:(keys Y').Nodup
 ks:∀k∈keys Y',k∈keys Y\/k∈q.po.ro.map (·.1)
 ro:∀p∈q.po.ro,∃X,An Y' p.1=some X/\(instR N q.po.hs y p.2).is [] η' H' p.1 X
 st:∀k∈keys Y,k∉q.po.ro.map (·.1)->k∉q.gone->An Y' k=An Y k
 res:(Gk q y).is [] η' H' v
structure C3(P:Program)(f:Nat)(q:PQ N):Prop where
 Oj:Nb P f
 ok:∀x y,q.F x=some y->∀(η:Nat->Value) (H:Hp) (Of:List Ao) (Y:List (Nat×Ao)) (vs:List Value),(keys Y).Nodup->zr q x η H Y vs->
  L4 P f vs H (Y.map (·.2)++Of) (fun v H' O'=> ∃η' Y',O'=Y'.map (·.2)++Of/\o_ q y η η' H' Y Y' v)
def rQ(q:PQ N):Bool:=((q.pi.ro.map (·.1)).all fun k=>Nat.blt k q.pi.nk)&&(BF (q.pi.ro.map (·.1))&&(BF (q.po.ro.map (·.1))&&(Nat.ble q.pi.nk q.po.nk&&(((q.po.ro.map (·.1)).all fun k=>Bw (q.pi.ro.map (·.1)) k||(Nat.ble q.pi.nk k&&Nat.blt k q.po.nk))&&(q.gone.all fun k=>Bw (q.pi.ro.map (·.1)) k)))))
def qkS(A:Nat->SV N.T)(l:List (Nat×SP)):List (Nat×Nat):=l.flatMap fun q=>match q.2,A q.1 with
 | .Az c, .Az k=>[(c,k)]
 | .loc c _, .loc k _=>[(c,k)]
 | .AA _ _ cs, .AA _ _ ks=>cs.zip ks
 | .mp c, .mp k=>[(c,k)]
 | .px cs _, .px ks _=>cs.zip ks
 |_,_=>[]
def qkR(C:List (SV N.T))(Rr:Nat->Option (SR N.T))(m:List (Nat×Nat))(l:List (Nat×RP)):List (Nat×Nat):=l.flatMap fun q=>match q.2,Rr (AJ m q.1)with
 | .Af _ ls,some (.Af _ b)=>zb N C b ls
 |_,_=>[]
def nh:List (Nat×Ty)->SV N.T->List (Nat×SV N.T)
 |(j,_)::l, .vc a r=>(j,a)::nh l r
 |_,_=>[]
def tN:List (Nat×Ty)->SV N.T->Bool
 | [], .vn=>true
 |_::l, .vc _ r=>tN l r
 |_,_=>false
def mE(ls:List (Nat×Nat×Ty)):List (Nat×SP):=ls.map fun q=>(q.1, .v q.2.1 q.2.2)
def W0(C:List (SV N.T))(A:Nat->SV N.T)(l:List (Nat×SP)):List (Nat×SV N.T):=l.flatMap fun q=>match q.2,A q.1 with
 | .v j _,s=>[(j,s)]
 | .nat j,s=>[(j,s)]
 | .AA _ fs _, .AA _ r _=>nh fs r
 | .sv ls,s=>gY N C s (mE ls)
 | .px _ (.sub j n _), .px _ (.sub i m _)=>[(j, .na i),(n, .na m)]
 | .pd j _ _, .pd t x _=>[(j, .d t x)]
 |_,_=>[]
def W1(C:List (SV N.T))(Rr:Nat->Option (SR N.T))(m:List (Nat×Nat))(l:List (Nat×RP)):List (Nat×SV N.T):=l.flatMap fun q=>match q.2,Rr (AJ m q.1)with
 | .row _ j,some (.row _ t x)=>[(j, .d (.sl t) x)]
 | .map _ j,some (.map _ kt vt x)=>[(j, .d (.sl (.st (.pr kt vt))) x)]
 | .Af _ ls,some (.Af _ b)=>gY N C b ls
 |_,_=>[]
def KK:List Nat->List Nat->Bool
 | [],[]=>true
 |a::l,b::m=>Nat.beq a b&&KK l m
 |_,_=>false
theorem DH:∀ {l m:List Nat},KK l m=true->l=m
 | [],[],_=>rfl
 | [],_::_,h=>by cases h
 |_::_,[],h=>by cases h
 |a::l,b::m,h=>by
  simp only[KK,Bool.and_eq_true]at h
  rw[Nat.eq_of_beq_eq_true h.1,DH h.2]
def rW(C:List (SV N.T))(b:SV N.T)(m:List (Nat×Nat))(q:Nat×Nat×SP):Bool:=match q.2.2 with
 | .v _ t=>match DR N C b q.1 (some t)with
  |some sv=>Nat.beq (RX N sv) q.2.1
  |none=>false
 | .nat _=>match DR N C b q.1 none with
  |some sv=>Nat.beq (RX N sv) q.2.1
  |none=>false
 | .Az c=>match DR N C b q.1 none with
  |some (.Az k)=>Nat.beq (AJ m c) k&&Nat.beq q.2.1 1
  |_=>false
 | .AA f [] cs=>match DR N C b q.1 none with
  |some (.AA g .vn ks)=>Nat.beq f g&&(KK (cs.map (AJ m)) ks&&Nat.beq q.2.1 1)
  |_=>false
 | .mp c=>match DR N C b q.1 none with
  |some (.mp k)=>Nat.beq (AJ m c) k&&Nat.beq q.2.1 1
  |_=>false
 | .px [c] .sf=>rT N (AJ m) c (DR N C b q.1 none)&&Nat.beq q.2.1 1
 |_=>false
def yT(C:List (SV N.T))(A:Nat->SV N.T)(m:List (Nat×Nat))(q:Nat×SP):Bool:=match q.2 with
 | .v _ _=>true
 | .nat _=>true
 | .Aa=>true
 | .Az c=>match A q.1 with
  | .Az k=>Nat.beq (AJ m c) k
  |_=>false
 | .loc c off=>match A q.1 with
  | .loc k o=>Nat.beq (AJ m c) k&&Nat.beq off o
  |_=>false
 | .AA f fs cs=>match A q.1 with
  | .AA g r ks=>Nat.beq f g&&(tN fs r&&KK (cs.map (AJ m)) ks)
  |_=>false
 | .sv ls=>whole (A q.1)&&Nat.beq (Mc (mE ls)) (O8 N (A q.1))&&(K8 0 (mE ls)).all (rW C (A q.1) m)
 | .nl=>match A q.1 with
  | .raw (.slice none 0 0)=>true
  |_=>false
 | .mp c=>match A q.1 with
  | .mp k=>Nat.beq (AJ m c) k
  |_=>false
 | .pd _ _ off=>match A q.1 with
  | .pd _ _ o=>Nat.beq off o
  |_=>false
 | .px cs (.sub _ _ t)=>match A q.1 with
  | .px ks (.sub _ _ t')=>KK (cs.map (AJ m)) ks&&t.Ig t'
  |_=>false
 | .px cs (.hc n)=>match A q.1 with
  | .px ks (.hc n')=>KK (cs.map (AJ m)) ks&&Nat.beq n n'
  |_=>false
 |_=>false
def uf(C:List (SV N.T))(Rr:Nat->Option (SR N.T))(m:List (Nat×Nat))(n:Nat)(q:Nat×RP):Bool:=match q.2 with
 | .row g j=>match Rr (AJ m q.1)with
  |some (.row g' _ _)=>Nat.beq g g'&&Nat.blt j n
  |_=>false
 | .map g j=>match Rr (AJ m q.1)with
  |some (.map g' _ _ _)=>Nat.beq g g'&&Nat.blt j n
  |_=>false
 | .Af g ls=>match Rr (AJ m q.1)with
  |some (.Af g' b)=>Nat.beq g g'&&(whole b&&Nat.beq (Mc ls) (O8 N b)&&(K8 0 ls).all (rW C b m))
  |_=>false
 |_=>false
def Fv(C:List (SV N.T))(Rr:Nat->Option (SR N.T))(A:Nat->SV N.T)(q:AY):List (Nat×Nat):=
 let m1:=qkS A q.sl
 m1++qkR C Rr m1 q.ro
def Hv(C:List (SV N.T))(Rr:Nat->Option (SR N.T))(A:Nat->SV N.T)(m:List (Nat×Nat))(q:AY):Option (Bu N q.hs):=
 match BF (q.ro.map fun p=>AJ m p.1)&&(q.sl.all (yT C A m)&&(q.ro.all (uf C Rr m q.hs.length)&&BF ((W0 C A q.sl++W1 C Rr m q.ro).map (·.1))))with
 |true=>oy N C (fun j=>(An (W0 C A q.sl++W1 C Rr m q.ro) j).getD .no) 0 q.hs
 |false=>none
variable {C : List (SV N.T)} {η : Nat -> Value} {H : Hp} {Rr : Nat -> Option (SR N.T)} {A : Nat -> SV N.T}
theorem instQ_ok{hs:List HT}{x:Bu N hs}{b:SV N.T}{m:List (Nat×Nat)}{Hs:List (Nat×SV N.T)}{cs:List Value}(hP:Wj C Hs (BP N hs x))(hb:b.is C η H (.agg cs.toArray))(hone:∀y∈cs,y.oneCell'=true):
  ∀(ls:List (Nat×SP)) (off:Nat),(∀q∈K8 off ls,rW C b m q=true/\(∀j t,q.2.2= .v j t->(j,(DR N C b q.1 (some t)).getD .no)∈Hs)/\∀j,q.2.2= .nat j->(j,(DR N C b q.1 none).getD .no)∈Hs)->off+Mc ls=cs.length->
   (instL N hs x ls).is [] (fun c=>η (AJ m c)) H (.agg (cs.drop off).toArray)
 | [],off,_,hl=>by
  have:cs.drop off=[]:=List.drop_of_length_le (by simp[Mc]at hl;omega)
  rw[this];exact Ls
 |(s,p)::ls,off,hq,hl=>by
  have hl:off+(s+Mc ls)=cs.length:=hl
  have ih:=instQ_ok hP hb hone ls (off+s) (fun q hq'=>hq q (List.mem_cons_of_mem _ hq')) (by omega)
  obtain⟨hck,hv,hnat⟩:=hq (off,s,p) (List.mem_cons_self ..)
  have fin:∀ {u:Value},(inst N hs x p).is [] (fun c=>η (AJ m c)) H u->u.cells.toList=(cs.drop off).take s->u.cells.toList.length=s->(instL N hs x ((s,p)::ls)).is [] (fun c=>η (AJ m c)) H (.agg (cs.drop off).toArray):=fun{u} h1 h2 h3=>by
   have h4:=IG (s:=s) h1 h3 (fun y hy=>hone y (by rw[h2]at hy;exact List.mem_of_mem_drop (List.mem_of_mem_take hy))) ih
   rw[h2]at h3 h4
   rw[<-TY rfl h3]at h4
   exact h4
  unfold rW at hck
  simp only at hck hv hnat
  cases p with
  |v j t=>
   simp only at hck
   split at hck
   ·rename_i sv hsv
    have hsz:=Nat.eq_of_beq_eq_true hck
    obtain⟨c,hr,hc⟩:=CJ hsv hb
    have hlen:=BR hr
    obtain⟨u,h1,h2,_⟩:=hr
    have hmem:=hv j t rfl
    rw[hsv]at hmem
    have hlen:c.length=s:=by rw[hlen];exact hsz
    rw[hlen]at hc
    exact fin (hP.is hmem h1) (by rw[h2,hc]) (by rw[h2];exact hlen)
   ·cases hck
  |nat j=>
   simp only at hck
   split at hck
   ·rename_i sv hsv
    have hsz:=Nat.eq_of_beq_eq_true hck
    obtain⟨c,hr,hc⟩:=CJ hsv hb
    have hlen:=BR hr
    obtain⟨u,h1,h2,_⟩:=hr
    have hmem:=hnat j rfl
    rw[hsv]at hmem
    have hlen:c.length=s:=by rw[hlen];exact hsz
    rw[hlen]at hc
    exact fin (hP.is hmem h1) (by rw[h2,hc]) (by rw[h2];exact hlen)
   ·cases hck
  |Az c=>
   simp only at hck
   split at hck
   ·rename_i k hk
    rw[Bool.and_eq_true]at hck
    have e1:=Nat.eq_of_beq_eq_true hck.1
    have e2:=Nat.eq_of_beq_eq_true hck.2
    subst e2
    obtain⟨cc,hr,hc⟩:=CJ hk hb
    have hlen:=BR hr
    obtain⟨u,h1,h2,_⟩:=hr
    have hlen:cc.length=1:=hlen
    rw[hlen]at hc
    exact fin (u:=u) ⟨by show u=η (AJ m c);rw[e1];exact h1.1,h1.2⟩ (by rw[h2,hc]) (by rw[h2];exact hlen)
   ·cases hck
  |AA f fs cs=>
   cases fs with
   |cons _ _=>cases hck
   |nil=>
    simp only at hck
    split at hck
    ·rename_i g ks hk
     simp only[Bool.and_eq_true]at hck
     have e1:=Nat.eq_of_beq_eq_true hck.1
     have e2:=Nat.eq_of_beq_eq_true hck.2.2
     have e3:=DH hck.2.1
     subst e1;subst e2;subst e3
     obtain⟨cc,hr,hc⟩:=CJ hk hb
     have hlen:=BR hr
     obtain⟨u,h1,h2,_⟩:=hr
     have hlen:cc.length=1:=hlen
     rw[hlen]at hc
     obtain⟨us,a1,a2⟩:=h1
     exact fin (u:=u) ⟨us,by rw[a1,List.map_map];rfl,a2⟩ (by rw[h2,hc]) (by rw[h2];exact hlen)
    ·cases hck
  |mp c=>
   simp only at hck
   split at hck
   ·rename_i k hk
    rw[Bool.and_eq_true]at hck
    have e1:=Nat.eq_of_beq_eq_true hck.1
    have e2:=Nat.eq_of_beq_eq_true hck.2
    subst e2
    obtain⟨cc,hr,hc⟩:=CJ hk hb
    have hlen:=BR hr
    obtain⟨u,h1,h2,_⟩:=hr
    have hlen:cc.length=1:=hlen
    rw[hlen]at hc
    exact fin (u:=u) ⟨by show u=η (AJ m c);rw[e1];exact h1.1,h1.2⟩ (by rw[h2,hc]) (by rw[h2];exact hlen)
   ·cases hck
  |px cs z=>
   cases z with
   |sub _ _ _=>cases cs with
    |nil=>cases hck
    |cons c cs=>cases cs<;>cases hck
   |hc _=>cases cs with
    |nil=>cases hck
    |cons c cs=>cases cs<;>cases hck
   |sf=>
    match cs,hck with
    | [],hck=>cases hck
    | [c],hck=>
     simp only at hck
     rw[Bool.and_eq_true]at hck
     cases hk:DR N C b off none with
     |none=>rw[hk]at hck;cases hck.1
     |some s0=>
      rw[hk]at hck
      have e2:=Nat.eq_of_beq_eq_true hck.2
      subst e2
      obtain⟨cc,hr,hc⟩:=CJ hk hb
      have hlen:=BR hr
      obtain⟨u,h1,h2,_⟩:=hr
      obtain⟨h3,h4⟩:=T4 hck.1 h1
      rw[h4]at hlen
      rw[hlen]at hc
      exact fin (u:=u) h3 (by rw[h2,hc]) (by rw[h2];exact hlen)
    |_::_::_,hck=>cases hck
  |_=>cases hck
theorem ba{hs:List HT}{x:Bu N hs}{Hs:List (Nat×SV N.T)}{η':Nat->Value}(hP:Wj C Hs (BP N hs x)):∀ {fs:List (Nat×Ty)} {r:SV N.T} {us:List Value},tN fs r=true->(∀p∈nh fs r,p∈Hs)->r.is C η H (.tuple us.toArray)->(ng N hs x fs).is [] η' H (.tuple us.toArray)
 | [], .vn,us,_,_,h=>h
 | [], .d _ _,_,h,_,_=>by cases h
 |(j,t)::l, .vc a r,us,hb,hm,⟨u,us',e,h1,h2⟩=>by
  refine⟨u,us',e,hP.is (hm (j,a) (by simp[nh])) h1,ba (fs:=l) hP hb (fun p hp=>hm p (by simp[nh,hp])) h2⟩
theorem TV(hs:List HT)(x:Bu N hs):∀ls,dY N hs x ls=instL N hs x (mE ls)
 | []=>rfl
 |(s,j,t)::ls=>by
  show SV.lf s (BP N hs x j) (dY N hs x ls)=SV.lf s (BP N hs x j) (instL N hs x (mE ls))
  rw[TV hs x ls]
theorem RT:∀ {l:SV N.T} {v:Value},whole l=true->l.is C η H v->∃cs:List Value,v= .agg cs.toArray:=by
 intro l v hw h
 cases l with
 |lf s a r=>obtain⟨c1,c2,u,e,_⟩:=h;exact⟨c1++c2,e⟩
 |nl=>exact⟨[],h⟩
 |_=>cases hw
theorem Pj:∀(hs:List HT) (x:Bu N hs) (j:Nat),j<hs.length->BP N hs x j≠ .no
 | [],_,_,h,_=>by simp at h
 | [t],x,0,_,e=>by
  have e:TE N t x= .no:=e
  cases t<;>cases e
 | [_],_,j+1,h,_=>by simp at h
 |t::u::ts,x,0,_,e=>by
  have e:TE N t x.1= .no:=e
  cases t<;>cases e
 |t::u::ts,x,j+1,h,e=>Pj (u::ts) x.2 j (by simpa using h) e
theorem Jv{q:AY}{m:List (Nat×Nat)}{x:Bu N q.hs}{Y:List (Nat×Ao)}{vs:List Value}(hx:Hv C Rr A m q=some x)(hlen:vs.length=q.sl.length)(hsl:∀p∈q.sl,∃v,vs[p.1]?=some v/\(A p.1).is C η H v)
  (hr:∀p∈q.ro,∀sr,Rr (AJ m p.1)=some sr->C4 C η H Y (AJ m p.1) sr):
  (q.ro.map fun p=>AJ m p.1).Nodup/\(∀p∈q.sl,∃v,vs[p.1]?=some v/\(inst N q.hs x p.2).is [] (fun c=>η (AJ m c)) H v)/\∀p∈q.ro,(∃sr,Rr (AJ m p.1)=some sr)/\∃X,An Y (AJ m p.1)=some X/\(instR N q.hs x p.2).is [] (fun c=>η (AJ m c)) H p.1 X:=by
 unfold Hv at hx
 split at hx
 ·rename_i hck
  simp only[Bool.and_eq_true]at hck
  obtain⟨hnd,hS,hR,hN⟩:=hck
  have hnd2:=Ba hN
  have hol:Wj C (W0 C A q.sl++W1 C Rr m q.ro) (BP N q.hs x):=⟨fun j s hj=>by
   rcases Ho q.hs 0 x hx j with e|⟨h',y,e1,e2⟩
   ·exact .inl e
   ·refine .inr ⟨h',y,?_,e2⟩
    rw[Nat.zero_add,Cc hnd2 hj]at e1
    exact e1⟩
  refine⟨Ba hnd,fun p hp=>?_,fun p hp=>?_⟩
  ·obtain⟨
       v,hv,ha⟩:=hsl p hp
   refine⟨v,hv,?_⟩
   have hc:=List.all_eq_true.1 hS p hp
   unfold yT at hc
   cases hq:p.2 with
   |v j t=>exact hol.is (List.mem_append_left _ (List.mem_flatMap.2 ⟨p,hp,by simp[hq]⟩)) ha
   |nat j=>exact hol.is (List.mem_append_left _ (List.mem_flatMap.2 ⟨p,hp,by simp[hq]⟩)) ha
   |Aa=>trivial
   |sv ls=>
    rw[hq]at hc
    simp only[Bool.and_eq_true]at hc
    obtain⟨cs,rfl⟩:=RT hc.1.1 ha
    have hlen2:=FU (cs:=cs) hc.1.1 ha
    have:=instQ_ok (m:=m) hol ha (HK hc.1.1 ha) (mE ls) 0 (fun z hz=>⟨List.all_eq_true.1 hc.2 z hz,fun j t e=>List.mem_append_left _ (List.mem_flatMap.2 ⟨p,hp,by rw[hq];exact(E2 hz).1 j t e⟩),fun j e=>List.mem_append_left _ (List.mem_flatMap.2 ⟨p,hp,by rw[hq];exact(E2 hz).2 j e⟩)⟩) (by rw[Nat.zero_add,Nat.eq_of_beq_eq_true hc.1.2,hlen2])
    show(dY N q.hs x ls).is [] _ H _
    rw[TV]
    simpa using this
   |nl=>
    rw[hq]at hc
    simp only at hc
    split at hc
    ·rename_i hk
     rw[hk]at ha
     exact ha
    ·cases hc
   |Az c=>
    rw[hq]at hc
    simp only at hc
    split at hc
    ·rename_i k hk
     have e:=Nat.eq_of_beq_eq_true hc
     rw[hk]at ha
     exact⟨by show v=η (AJ m c);rw[e];exact ha.1,ha.2⟩
    ·cases hc
   |loc c off=>
    rw[hq]at hc
    simp only at hc
    split at hc
    ·rename_i k o hk
     rw[Bool.and_eq_true]at hc
     have e:=Nat.eq_of_beq_eq_true hc.1
     have e2:=Nat.eq_of_beq_eq_true hc.2
     subst e2
     rw[hk]at ha
     obtain⟨B,b1,b2⟩:=ha
     exact⟨B,by show η (AJ m c)=_;rw[e];exact b1,b2⟩
    ·cases hc
   |AA f fs cs=>
    rw[hq]at hc
    simp only at hc
    split at hc
    ·rename_i g r ks hk
     simp only[Bool.and_eq_true]at hc
     have e:=Nat.eq_of_beq_eq_true hc.1
     subst e
     have e2:=DH hc.2.2
     rw[hk]at ha
     obtain⟨us,h1,h2⟩:=ha
     refine⟨us,?_,ba hol hc.2.1 (fun z hz=>List.mem_append_left _ (List.mem_flatMap.2 ⟨p,hp,by simp[hq,hk,hz]⟩)) h2⟩
     rw[h1,<-e2,List.map_map];rfl
    ·cases hc
   |mp c=>
    rw[hq]at hc
    simp only at hc
    split at hc
    ·rename_i k hk
     have e:=Nat.eq_of_beq_eq_true hc
     rw[hk]at ha
     exact⟨by show v=η (AJ m c);rw[e];exact ha.1,ha.2⟩
    ·cases hc
   |pd j t off=>
    rw[hq]at hc
    simp only at hc
    split at hc
    ·rename_i t' y' o hk
     have e1:=Nat.eq_of_beq_eq_true hc
     subst e1
     rw[hk]at ha
     have hmem:(j,(SV.d t' y':SV N.T))∈W0 C A q.sl++W1 C Rr m q.ro:=List.mem_append_left _ (List.mem_flatMap.2 ⟨p,hp,by simp[hq,hk]⟩)
     show(match BP N q.hs x j with| .d t x=>SV.pd t x off|_=> .no).is [] _ H v
     rcases hol.ok j _ hmem with e|⟨h',y,e1,e2⟩
     ·rw[e];trivial
     ·rw[e2]
      cases h' with
      |nat=>trivial
      |Ae th=>
       obtain⟨f,hf,e3⟩:=Option.map_eq_some_iff.1 (show(LP N.T t' th).map (· y')=some y from e1)
       obtain⟨he,rfl⟩:=Bg hf
       have:=Ty.Bc he
       subst this
       cases e3
       exact ha
    ·cases hc
   |px cs z=>
    cases z with
    |sf=>rw[hq]at hc;cases hc
    |sub j n t=>
     rw[hq]at hc
     simp only at hc
     split at hc
     ·rename_i ks i n' t' hk
      simp only[Bool.and_eq_true]at hc
      have e1:=DH hc.1
      have e3:=Ty.Bc hc.2
      subst e1;subst e3
      rw[hk]at ha
      have hmem:(j,(SV.na i:SV N.T))∈W0 C A q.sl++W1 C Rr m q.ro:=List.mem_append_left _ (List.mem_flatMap.2 ⟨p,hp,by simp[hq,hk]⟩)
      have hmem2:(n,(SV.na n':SV N.T))∈W0 C A q.sl++W1 C Rr m q.ro:=List.mem_append_left _ (List.mem_flatMap.2 ⟨p,hp,by simp[hq,hk]⟩)
      have na:∀ {j i:Nat},(j,(SV.na i:SV N.T))∈W0 C A q.sl++W1 C Rr m q.ro->BP N q.hs x j= .na i\/∀i',BP N q.hs x j≠ .na i':=fun{j i} hm=>by
       rcases hol.ok j _ hm with e|⟨h',y,e1,e2⟩
       ·rw[e];exact .inr fun _ e=>by cases e
       ·rw[e2]
        cases h' with
        |nat=>
         have e1:some i=some y:=e1
         cases e1
         exact .inl rf
        |Ae th=>exact .inr fun _ e=>by cases e
      show(match BP N q.hs x j,BP N q.hs x n with| .na i, .na m=>SV.px cs (.sub i m t)|_,_=> .px cs .any).is [] _ H v
      rcases na hmem with e|e
      ·rcases na hmem2 with e2|e2
       ·rw[e,e2]
        have ha:PX.is ((cs.map (AJ m)).map η) H (.sub i n' t) v:=ha
        rw[List.map_map]at ha
        exact ha
       ·split
        ·rename_i h2;exact absurd h2 (e2 _)
        ·trivial
      ·split
       ·rename_i h1 _;exact absurd h1 (e _)
       ·trivial
     ·cases hc
    |hc n=>
     rw[hq]at hc
     simp only at hc
     split at hc
     ·rename_i ks n' hk
      simp only[Bool.and_eq_true]at hc
      have e1:=DH hc.1
      have e3:=Nat.eq_of_beq_eq_true hc.2
      subst e1;subst e3
      rw[hk]at ha
      have ha:PX.is ((cs.map (AJ m)).map η) H (.hc n:PX N.T) v:=ha
      rw[List.map_map]at ha
      exact ha
     ·cases hc
   |_=>rw[hq]at hc;cases hc
  ·have hc:=List.all_eq_true.1 hR p hp
   unfold uf at hc
   cases hq:p.2 with
   |DB _ _ _ _=>rw[hq]at hc;cases hc
   |row g j=>
    rw[hq]at hc
    simp only at hc
    split at hc
    ·rename_i g' t l hk
     rw[Bool.and_eq_true]at hc
     have e:=Nat.eq_of_beq_eq_true hc.1
     have hj:j<q.hs.length:=by simpa using hc.2
     subst e
     refine⟨⟨_,hk⟩,?_⟩
     rcases hr p hp _ hk with e|⟨X,h1,h2⟩
     ·cases e
     refine⟨X,h1,?_⟩
     have hmem:(j,SV.d (.sl t) l)∈W0 C A q.sl++W1 C Rr m q.ro:=List.mem_append_right _ (List.mem_flatMap.2 ⟨p,hp,by simp[hq,hk]⟩)
     show(match BP N q.hs x j with| .d (.sl t) l=>SR.row g t l|_=> .gone).is [] _ H _ X
     rcases hol.ok j _ hmem with e|⟨h',y,e1,e2⟩
     ·exact(Pj q.hs x j hj e).elim
     ·rw[e2]
      cases h' with
      |nat=>cases e1
      |Ae th=>
       obtain⟨f,hf,e3⟩:=Option.map_eq_some_iff.1 (show(LP N.T (.sl t) th).map (· l)=some y from e1)
       obtain⟨he,rfl⟩:=Bg hf
       have:=Ty.Bc he
       subst this
       cases e3
       exact h2
    ·cases hc
   |Af g ls=>
    rw[hq]at hc
    simp only at hc
    split at hc
    ·rename_i g' b hk
     simp only[Bool.and_eq_true]at hc
     have e:=Nat.eq_of_beq_eq_true hc.1
     subst e
     refine⟨⟨_,hk⟩,?_⟩
     rcases hr p hp _ hk with e|⟨X,h1,B,cs,b1,b2,b3⟩
     ·cases e
     refine⟨X,h1,B,cs,b1,b2,?_⟩
     have hl:=FU (cs:=cs.toList) hc.2.1.1 b3
     have:=instQ_ok (η:=η) (m:=m) (cs:=cs.toList) hol b3 (HK hc.2.1.1 b3) ls 0 (fun z hz=>⟨List.all_eq_true.1 hc.2.2 z hz,fun j t e=>List.mem_append_right _ (List.mem_flatMap.2 ⟨p,hp,by simp only[hq,hk];exact(E2 hz).1 j t e⟩),fun j e=>List.mem_append_right _ (List.mem_flatMap.2 ⟨p,hp,by simp only[hq,hk];exact(E2 hz).2 j e⟩)⟩)
      (by rw[Nat.zero_add,Nat.eq_of_beq_eq_true hc.2.1.2,hl])
     simpa using this
    ·cases hc
   |c j=>rw[hq]at hc;cases hc
   |map g j=>
    rw[hq]at hc
    simp only at hc
    split at hc
    ·rename_i g' kt vt l hk
     rw[Bool.and_eq_true]at hc
     have e:=Nat.eq_of_beq_eq_true hc.1
     have hj:j<q.hs.length:=by simpa using hc.2
     subst e
     refine⟨⟨_,hk⟩,?_⟩
     rcases hr p hp _ hk with e|⟨X,h1,h2⟩
     ·cases e
     refine⟨X,h1,?_⟩
     have hmem:(j,SV.d (.sl (.st (.pr kt vt))) l)∈W0 C A q.sl++W1 C Rr m q.ro:=List.mem_append_right _ (List.mem_flatMap.2 ⟨p,hp,by simp[hq,hk]⟩)
     show(match BP N q.hs x j with| .d (.sl (.st (.pr kt vt))) l=>SR.map g kt vt l|_=> .gone).is [] _ H _ X
     rcases hol.ok j _ hmem with e|⟨h',y,e1,e2⟩
     ·exact(Pj q.hs x j hj e).elim
     ·rw[e2]
      cases h' with
      |nat=>cases e1
      |Ae th=>
       obtain⟨f,hf,e3⟩:=Option.map_eq_some_iff.1 (show(LP N.T (.sl (.st (.pr kt vt))) th).map (· l)=some y from e1)
       obtain⟨he,rfl⟩:=Bg hf
       have:=Ty.Bc he
       subst this
       cases e3
       exact h2
    ·cases hc
 ·cases hx
end
end Go.GV
namespace Go.GV
open Go Go.GK
def SP.ks:SP->List Nat
 | .Az k=>[k]
 | .loc k _=>[k]
 | .AA _ _ cs=>cs
 | .mp k=>[k]
 | .px ks _=>ks
 |_=>[]
section
variable {N : Cw}
theorem Np(h:HT)(x:h.den N):(TE N h x).Ay=[]:=by cases h<;>rfl
theorem EB:∀(hs:List HT) (x:Bu N hs) (j:Nat),(BP N hs x j).Ay=[]
 | [],_,_=>rfl
 | [t],x,0=>Np t x
 | [_],_,_+1=>rfl
 |t::_::_,x,0=>Np t x.1
 |_::u::ts,x,j+1=>EB (u::ts) x.2 j
theorem Nj(hs:List HT)(x:Bu N hs):∀fs:List (Nat×Ty),(ng N hs x fs).Ay=[]
 | []=>rfl
 |(j,_)::l=>by simp[ng,SV.Ay,EB,Nj hs x l]
theorem Ns(hs:List HT)(x:Bu N hs):∀ls:List (Nat×Nat×Ty),(dY N hs x ls).Ay=[]
 | []=>rfl
 |(s,j,t)::l=>by simp[dY,SV.Ay,EB,Ns hs x l]
theorem inst_ment(hs:List HT)(x:Bu N hs):∀p:SP,(inst N hs x p).Ay=p.ks
 | .v j _=>EB hs x j
 | .nat j=>EB hs x j
 | .AK j i=>by
  show SV.Ay (match BP N hs x j with| .na n=> .ct i n|s=>s)=[]
  split
  ·rfl
  ·exact EB hs x j
 | .c _=>rfl
 | .Az _=>rfl
 | .loc _ _=>rfl
 | .AA _ fs cs=>by simp[inst,SV.Ay,Nj,SP.ks]
 | .Aa=>rfl
 | .nl=>rfl
 | .sv ls=>Ns hs x ls
 | .kp _=>rfl
 | .mp _=>rfl
 | .px ks .sf=>rfl
 | .px ks (.hc _)=>rfl
 | .pd j t off=>by
  show SV.Ay (match BP N hs x j with| .d t x=>SV.pd t x off|_=> .no)=[]
  split<;>rfl
 | .px ks (.sub j n t)=>by
  show SV.Ay (match BP N hs x j,BP N hs x n with| .na i, .na m=>SV.px ks (.sub i m t)|_,_=> .px ks .any)=ks
  split<;>rfl
theorem instL_ment(hs:List HT)(x:Bu N hs):∀ls:List (Nat×SP),(instL N hs x ls).Ay=ls.flatMap fun p=>p.2.ks
 | []=>rfl
 |(s,p)::ls=>by simp[instL,SV.Ay,inst_ment,instL_ment hs x ls]
end
def SP.pl:SP->Bool
 | .v _ _=>true
 | .nat _=>true
 | .Az _=>true
 | .loc _ _=>true
 | .AA _ _ _=>true
 | .Aa=>true
 | .nl=>true
 | .sv _=>true
 | .mp _=>true
 | .px _ _=>true
 | .pd _ _ _=>true
 |_=>false
def RP.ks:RP->List Nat
 | .Af _ ls=>ls.flatMap fun p=>p.2.ks
 | .DB _ _ h _=>[h]
 |_=>[]
section
variable {N : Cw}
theorem instR_ment(hs:List HT)(x:Bu N hs):∀p:RP,∀k∈(instR N hs x p).Ay,k∈p.ks
 | .row g j=>by
  show∀k∈SR.Ay (match BP N hs x j with| .d (.sl t) l=>SR.row g t l|_=> .gone),k∈[]
  split<;>exact fun _ h=>h
 | .Af _ ls=>fun k hk=>by
  have e:=instL_ment hs x ls
  show k∈ls.flatMap fun p=>p.2.ks
  rw[<-e];exact hk
 | .c _=>fun _ h=>h
 | .map g j=>by
  show∀k∈SR.Ay (match BP N hs x j with| .d (.sl (.st (.pr kt vt))) l=>SR.map g kt vt l|_=> .gone),k∈[]
  split<;>exact fun _ h=>h
 | .DB g e h j=>by
  show∀k∈SR.Ay (match BP N hs x j with| .d (.sl (.pr .bool (.sl t))) l=>SR.DB g e t h l|_=> .gone),k∈[h]
  split
  ·exact fun _ h=>h
  ·exact fun _ h=>by cases h
def Ud(q:PQ N):List SP:=match q.rk with
 |0=>[]
 |1=>[CS q.po.sl 0]
 |2=>[CS q.po.sl 0,CS q.po.sl 1]
 |_=>[CS q.po.sl 0,CS q.po.sl 1,CS q.po.sl 2]
theorem Se(q:PQ N)(y:Bu N q.po.hs):∀k∈(Gk q y).Ay,∃p∈Ud q,k∈p.ks:=by
 intro k hk
 unfold Gk at hk
 unfold Ud
 split at hk
 ·cases hk
 ·rename_i e;try rw[e]
  rw[inst_ment]at hk;exact⟨_,by simp,hk⟩
 ·rename_i e;try rw[e]
  simp only[SV.Ay,inst_ment,List.mem_append]at hk
  rcases hk with hk|hk
  ·exact⟨CS q.po.sl 0,by simp,hk⟩
  ·exact⟨CS q.po.sl 1,by simp,hk⟩
 ·rename_i e0 e1 e2
  simp only[SV.Ay,inst_ment,List.mem_append]at hk
  have:(match q.rk with|0=>[]|1=>[CS q.po.sl 0]|2=>[CS q.po.sl 0,CS q.po.sl 1]|_=>[CS q.po.sl 0,CS q.po.sl 1,CS q.po.sl 2])=[CS q.po.sl 0,CS q.po.sl 1,CS q.po.sl 2]:=by
   split
   ·rename_i e;exact absurd e e0
   ·rename_i e;exact absurd e e1
   ·rename_i e;exact absurd e e2
   ·rfl
  try rw[this]
  rcases hk with hk|hk|hk
  ·exact⟨CS q.po.sl 0,by simp,hk⟩
  ·exact⟨CS q.po.sl 1,by simp,hk⟩
  ·exact⟨CS q.po.sl 2,by simp,hk⟩
def mA(q:PQ N):Bool:=((Ud q).all fun p=>p.pl&&p.ks.all fun k=>Bw (q.pi.ro.map (·.1)) k||Bw (q.po.ro.map (·.1)) k)&&q.po.ro.all fun p=>p.2.ks.all fun k=>Bw (q.pi.ro.map (·.1)) k||Bw (q.po.ro.map (·.1)) k
def Fc(m:List (Nat×Nat))(b nk c:Nat):Nat:=match Nat.blt c b with
 |true=>AJ m c
 |false=>nk+(c-b)
def L6(q:PQ N)(ρ:Nat->Nat)(y:Bu N q.po.hs):List (Nat×SR N.T):=(q.po.ro.map fun p=>(ρ p.1,(instR N q.po.hs y p.2).CO ρ))++q.gone.map fun c=>(ρ c, .gone)
variable {R : Type} {P : Program} {C : List (SV N.T)} {S : Nat -> SV N.T} {Rr : Nat -> Option (SR N.T)} {nk : Nat} {o : Oper} {r : R}
def Rx(C:List (SV N.T))(Rr:Nat->Option (SR N.T))(nk:Nat)(q:PQ N)(As:List (SV N.T))(ex:List Nat)(k:A_ N.T->Nat->Option R):Option (Option R):=
 let m:=Fv C Rr (fun i=>As.getD i .no) q.pi
 match Nat.beq As.length q.pi.sl.length&&(q.pi.sl.all (fun p=>Nat.blt p.1 As.length)&&(rQ q&&mA q))with
 |true=>match Hv C Rr (fun i=>As.getD i .no) m q.pi with
  |some x=>some (Ac (q.F x) fun y=>k ⟨(Gk q y).CO (Fc m q.pi.nk nk),q.pi.ro.map (fun p=>AJ m p.1)++ex,L6 q (Fc m q.pi.nk nk) y⟩ (nk+(q.po.nk-q.pi.nk)))
  |none=>none
 |false=>none
theorem Jn{Y:List (Nat×Ao)}{D:List Nat}{k:Nat}(h:k∉D):An (Y.filter fun p=> !Bw D p.1) k=An Y k:=by
 induction Y with
 |nil=>rfl
 |cons p Y ih=>
  obtain⟨q,y⟩:=p
  rw[List.filter_cons]
  split
  ·simp only[An];split
   ·rfl
   ·exact ih
  ·rename_i hb
   have hq:q∈D:=AB.1 (by simpa using hb)
   simp only[An]
   cases hb2:Nat.beq q k with
   |true=>have:=Nat.eq_of_beq_eq_true hb2;subst this;exact absurd hq h
   |false=>exact ih
theorem QR{Y:List (Nat×Ao)}{ρ:Nat->Nat}{c:Nat}(h:∀d∈keys Y,ρ d=ρ c->d=c):An (Y.map fun p=>(ρ p.1,p.2)) (ρ c)=An Y c:=by
 induction Y with
 |nil=>rfl
 |cons p Y ih=>
  obtain⟨q,y⟩:=p
  simp only[List.map_cons,An]
  cases hb:Nat.beq q c with
  |true=>have:=Nat.eq_of_beq_eq_true hb;subst this;simp
  |false=>
   have:Nat.beq (ρ q) (ρ c)=false:=by
    cases hb2:Nat.beq (ρ q) (ρ c)with
    |false=>rfl
    |true=>
     have:=h q (by simp[keys]) (Nat.eq_of_beq_eq_true hb2)
     subst this;simp at hb
   rw[this]
   exact ih fun d hd=>h d (by simp only[keys,List.map_cons,List.mem_cons];exact .inr hd)
theorem UG{ρ:Nat->Nat} :∀ {l:List Nat},(∀c d,c∈l->d∈l->ρ c=ρ d->c=d)->l.Nodup->(l.map ρ).Nodup
 | [],_,_=>List.nodup_nil
 |x::l,hi,hn=>by
  rw[List.nodup_cons]at hn
  rw[List.map_cons,List.nodup_cons]
  refine⟨fun h=>?_,UG (fun c d hc hd=>hi c d (List.mem_cons_of_mem _ hc) (List.mem_cons_of_mem _ hd)) hn.2⟩
  obtain⟨z,hz,e⟩:=List.mem_map.1 h
  have:=hi z x (List.mem_cons_of_mem _ hz) (List.mem_cons_self ..) e
  subst this;exact hn.1 hz
theorem jd{a b:Nat}(h:b<=a):Nat.blt a b=false:=by
 cases hb:Nat.blt a b with
 |false=>rfl
 |true=>
  have:a<b:=by simpa using hb
  omega
theorem je{a b:Nat}(h:b<a):Nat.ble a b=false:=by
 cases hb:Nat.ble a b with
 |false=>rfl
 |true=>have:=Nat.le_of_ble_eq_true hb;omega
theorem YA{q:AY}{m:List (Nat×Nat)}{A:Nat->SV N.T}{x:Bu N q.hs}(hx:Hv C Rr A m q=some x):∀p∈q.ro,∃sr,Rr (AJ m p.1)=some sr:=by
 intro p hp
 unfold Hv at hx
 split at hx
 ·rename_i hck
  simp only[Bool.and_eq_true]at hck
  have hc:=List.all_eq_true.1 hck.2.2.1 p hp
  unfold uf at hc
  split at hc
  ·split at hc
   ·rename_i h;exact⟨_,h⟩
   ·cases hc
  ·split at hc
   ·rename_i h;exact⟨_,h⟩
   ·cases hc
  ·split at hc
   ·rename_i h;exact⟨_,h⟩
   ·cases hc
  ·cases hc
 ·cases hx
theorem KJ{f:Nat}{q:PQ N}{ex:List Nat}{m:List (Nat×Nat)}{As:List (SV N.T)}{x:Bu N q.pi.hs}{y:Bu N q.po.hs}(hs:C3 P f q)(hq1:rQ q=true)(hq2:mA q=true)(hlen:As.length=q.pi.sl.length)(hlt:∀p∈q.pi.sl,p.1<As.length)
  (hx:Hv C Rr (fun i=>As.getD i .no) m q.pi=some x) (hy:q.F x=some y) (hf:∀j,nk<=j->Rr j=none):
  (∀(
    η:Nat->Value) (H:Hp) (Of:List Ao) (w:World) (Y:List (Nat×Ao)),(keys Y).Nodup->SH w H (Y.map (·.2)++Of)->N.inv H->
   (∀k,(k∈q.pi.ro.map (fun p=>AJ m p.1)++ex\/k∈keys (L6 q (Fc m q.pi.nk nk) y))->∀sr,Rr k=some sr->C4 C η H Y k sr)->(∀k∈keys (L6 q (Fc m q.pi.nk nk) y),Rr k=none->k∉keys Y)->
   ∀(vs:List Value),vs.length=As.length->(∀(i:Nat) (s:SV N.T),As[i]?=some s->∃v,vs[i]?=some v/\s.is C η H v)->
   ∀(goal:Prop) (K:Value->World->Prop),(∀O R,L4 P f vs H O R->SH w H O->(∀v w' H' O',H.le H'->R v H' O'->SH w' H' O'->K v w')->goal)->
   (∀(v:Value) (w':World) (H':Hp) (η':Nat->Value) (Y':List (Nat×Ao)),H.le H'->(∀k,(Rr k=none->k∉keys (L6 q (Fc m q.pi.nk nk) y))->η' k=η k)->(∀k,k∉keys (L6 q (Fc m q.pi.nk nk) y)->An Y' k=An Y k)->
    (∀k sr,An (L6 q (Fc m q.pi.nk nk) y) k=some sr->C4 C η' H' Y' k sr)->(keys Y').Nodup->(∀k∈keys Y',k∈keys Y\/k∈keys (L6 q (Fc m q.pi.nk nk) y))->SH w' H' (Y'.map (·.2)++Of)->((Gk q y).CO (Fc m q.pi.nk nk)).is C η' H' v->K v w')->goal)/\
  (∀j∈keys (L6 q (Fc m q.pi.nk nk) y),Rr j=none->nk<=j/\j<nk+(q.po.nk-q.pi.nk)):=by
 unfold rQ at hq1
 simp only[Bool.and_eq_true]at hq1
 obtain⟨w1,w2,w3,w4,w5,w6⟩:=hq1
 have w1:∀p∈q.pi.ro,p.1<q.pi.nk:=fun p hp=>by simpa using List.all_eq_true.1 w1 p.1 (List.mem_map.2 ⟨p,hp,rfl⟩)
 have w4:=Nat.le_of_ble_eq_true w4
 have w5:∀p∈q.po.ro,p.1∈q.pi.ro.map (·.1)\/(q.pi.nk<=p.1/\p.1<q.po.nk):=fun p hp=>by
  have:=List.all_eq_true.1 w5 p.1 (List.mem_map.2 ⟨p,hp,rfl⟩)
  rw[Bool.or_eq_true,Bool.and_eq_true]at this
  exact this.imp AB.1 fun h=>⟨Nat.le_of_ble_eq_true h.1,by simpa using h.2⟩
 have w6:∀c∈q.gone,c∈q.pi.ro.map (·.1):=fun c hc=>AB.1 (List.all_eq_true.1 w6 c hc)
 unfold mA at hq2
 rw[Bool.and_eq_true]at hq2
 obtain⟨o1,o2⟩:=hq2
 have kn:∀ {k:Nat},(Bw (q.pi.ro.map (·.1)) k||Bw (q.po.ro.map (·.1)) k)=true->k∈q.pi.ro.map (·.1)\/k∈q.po.ro.map (·.1):=fun h=>by
  rw[Bool.or_eq_true]at h;exact h.imp AB.1 AB.1
 generalize hρ:Fc m q.pi.nk nk=ρ
 have ρi:∀p∈q.pi.ro,ρ p.1=AJ m p.1:=fun p hp=>by
  rw[<-hρ];unfold Fc;rw[show Nat.blt p.1 q.pi.nk=true by simpa using w1 p hp]
 have ρo:∀c,q.pi.nk<=c->ρ c=nk+(c-q.pi.nk):=fun c hc=>by
  rw[<-hρ];unfold Fc;rw[jd hc]
 have kwr:∀j,j∈keys (L6 q ρ y)↔(∃p∈q.po.ro,j=ρ p.1)\/∃c∈q.gone,j=ρ c:=fun j=>by
  unfold L6 keys
  simp only[List.map_append,List.map_map,List.mem_append,List.mem_map,Function.comp]
  constructor
  ·rintro(⟨p,hp,e⟩|⟨c,hc,e⟩)
   ·exact .inl ⟨p,hp,e.symm⟩
   ·exact .inr ⟨c,hc,e.symm⟩
  ·rintro(⟨p,hp,e⟩|⟨c,hc,e⟩)
   ·exact .inl ⟨p,hp,e.symm⟩
   ·exact .inr ⟨c,hc,e.symm⟩
 have hall:=fun(η:Nat->Value) (H:Hp) (Y:List (Nat×Ao)) (vs:List Value) h1 h2 h3=>Jv (C:=C) (η:=η) (H:=H) (Y:=Y) (vs:=vs) (A:=fun i=>As.getD i .no) hx h1 h2 h3
 refine⟨fun η H Of w Y hn hw hiv hr hfresh vs v1 v2 goal K run hK=>?_,fun j hj hnone=>?_⟩
 ·skip
  obtain⟨hnd,hsl,hro⟩:=hall η H Y vs (v1.trans hlen) (fun p hp=>by
   have hl:=hlt p hp
   have hl:p.1<As.length:=hl
   obtain⟨v,e1,e2⟩:=v2 p.1 As[p.1] (List.getElem?_eq_getElem hl)
   refine⟨v,e1,?_⟩
   show(As.getD p.1 .no).is C η H v
   rw[List.getD_eq_getElem?_getD,List.getElem?_eq_getElem hl];exact e2) (fun p hp sr hsr=>hr _ (.inl (List.mem_append_left _ (List.mem_map.2 ⟨p,hp,rfl⟩))) sr hsr)
  have lt:∀p∈q.pi.ro,AJ m p.1<nk:=fun p hp=>by
   obtain⟨⟨sr,hsr⟩,_⟩:=hro p hp
   rcases Nat.lt_or_ge (AJ m p.1) nk with h|h
   ·exact h
   ·rw[hf _ h]at hsr;cases hsr
  have npo:∀p∈q.po.ro,q.pi.nk<=p.1->Rr (ρ p.1)=none:=fun p hp h=>by rw[ρo _ h];exact hf _ (by omega)
  generalize hηc:(fun c=>η (AJ m c))=ηc at hsl hro
  generalize hYc:(q.pi.ro.map fun p=>(p.1,(An Y (AJ m p.1)).getD .emp))=Yc
  generalize hYr:(Y.filter fun p=> !Bw (q.pi.ro.map fun p=>AJ m p.1) p.1)=Yr
  have kYc:keys Yc=q.pi.ro.map (·.1):=by rw[<-hYc];unfold keys;rw[List.map_map];rfl
  have ndc:(keys Yc).Nodup:=by rw[kYc];exact Ba w2
  have lYc:∀p∈q.pi.ro,An Yc p.1=An Y (AJ m p.1):=fun p hp=>by
   obtain⟨_,X,hX,_⟩:=hro p hp
   have:(p.1,(An Y (AJ m p.1)).getD .emp)∈Yc:=by rw[<-hYc];exact List.mem_map.2 ⟨p,hp,rfl⟩
   rw[Cc ndc this,hX];rfl
  have pin:zr q x ηc H Yc vs:=⟨v1.trans hlen,hsl,kYc,fun p hp=>by
   obtain⟨_,X,hX,h2⟩:=hro p hp
   exact⟨X,by rw[lYc p hp];exact hX,h2⟩,hiv⟩
  have hsh:SH w H (Yc.map (·.2)++(Yr.map (·.2)++Of)):=by
   have hz:=SH.O3 hw (Z:=(q.pi.ro.map fun p=>(AJ m p.1,(An Y (AJ m p.1)).getD .emp))++Yr) (by
    unfold keys
    rw[List.map_append,List.map_map]
    refine List.nodup_append.2 ⟨hnd,?_,fun k hk k' hk' e=>?_⟩
    ·rw[<-hYr];exact(List.filter_sublist.map _).nodup hn
    ·subst e
     rw[<-hYr]at hk'
     obtain⟨p,hp,rfl⟩:=List.mem_map.1 hk'
     have h3:=(List.mem_filter.1 hp).2
     have hk:p.1∈q.pi.ro.map fun p=>AJ m p.1:=hk
     rw[AB.2 hk]at h3;cases h3) (fun p hp=>by
    rcases List.mem_append.1 hp with hp|hp
    ·obtain⟨z,hz,rfl⟩:=List.mem_map.1 hp
     obtain⟨_,X,hX,_⟩:=hro z hz
     simp only[hX,Option.getD_some]
    ·rw[<-hYr]at hp
     exact Cc hn (List.mem_filter.1 hp).1)
   rw[List.map_append,List.map_map,List.append_assoc]at hz
   rw[<-hYc,List.map_map]
   exact hz
  refine run _ _ (hs.ok x y hy ηc H (Yr.map (·.2)++Of) Yc vs ndc pin) hsh fun v w' H' O' hle ⟨η',Y',eO,po⟩ hw'=>?_
  subst eO
  have kY':∀c∈keys Y',c∈q.pi.ro.map (·.1)\/c∈q.po.ro.map (·.1):=fun c hc=>by rw[<-kYc];exact po.ks c hc
  have ρlt:∀ {c},c∈q.pi.ro.map (·.1)->ρ c<nk/\c<q.pi.nk/\ρ c=AJ m c:=fun hc=>by
   obtain⟨p,hp,rfl⟩:=List.mem_map.1 hc
   rw[ρi p hp];exact⟨lt p hp,w1 p hp,rfl⟩
  have ρge:∀ {c},c∈q.po.ro.map (·.1)->c∉q.pi.ro.map (·.1)->nk<=ρ c/\q.pi.nk<=c/\ρ c=nk+(c-q.pi.nk)/\ρ c∈keys (L6 q ρ y)/\Rr (ρ c)=none:=fun hc hn=>by
   obtain⟨p,hp,rfl⟩:=List.mem_map.1 hc
   rcases w5 p hp with h|h
   ·exact absurd h hn
   ·rw[ρo _ h.1];exact⟨by omega,h.1,rfl,(kwr _).2 (.inl ⟨p,hp,(ρo _ h.1).symm⟩),hf _ (by omega)⟩
  have inj:∀c d,(c∈q.pi.ro.map (·.1)\/c∈q.po.ro.map (·.1))->(d∈q.pi.ro.map (·.1)\/d∈q.po.ro.map (·.1))->ρ c=ρ d->c=d:=fun c d hc hd e=>by
   by_cases h1:c∈q.pi.ro.map (·.1)<;>by_cases h2:d∈q.pi.ro.map (·.1)
   ·obtain⟨p,hp,rfl⟩:=List.mem_map.1 h1
    obtain⟨p',hp',rfl⟩:=List.mem_map.1 h2
    rw[ρi p hp,ρi p' hp']at e
    rw[MB (f:=fun p:Nat×RP=>AJ m p.1) hnd hp hp' e]
   ·have:=(ρlt h1).1;have:=(ρge (hd.resolve_left h2) h2).1;omega
   ·have:=(ρlt h2).1;have:=(ρge (hc.resolve_left h1) h1).1;omega
   ·have:=(ρge (hc.resolve_left h1) h1);have:=(ρge (hd.resolve_left h2) h2);omega
  let ηn:Nat->Value:=fun j=>match Nat.ble nk j&&Bw (keys (L6 q ρ y)) j with
   |true=>η' (q.pi.nk+(j-nk))
   |false=>η j
  have ηk:∀c,(c∈q.pi.ro.map (·.1)\/c∈q.po.ro.map (·.1))->ηn (ρ c)=η' c:=fun c hc=>by
   by_cases h1:c∈q.pi.ro.map (·.1)
   ·obtain⟨g1,g2,g3⟩:=ρlt h1
    show(match Nat.ble nk (ρ c)&&Bw (keys (L6 q ρ y)) (ρ c)with|true=>η' (q.pi.nk+(ρ c-nk))|false=>η (ρ c))=η' c
    rw[je g1,Bool.false_and,po.env c g2,<-hηc,g3]
   ·obtain⟨g1,g2,g3,g4,_⟩:=ρge (hc.resolve_left h1) h1
    show(match Nat.ble nk (ρ c)&&Bw (keys (L6 q ρ y)) (ρ c)with|true=>η' (q.pi.nk+(ρ c-nk))|false=>η (ρ c))=η' c
    rw[show Nat.ble nk (ρ c)=true by simpa using g1,AB.2 g4]
    show η' (q.pi.nk+(ρ c-nk))=η' c
    rw[g3];congr 1;omega
  have lkρ:∀c,(c∈q.pi.ro.map (·.1)\/c∈q.po.ro.map (·.1))->An (Y'.map fun p=>(ρ p.1,p.2)) (ρ c)=An Y' c:=fun c hc=>QR fun d hd e=>inj d c (kY' d hd) hc e
  have kρ:∀k∈keys (Y'.map fun p=>(ρ p.1,p.2)),∃c∈keys Y',k=ρ c:=fun k hk=>by
   unfold keys at hk
   rw[List.map_map]at hk
   obtain⟨p,hp,rfl⟩:=List.mem_map.1 hk
   exact⟨p.1,List.mem_map.2 ⟨p,hp,rf⟩,rf⟩
  refine hK v w' H' ηn ((Y'.map fun p=>(ρ p.1,p.2))++Yr) hle (fun k hk=>?_) (fun k hk=>?_) (fun k sr hk=>?_) ?_ (fun k hk=>?_) ?_ ?_
  ·show(match Nat.ble nk k&&Bw (keys (L6 q ρ y)) k with|true=>η' (q.pi.nk+(k-nk))|false=>η k)=η k
   split
   ·rename_i hb
    rw[Bool.and_eq_true]at hb
    exact absurd (AB.1 hb.2) (hk (hf _ (Nat.le_of_ble_eq_true hb.1)))
   ·rfl
  ·rw[Bq]
   by_cases hD:k∈q.pi.ro.map fun p=>AJ m p.1
   ·obtain⟨p,hp,rfl⟩:=List.mem_map.1 hD
    have hc:p.1∈q.pi.ro.map (·.1):=List.mem_map.2 ⟨p,hp,rfl⟩
    obtain⟨_,X,hX,_⟩:=hro p hp
    have e1:=lkρ p.1 (.inl hc)
    rw[ρi p hp,po.st p.1 (by rw[kYc];exact hc) (fun h=>hk ((kwr _).2 (.inl (by obtain⟨z,hz,e⟩:=List.mem_map.1 h;exact⟨z,hz,by rw[e,ρi p hp]⟩)))) (fun h=>hk ((kwr _).2 (.inr ⟨p.1,h,(ρi p hp).symm⟩))),lYc p hp,hX]at e1
    rw[e1,hX]
   ·have:An (Y'.map fun p=>(ρ p.1,p.2)) k=none:=BV fun hm=>by
     obtain⟨c,hc,rfl⟩:=kρ k hm
     by_cases h1:c∈q.pi.ro.map (·.1)
     ·obtain⟨p,hp,rfl⟩:=List.mem_map.1 h1
      exact hD (List.mem_map.2 ⟨p,hp,(ρi p hp).symm⟩)
     ·exact hk (ρge ((kY' c hc).resolve_left h1) h1).2.2.2.1
    rw[this,<-hYr]
    exact Jn hD
  ·unfold L6 at hk
   rw[Bq]at hk
   split at hk
   ·rename_i sr' hs'
    cases hk
    obtain⟨p,hp,e⟩:=List.mem_map.1 (AQ hs')
    cases e
    obtain⟨X,x1,x2⟩:=po.ro p hp
    have hc:p.1∈q.pi.ro.map (·.1)\/p.1∈q.po.ro.map (·.1):= .inr (List.mem_map.2 ⟨p,hp,rfl⟩)
    refine .inr ⟨X,by rw[Bq,lkρ p.1 hc,x1],?_⟩
    exact SR.J1 (ηk p.1 hc) (fun j hj=>ηk j (by have hj:=instR_ment _ _ _ j hj;exact kn (List.all_eq_true.1 (List.all_eq_true.1 o2 p hp) j hj))) x2
   ·obtain⟨c,_,e⟩:=List.mem_map.1 (AQ hk)
    cases e
    exact .inl rf
  ·unfold keys
   rw[List.map_append]
   refine List.nodup_append.2 ⟨?_,?_,fun k hk k' hk' e=>?_⟩
   ·rw[List.map_map]
    have:=po.nd
    unfold keys at this
    have e:(Y'.map ((·.1)∘fun p=>(ρ p.1,p.2)))=(Y'.map (·.1)).map ρ:=by rw[List.map_map];rfl
    rw[e]
    exact UG (fun c d hc hd e=>inj c d (kY' c hc) (kY' d hd) e) this
   ·rw[<-hYr];exact(List.filter_sublist.map _).nodup hn
   ·subst e
    obtain⟨c,hc,rfl⟩:=kρ k hk
    rw[<-hYr]at hk'
    obtain⟨p,hp,e⟩:=List.mem_map.1 hk'
    by_cases h1:c∈q.pi.ro.map (·.1)
    ·have h3:=(List.mem_filter.1 hp).2
     have:p.1∈q.pi.ro.map fun p=>AJ m p.1:=by
      obtain⟨z,hz,rfl⟩:=List.mem_map.1 h1
      rw[e,ρi z hz];exact List.mem_map.2 ⟨z,hz,rfl⟩
     rw[AB.2 this]at h3;cases h3
    ·obtain⟨_,_,_,g4,g5⟩:=ρge ((kY' c hc).resolve_left h1) h1
     exact hfresh _ g4 g5 (by rw[<-e];exact List.mem_map.2 ⟨p,(List.mem_filter.1 hp).1,rf⟩)
  ·unfold keys at hk
   rw[List.map_append]at hk
   rcases List.mem_append.1 hk with hk|hk
   ·obtain⟨c,hc,rfl⟩:=kρ k hk
    by_cases h1:c∈q.pi.ro.map (·.1)
    ·obtain⟨p,hp,rfl⟩:=List.mem_map.1 h1
     obtain⟨_,X,hX,_⟩:=hro p hp
     rw[ρi p hp];exact .inl (Ce hX)
    ·exact .inr (ρge ((kY' c hc).resolve_left h1) h1).2.2.2.1
   ·rw[<-hYr]at hk
    obtain⟨p,hp,rfl⟩:=List.mem_map.1 hk
    exact .inl (List.mem_map.2 ⟨p,(List.mem_filter.1 hp).1,rf⟩)
  ·rw[List.map_append,List.map_map,List.append_assoc]
   exact hw'
  ·refine SV.J1 (fun k hk=>ηk k ?_) po.res
   obtain⟨p,hp,hk⟩:=Se q y k hk
   have:=List.all_eq_true.1 o1 p hp
   rw[Bool.and_eq_true]at this
   exact kn (List.all_eq_true.1 this.2 k hk)
 ·have rr:=YA hx
  rcases(kwr j).1 hj with⟨p,hp,rfl⟩|⟨c,hc,rfl⟩
  ·rcases w5 p hp with h|h
   ·obtain⟨z,hz,e⟩:=List.mem_map.1 h
    obtain⟨sr,hsr⟩:=rr z hz
    rw[<-e,ρi z hz,hsr]at hnone;cases hnone
   ·rw[ρo _ h.1];omega
  ·obtain⟨z,hz,rfl⟩:=List.mem_map.1 (w6 c hc)
   obtain⟨sr,hsr⟩:=rr z hz
   rw[ρi z hz,hsr]at hnone;cases hnone
theorem S2{f:Nat}{q:PQ N}{ex:List Nat}{m:List (Nat×Nat)}{As:List (SV N.T)}{x:Bu N q.pi.hs}{y:Bu N q.po.hs}(hs:C3 P f q)(hq1:rQ q=true)(hq2:mA q=true)(hlen:As.length=q.pi.sl.length)(hlt:∀p∈q.pi.sl,p.1<As.length)
  (hx:Hv C Rr (fun i=>As.getD i .no) m q.pi=some x) (hy:q.F x=some y) (hf:∀j,nk<=j->Rr j=none)
  (hA:∀(η:Nat->Value) (H:Hp) (Y:List (Nat×Ao)) (a:Act),(∀x∈o.op.operands,(Ap S x).is C η H (a.eval x))->(∀c∈q.pi.ro.map (fun p=>AJ m p.1)++ex,∀sr,Rr c=some sr->C4 C η H Y c sr)->
   ∃vs:List Value,vs.length=As.length/\(∀(i:Nat) (s:SV N.T),As[i]?=some s->∃v,vs[i]?=some v/\s.is C η H v)/\∀H O R,L4 P f vs H O R->Bl P o.op o.type (EV a) H O R):
  Al P C S Rr o ⟨(Gk q y).CO (Fc m q.pi.nk nk),q.pi.ro.map (fun p=>AJ m p.1)++ex,L6 q (Fc m q.pi.nk nk) y⟩/\
  (∀j∈keys (L6 q (Fc m q.pi.nk nk) y),Rr j=none->nk<=j/\j<nk+(q.po.nk-q.pi.nk)):=by
 obtain⟨h1,h2⟩:=KJ (P:=P) (ex:=ex) hs hq1 hq2 hlen hlt hx hy hf
 refine⟨fun η H Of a w Y hn hw hi hxs hr hfresh K Q hK=>?_,h2⟩
 obtain⟨vs,v1,v2,v3⟩:=hA η H Y a hxs fun c hc sr hsr=>hr _ (.inl hc) sr hsr
 exact h1 η H Of w Y hn hw hi hr hfresh vs v1 v2 (o.wp P a w K Q) (fun v w'=>K (a.put o.dst v) w') (fun O R ht hsh hk=>v3 _ _ _ ht a w o K Q rf rf (fun x u e=>by simpa using e) hsh hk) hK
end
end Go.GV
namespace Go.GV
open Go Go.GK
section
variable (N : Cw)
def A3:List Ty->Type
 | []=>Unit
 | [t]=>t.den N.T
 |t::u::ts=>t.den N.T×A3 (u::ts)
structure FQ where
 ps:List Ty
 rs:List Ty
 F:A3 N ps->Option (A3 N rs)
def I6(C:List (SV N.T)):(ps:List Ty)->List (SV N.T)->Option (A3 N ps)
 | [],[]=>some ()
 | [t],[s]=>OV C t s
 |t::u::ts,s::ss=>match OV C t s,I6 C (u::ts) ss with
  |some x,some y=>some (x,y)
  |_,_=>none
 |_,_=>none
def EA:(rs:List Ty)->A3 N rs->SV N.T
 | [],_=> .raw (.tuple #[])
 | [t],x=> .d t x
 | [t,u],x=> .t2 (.d t x.1) (.d u x.2)
 | [t,u,v],x=> .t3 (.d t x.1) (.d u x.2.1) (.d v x.2.2)
 |_,_=> .no
variable {N}
abbrev η0:Nat->Value:=fun _=>undef
def Ja(H:Hp):(ps:List Ty)->A3 N ps->List Value->Prop
 | [],_,vs=>vs=[]
 | [t],x,vs=> ∃v,vs=[v]/\(SV.d t x:SV N.T).is [] η0 H v
 |t::u::ts,x,vs=> ∃v ws,vs=v::ws/\(SV.d t x.1:SV N.T).is [] η0 H v/\Ja H (u::ts) x.2 ws
structure C0(P:Program)(f:Nat)(q:FQ N):Prop where
 Oj:Nb P f
 ok:∀(x:A3 N q.ps) (y:A3 N q.rs),q.F x=some y->∀(H:Hp) (O:List Ao) (vs:List Value),N.inv H->Ja H q.ps x vs->L4 P f vs H O (fun v H' O'=>O'=O/\(EA N q.rs y).is [] η0 H' v)
theorem Hx{C C':List (SV N.T)}{η η':Nat->Value}{H:Hp}{v:Value}{t:Ty}{x:t.den N.T}(h:(SV.d t x).is C η H v):(SV.d t x).is C' η' H v:=h
theorem M5{C:List (SV N.T)}{η:Nat->Value}{H:Hp}{a:Act}{S:Nat->SV N.T} :∀(ps:List Ty) (xs:List Operand) (x:A3 N ps),I6 N C ps (xs.map (Ap S))=some x->(∀x∈xs,(Ap S x).is C η H (a.eval x))->Ja H ps x (xs.map a.eval)
 | [],[],x,h,_=>rfl
 | [],_::_,x,h,_=>by cases h
 | [t],[],x,h,_=>by cases h
 | [t],[y],x,h,hx=>⟨_,rfl,Hx (CC (t:=t) h (hx y (by simp)))⟩
 | [t],_::_::_,x,h,_=>by cases h
 |t::u::ts,[],x,h,_=>by cases h
 |t::u::ts,y::ys,x,h,hx=>by
  have h:(match OV C t (Ap S y),I6 N C (u::ts) (ys.map (Ap S))with
   |some x,some y=>some (x,y)
   |_,_=>none)=some x:=h
  split at h
  ·rename_i z w h1 h2
   cases h
   exact⟨_,_,rf,Hx (CC (t:=t) h1 (hx y (by simp))),M5 (u::ts) ys w h2 fun x hx'=>hx x (by simp[hx'])⟩
  ·cases h
theorem J0{C:List (SV N.T)}{η:Nat->Value}{H:Hp}{v:Value} :∀ {rs:List Ty} {y:A3 N rs},(EA N rs y).is [] η0 H v->(EA N rs y).is C η H v
 | [],_,h=>h
 | [_],_,h=>h
 | [_,_],_,h=>h
 | [_,_,_],_,h=>h
 |_::_::_::_::_,_,h=>h
theorem JZ{rs:List Ty}{y:A3 N rs}{τ:Nat->Nat}{Rr:Nat->Option (SR N.T)} :CD τ Rr (EA N rs y):=by
 unfold EA;split<;>trivial
variable {R : Type} {P : Program} {C : List (SV N.T)} {S : Nat -> SV N.T} {Rr : Nat -> Option (SR N.T)} {nk : Nat} {o : Oper} {k : A_ N.T -> Nat -> Option R} {r : R}
theorem Gb{a:Act} :∀xs:List Operand,Ku (EV a) xs=some (xs.map a.eval)
 | []=>rfl
 |x::xs=>by simp only[Ku,EV,Gb xs,List.map_cons]
theorem EH:∀ {t:Ty} {H H':Hp} {x:t.den N.T} {cs:List Value},DV t=true->(N.c t).Bm H x cs->(N.c t).Bm H' x cs
 | .int k,H,H',x,cs,_,h=>Db.2 (Db.1 h)
 | .bool,_,_,_,_,_,h=>h
 | .str,_,_,_,_,_,h=>h
 | .un,_,_,_,_,_,h=>h
 | .bs,_,_,_,_,_,h=>h
 | .st t,_,_,_,_,hf,h=>EH (t:=t) hf h
 | .pr a b,_,_,_,_,hf,⟨c1,c2,e,h1,h2⟩=>by
  have hf:(DV a&&DV b)=true:=hf
  rw[Bool.and_eq_true]at hf
  exact⟨c1,c2,e,EH hf.1 h1,EH hf.2 h2⟩
theorem Ib{t:Ty}{x:t.den N.T}{C C':List (SV N.T)}{η η':Nat->Value}{H H':Hp}{v:Value}(hf:DV t=true)(h:(SV.d t x).is C η H v):(SV.d t x).is C' η' H' v:=by
 obtain⟨cs,h1,h2⟩:=h
 exact⟨cs,EH hf h1,h2⟩
theorem Vr:∀ {rs:List Ty} {y:A3 N rs} {H H':Hp} {v:Value},rs.all DV=true->(EA N rs y).is [] η0 H v->(EA N rs y).is [] η0 H' v
 | [],_,_,_,_,_,h=>h
 | [t],_,_,_,_,hf,h=>Ib (by simpa using hf) h
 | [t,u],_,_,_,_,hf,⟨x,y,e,h1,h2⟩=>by
  simp only[List.all_cons,List.all_nil,Bool.and_true,Bool.and_eq_true]at hf
  exact⟨x,y,e,Ib hf.1 h1,Ib hf.2 h2⟩
 | [t,u,s],_,_,_,_,hf,⟨x,y,z,e,h1,h2,h3⟩=>by
  simp only[List.all_cons,List.all_nil,Bool.and_true,Bool.and_eq_true]at hf
  exact⟨x,y,z,e,Ib hf.1 h1,Ib hf.2.1 h2,Ib hf.2.2 h3⟩
 |_::_::_::_::_,_,_,_,_,_,h=>h
def dr(S:Nat->SV N.T):List Operand->Option Nat
 | []=>none
 |x::xs=>match Ap S x with
  | .Az k=>some k
  |_=>dr S xs
def BG(Rr:Nat->Option (SR N.T))(k:Nat):Nat->Option (SR N.T):=fun j=>match Nat.beq j k with
 |true=>some .gone
 |false=>Rr j
def Ly(C:List (SV N.T))(ps:List Ty)(xs:List Operand):Nat->(Nat->SV N.T)->(Nat->Option (SR N.T))->List Nat->Option (A3 N ps×List Nat)
 |0,_,_,_=>none
 |n+1,S,Rr,rd=>match dr S xs with
  |some k=>match Rr k with
   |some (.row _ te l)=>Ly C ps xs n (fun t=>E3 k te l (S t)) (BG Rr k) (k::rd)
   |_=>none
  |none=>(I6 N C ps (xs.map (Ap S))).map fun x=>(x,rd)
theorem Vq{k:Nat}{te:Ty}{l:List (te.den N.T)}{x:Operand}{η:Nat->Value}{H:Hp}{v:Value}(h:Fa (N.c te) H l (η k))(hx:(Ap S x).is C η H v):(Ap (fun t=>E3 k te l (S t)) x).is C η H v:=by
 cases x with
 |tmp t=>exact Cf h hx
 |_=>exact hx
theorem N2{f:Nat}{q:FQ N}{y:A3 N q.rs}{vs:List Value}{xs:List Operand}{a:Act}{η:Nat->Value}{Of:List Ao}(hv:vs=xs.map a.eval)(hfl:q.rs.all DV=true)(hs:C0 P f q):∀ {n:Nat} {S:Nat->SV N.T} {Rr:Nat->Option (SR N.T)} {Y:List (Nat×Ao)} {H:Hp} {rd0 rd:List Nat} {x:A3 N q.ps},
  Ly C q.ps xs n S Rr rd0=some (x,rd)->q.F x=some y->(keys Y).Nodup->N.inv H->(∀x∈xs,(Ap S x).is C η H (a.eval x))->(∀k∈rd,∀sr,Rr k=some sr->C4 C η H Y k sr)->
  L4 P f vs H (Y.map (·.2)++Of) (fun v H' O'=>O'=Y.map (·.2)++Of/\(EA N q.rs y).is [] η0 H' v)
 |0,_,_,_,_,_,_,_,h,_,_,_,_,_=>by cases h
 |n+1,S,Rr,Y,H,rd0,rd,x,h,hy,hn,hi,hx,hr=>by
  unfold Ly at h
  split at h
  ·rename_i k hk
   split at h
   ·rename_i g te l hb
    have sub:∀(n:Nat) (S:Nat->SV N.T) (Rr:Nat->Option (SR N.T)) (rd0:List Nat),Ly C q.ps xs n S Rr rd0=some (x,rd)->∀j∈rd0,j∈rd:=by
     intro n
     induction n with
     |zero=>intro S Rr rd0 h;cases h
     |succ n ih=>
      intro S Rr rd0 h j hj
      unfold Ly at h
      split at h
      ·split at h
       ·exact ih _ _ _ h j (List.mem_cons_of_mem _ hj)
       ·cases h
      ·obtain⟨z,_,e⟩:=Option.map_eq_some_iff.1 h
       cases e;exact hj
    have hkr:k∈rd:=sub _ _ _ _ h k (by simp)
    rcases hr k hkr _ hb with e|⟨X,h1,xs',rfl,hL⟩
    ·cases e
    obtain⟨i,h2,h3⟩:=SM Of hn h1
    intro w hw
    obtain⟨H',g1,g2,g3,g4⟩:=hw.X4 h2
    rw[h3]at g2 g4
    have hsd:Fa (N.c te) H' l (η k):=Fa.of (by rw[A5];exact g3) rfl (hL.mono g1) (hw.JW h2)
    have ih:=N2 (Of:=Of) hv hfl hs h hy (Hw (k:=k) hn) (N.BW g1 hi) (fun x hx'=>Vq hsd ((hx x hx').mono g1)) (fun j hj sr hsr=>by
     unfold BG at hsr
     split at hsr
     ·cases hsr;exact .inl rfl
     ·rename_i hb2
      have ne:=Nat.ne_of_beq_eq_false hb2
      exact(hr j hj sr hsr).imp id fun⟨z,e1,e2⟩=>⟨z,by rw[Ei ne];exact e1,e2.mono g1⟩)
    refine(ih w g2).mono ?_
    rintro e w' ⟨v,H2,O2,rfl,k2,k3,rfl,k5⟩
    exact⟨v,H,_,rf,Hp.le.refl H,g4 w' (k3.weaken k2),rf,Vr hfl k5⟩
   ·cases h
  ·obtain⟨z,hz,e⟩:=Option.map_eq_some_iff.1 h
   cases e
   subst hv
   exact hs.ok x y hy H _ _ hi (M5 _ _ _ hz hx)
def VX(C:List (SV N.T))(Φ:Nat->Option (FQ N))(S:Nat->SV N.T)(Rr:Nat->Option (SR N.T))(nk:Nat)(f:Nat)(xs:List Operand)(k:A_ N.T->Nat->Option R):Option R:=match Φ f with
 |some q=>match q.rs.all DV with
  |true=>match Ly C q.ps xs 9 S Rr []with
   |some (x,rd)=>Ac (q.F x) fun y=>k ⟨EA N q.rs y,rd,[]⟩ nk
   |none=>none
  |false=>match I6 N C q.ps (xs.map (Ap S))with
   |some x=>Ac (q.F x) fun y=>k ⟨EA N q.rs y,[],[]⟩ nk
   |none=>none
 |none=>none
theorem XK{Φ:Nat->Option (FQ N)}(hΦ:∀f q,Φ f=some q->C0 P f q){f:Nat}{xs:Array Operand}{tys:Array TypeId}(ho:o.op= .call {callee:= .value (.func f),args:=xs,argTypes:=tys})(h:VX C Φ S Rr nk f xs.toList k=some r):AL P C S Rr nk o k r:=by
 have hop:∀ {η:Nat->Value} {H:Hp} {a:Act},(∀x∈o.op.operands,(Ap S x).is C η H (a.eval x))->∀z∈xs.toList,(Ap S z).is C η H (a.eval z):=fun hx z hz=>hx z (by rw[ho];simp[Op.operands,Call.operands];exact .inr (by simpa using hz))
 unfold VX at h
 split at h
 ·rename_i q hq
  have hs:=hΦ f q hq
  split at h
  ·rename_i hfl
   split at h
   ·rename_i x rd hx
    obtain⟨y,hy,h⟩:=A9 h
    refine .y h (fun η H Of a w Y hn hw hi hxs hr _ K Q hK=>?_) fun _ _=>JZ
    have ht:=N2 (Of:=Of) (C:=C) (η:=η) (H:=H) (a:=a) rfl hfl hs hx hy hn hi (hop hxs) (fun j hj sr hsr=>hr j (.inl hj) sr hsr)
    have hop:=Bl.call (P:=P) (T:=o.type) (E:=EV a) (H:=H) (O:=Y.map (·.2)++Of) (tys:=tys) hs.Oj (Gb xs.toList) ht
    refine hop a w o K Q (by rw[ho]) rf (fun x u e=>by simpa using e) hw fun v w' H' O' hle ⟨e1,e2⟩ hw'=>?_
    subst e1
    exact hK v w' H' η Y hle (fun _ _=>rfl) (fun _ _=>rfl) (fun k sr h=>by cases h) hn (fun k hk=> .inl hk) hw' (J0 e2)
   ·cases h
  ·split at h
   ·rename_i x hx
    obtain⟨y,hy,h⟩:=A9 h
    refine .y h (fun η H Of a w Y hn hw hi hxs _ _ K Q hK=>?_) fun _ _=>JZ
    have hav:=M5 (C:=C) (η:=η) (H:=H) (a:=a) _ _ _ hx fun z hz=>hop hxs z hz
    have hop:=Bl.call (P:=P) (T:=o.type) (E:=EV a) (H:=H) (O:=Y.map (·.2)++Of) (tys:=tys) hs.Oj (Gb xs.toList) (hs.ok x y hy H (Y.map (·.2)++Of) _ hi hav)
    refine hop a w o K Q (by rw[ho]) rf (fun x u e=>by simpa using e) hw fun v w' H' O' hle ⟨e1,e2⟩ hw'=>?_
    subst e1
    exact hK v w' H' η Y hle (fun _ _=>rfl) (fun _ _=>rfl) (fun k sr h=>by cases h) hn (fun k hk=> .inl hk) hw' (J0 e2)
   ·cases h
 ·cases h
end
end Go.GV
namespace Go.GV
open Go Go.GK
section
variable {N : Cw}
def GZ(P:Program)(yv:Value)(vs:List Value)(w:World)(K:Bool->World->Prop):Prop:= ∃l f tmps asg body,yv= .func (.yield l) #[] #[]/\(Instr.yield l vs.toArray).run P w= .ok (.round l f tmps asg body) w/\RoundIn Fence.wide 0 P l f tmps asg body w fun e w'=> ∃b,e= .returned (.bool b)/\K b w'
theorem GZ.mono{P:Program}{yv:Value}{vs:List Value}{w:World}{K K':Bool->World->Prop}(h:GZ P yv vs w K)(hk:∀b w',K b w'->K' b w'):GZ P yv vs w K':=by
 obtain⟨l,f,tmps,asg,body,h1,h2,h3⟩:=h
 exact⟨l,f,tmps,asg,body,h1,h2,h3.mono fun e w' ⟨b,e1,e2⟩=>⟨b,e1,hk _ _ e2⟩⟩
structure IQ(N:Cw)where
 pi:AY
 yi:Nat
 ts:List Ty
 F:Bu N pi.hs->Option (List (A3 N ts)×Bool)
def Is{α:Type}(r:List α×Bool):Bool->List α×Bool
 |true=>r
 |false=>([],true)
structure G3(P:Program)(f:Nat)(q:IQ N):Prop where
 Oj:Nb P f
 ok:∀x ys,q.F x=some ys->∀(G:Hp->List Ao->List (A3 N q.ts)×Bool->Prop) (yv:Value),yv.oneCell'=true->
  (∀H H' O r,H.le H'->G H O r->G H' O r)->(∀H O,¬G H O ([],false))->
  (∀H O y l e,N.inv H->G H O (y::l,e)->∀A vs w,Ja H q.ts y vs->SH w H (A++O)->GZ P yv vs w fun b w'=> ∃H' O',H.le H'/\SH w' H' (A++O')/\G H' O' (Is (l,e) b))->
  ∀(η:Nat->Value) (H:Hp) (O:List Ao) (Y:List (Nat×Ao)) (vs:List Value) (w:World),(keys Y).Nodup->vs.length=q.pi.sl.length->(∀p∈q.pi.sl,∃v,vs[p.1]?=some v/\(inst N q.pi.hs x p.2).is [] η H v)->vs[q.yi]?=some yv->
   keys Y=q.pi.ro.map (·.1)->(∀p∈q.pi.ro,∃X,An Y p.1=some X/\(instR N q.pi.hs x p.2).is [] η H p.1 X)->G H O ys->N.inv H->SH w H (Y.map (·.2)++O)->
  Calls P f vs.toArray w fun e w'=> ∃v H' O' Y',e= .returned v/\H.le H'/\SH w' H' (Y'.map (·.2)++O')/\keys Y'=q.pi.ro.map (·.1)/\(∀p∈q.pi.ro,∃X,An Y' p.1=some X/\(instR N q.pi.hs x p.2).is [] η H' p.1 X)/\G H' O' ([],true)
structure JQ(N:Cw)where
 pi:AY
 ky:Nat
 ts:List Ty
 rb:Bool
 F:Bu N pi.hs->Option (List (A3 N ts)×Option Bool)
def o7{α:Type}(r:List α)(b:Option Bool):Bool->List α×Option Bool
 |true=>(r,b)
 |false=>([],some false)
structure G1(P:Program)(f:Nat)(q:JQ N):Prop where
 Oj:Nb P f
 ok:∀x r,q.F x=some r->∀(η:Nat->Value) (G:Hp->List Ao->List (A3 N q.ts)×Option Bool->Prop),
  (∀H H' O r,H.le H'->G H O r->G H' O r)->(∀H O,¬G H O ([],none))->
  (∀H O y r b,N.inv H->G H O (y::r,b)->∀A vs w,Ja H q.ts y vs->SH w H (A++O)->GZ P (η q.ky) vs w fun c w'=> ∃H' O',H.le H'/\SH w' H' (A++O')/\G H' O' (o7 r b c))->
  ∀(H:Hp) (O:List Ao) (Y:List (Nat×Ao)) (vs:List Value) (w:World),(keys Y).Nodup->vs.length=q.pi.sl.length->(∀p∈q.pi.sl,∃v,vs[p.1]?=some v/\(inst N q.pi.hs x p.2).is [] η H v)->
   keys Y=q.pi.ro.map (·.1)->(∀p∈q.pi.ro,∃X,An Y p.1=some X/\(instR N q.pi.hs x p.2).is [] η H p.1 X)->G H O r->N.inv H->SH w H (Y.map (·.2)++O)->
  Calls P f vs.toArray w fun e w'=> ∃v H' O' Y' b,e= .returned v/\H.le H'/\SH w' H' (Y'.map (·.2)++O')/\keys Y'=q.pi.ro.map (·.1)/\(∀p∈q.pi.ro,∃X,An Y' p.1=some X/\(instR N q.pi.hs x p.2).is [] η H' p.1 X)/\G H' O' ([],some b)/\(q.rb=true->v= .bool b)
end
end Go.GV

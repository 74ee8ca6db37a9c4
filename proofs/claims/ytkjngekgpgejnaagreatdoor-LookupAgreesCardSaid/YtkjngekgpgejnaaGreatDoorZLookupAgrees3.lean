/- Part 3 of the texts of this claim: what its theorem leans on. -/
import Derived.Test.YtkjngekgpgejnaaGreatDoorZLookupAgrees2
import Derived.Laws.Strings2
set_option linter.all false
namespace Go.GV
open Go Go.GK
theorem SH.nZ{w:World}{H:Hp}{O:List Ao}(hs:SH w H O){i:Nat}{v:Value}{e:TypeId}{size n:Nat}{xs:List Value}(hi:O[i]?=some (.row v e size n xs)):
  ∃H',H.le H'/\SH w H' (O.eraseIdx i)/\Sl H' v size n xs/\∀w' O',SH w' H' O'->SH w' H (.row v e size n xs::O'):=by
 have h:=hs.ok i _ hi
 simp only[Ao.ok]at h
 rcases h.2 with⟨rfl,rfl⟩|⟨g,cap,cur,rfl,hg0,hg,hn,hcap,hcs,htake⟩
 ·have:xs=[]:=List.eq_nil_of_length_eq_zero (by simpa using h.1)
  subst this
  exact⟨H,Hp.le.refl H,hs.drop i,Sl.nil H size,fun w' O' hw'=>hw'.Fx e size⟩
 ·obtain⟨h1,h2⟩:=hs.Jg hi (b:=g) rfl hg
  refine⟨_,h1,h2,⟨h.1, .inr ⟨_,_,rf,hn⟩,fun j u hj=>⟨⟨g,0+j,none⟩,cur,e,(0,0),by simp only[AE,Addr.add_lit],rf,by simp[Hp.put],?_⟩⟩,fun w' O' hw'=>?_⟩
  ·rw[<-htake]at hj
   rw[List.getElem?_take]at hj
   split at hj
   ·simpa using hj
   ·simp at hj
  ·exact SH.HN (i:=0) (r:= .row (.slice (some ⟨g,0,none⟩) n cap) e size n xs) (o:= .cells cur e (0,0)) rf rf (hs.Ii i _ g hi rf) (fun w'' hw''=>⟨h.1, .inr ⟨g,cap,cur,rf,hg0,hw'',hn,hcap,hcs,htake⟩⟩) hw'
section
variable {N : Cw}
def Cg:SV N.T->Bool
 | .d t _=>DV t
 | .Di _ _ _ _ _=>false
 | .pd _ _ _=>false
 | .BO _=>false
 | .lf _ a l=>Cg a&&Cg l
 | .t2 a b=>Cg a&&Cg b
 | .t3 a b c=>Cg a&&(Cg b&&Cg c)
 | .AA _ l _=>Cg l
 | .vc a l=>Cg a&&Cg l
 | .px _ (.dx _ _)=>false
 |_=>true
def Rc:SR N.T->Bool
 | .Af _ l=>Cg l
 | .row _ t _=>DV t
 | .BO _=>false
 | .gone=>true
 | .map _ _ _ _=>false
 | .DB _ _ _ _ _=>false
theorem BH{g g':Nat->Value->Prop}{η:Nat->Value}{H H':Hp} :∀ {s:SV N.T} {v:Value},Cg s=true->s.Bo g η H v->s.Bo g' η H' v
 | .d t x,v,hf,⟨cs,h1,h2⟩=>⟨cs,EH hf h1,h2⟩
 | .na _,_,_,h=>h
 | .ct _ _,_,_,h=>h
 | .cb _ _,_,_,h=>h
 | .lt _ _ _,_,_,h=>h
 | .lb _,_,_,h=>h
 | .raw _,_,_,h=>h
 | .ud,_,_,h=>h
 | .no,_,_,h=>h
 | .loc _ _,_,_,h=>h
 | .Az _,_,_,h=>h
 | .Di _ _ _ _ _,_,hf,_=>by cases hf
 | .pd t x off,v,hf,_=>by cases hf
 | .mp _,_,_,h=>h
 | .lf s a l,v,hf,⟨c1,c2,u,h1,h2,h3,h4,h5,h6⟩=>by
  have hf:(Cg a&&Cg l)=true:=hf
  rw[Bool.and_eq_true]at hf
  exact⟨c1,c2,u,h1,h2,BH hf.1 h3,h4,h5,BH hf.2 h6⟩
 | .nl,_,_,h=>h
 | .t2 a b,v,hf,⟨x,y,h1,h2,h3⟩=>by
  have hf:(Cg a&&Cg b)=true:=hf
  rw[Bool.and_eq_true]at hf
  exact⟨x,y,h1,BH hf.1 h2,BH hf.2 h3⟩
 | .t3 a b c,v,hf,⟨x,y,z,h1,h2,h3,h4⟩=>by
  have hf:(Cg a&&(Cg b&&Cg c))=true:=hf
  rw[Bool.and_eq_true,Bool.and_eq_true]at hf
  exact⟨x,y,z,h1,BH hf.1 h2,BH hf.2.1 h3,BH hf.2.2 h4⟩
 | .AA f l cs,v,hf,⟨us,h1,h2⟩=>⟨us,h1,BH (s:=l) hf h2⟩
 | .vn,_,_,h=>h
 | .vc a l,v,hf,⟨u,us,h1,h2,h3⟩=>by
  have hf:(Cg a&&Cg l)=true:=hf
  rw[Bool.and_eq_true]at hf
  exact⟨u,us,h1,BH hf.1 h2,BH hf.2 h3⟩
 | .px _ (.sub _ _ _),_,_,h=>h
 | .px _ .sf,_,_,h=>h
 | .px _ (.hc _),_,_,h=>h
 | .px _ (.fo _),_,_,h=>h
 | .px _ (.fi _),_,_,h=>h
 | .px _ (.fe _ _ _),_,_,h=>h
 | .px _ .any,_,_,h=>h
 | .px _ .ub,_,_,h=>h
 | .px _ (.sd _),_,_,h=>h
 | .px _ (.dx _ _),_,hf,_=>by cases hf
 | .BO _,_,hf,_=>by cases hf
theorem LL{t:Ty}{H H':Hp}(hf:DV t=true):∀ {l:List (t.den N.T)} {xs:List Value},AM (N.c t) H l xs->AM (N.c t) H' l xs
 | [],_,h=>h
 |_::_,_,⟨c,xs,e,h1,h2⟩=>⟨c,xs,e,EH hf h1,LL hf h2⟩
theorem Oc{C:List (SV N.T)}{η:Nat->Value}{H H':Hp}{k:Nat}{s:SR N.T}{r:Ao}(hf:Rc s=true)(h:s.is C η H k r):s.is C η H' k r:=by
 cases s with
 |Af g l=>
  obtain⟨B,cs,h1,h2,h3⟩:=h
  exact⟨B,cs,h1,h2,BH (s:=l) hf h3⟩
 |row g t l=>obtain⟨xs,h1,h2⟩:=h;exact⟨xs,h1,LL hf h2⟩
 |BO j=>cases hf
 |gone=>exact h
 |map g kt vt l=>cases hf
 |DB _ _ _ _ _=>cases hf
def hU(k:Nat)(t:Ty)(l:List (t.den N.T)):SR N.T->SR N.T
 | .Af g r=> .Af g (E3 k t l r)
 |r=>r
def rV(C:List (SV N.T)):SV N.T->SV N.T
 | .lf s a l=> .lf s (res C a) (rV C l)
 |s=>s
theorem eG{C:List (SV N.T)}{η:Nat->Value}{H:Hp} :∀ {s:SV N.T} {v:Value},s.is C η H v->(rV C s).is C η H v:=by
 intro s
 induction s with
 |lf n a l _ ih=>exact fun⟨c1,c2,u,h1,h2,h3,h4,h5,h6⟩=>⟨c1,c2,u,h1,h2,DN h3,h4,h5,ih h6⟩
 |_=>exact fun h=>h
def yS(C:List (SV N.T)):SR N.T->SR N.T
 | .Af g l=> .Af g (rV C l)
 |r=>r
def H0(C:List (SV N.T))(Rr:Nat->Option (SR N.T))(k:Nat)(t:Ty)(l:List (t.den N.T)):Nat->Option (SR N.T):=fun j=>match Nat.beq j k with
 |true=>some .gone
 |false=>(Rr j).map fun r=>hU k t l (yS C r)
theorem X6{C:List (SV N.T)}{η:Nat->Value}{H H':Hp}(hl:H.le H'){k j:Nat}{t:Ty}{l:List (t.den N.T)}(h:Fa (N.c t) H' l (η k)){r:SR N.T}{X:Ao}(hr:r.is C η H j X):(hU k t l (yS C r)).is C η H' j X:=by
 cases r with
 |Af g b=>
  obtain⟨B,cs,h1,h2,h3⟩:=hr
  exact⟨B,cs,h1,h2,Cf h (eG (h3.mono hl))⟩
 |_=>exact SR.is.mono hl hr
variable {R : Type} {P : Program} {C : List (SV N.T)} {S : Nat -> SV N.T} {Rr : Nat -> Option (SR N.T)} {nk : Nat} {o : Oper} {k : A_ N.T -> Nat -> Option R} {r : R}
theorem Al.X5{kk:Nat}{g:TypeId}{te:Ty}{l:List (te.den N.T)}{s:A_ N.T}(hk:Rr kk=some (.row g te l))(h:Al P C (fun t=>E3 kk te l (S t)) (H0 C Rr kk te l) o s)(hw:kk∉keys s.wr)(hf:Cg s.sv=true)(hfr:s.wr.all (fun p=>Rc p.2)=true):Al P C S Rr o ⟨s.sv,kk::s.rd,s.wr⟩:=by
 intro η H Of a w Y hn hs hi hx hr hfresh K Q hK
 rcases hr kk (.inl (by simp)) _ hk with e|⟨x,h1,xs,rfl,hL⟩
 ·cases e
 obtain⟨i,h2,h3⟩:=SM Of hn h1
 obtain⟨H',g1,g2,g3,g4⟩:=SH.nZ hs h2
 rw[h3]at g2
 have hsd:Fa (N.c te) H' l (η kk):=Fa.of (by rw[A5];exact g3) rfl (hL.mono g1) (hs.JW h2)
 have hkd:kk∉keys (EK Y kk):=fun hm=>by
  obtain⟨p,hp,e⟩:=List.mem_map.1 hm
  have:=(List.mem_filter.1 hp).2
  rw[e]at this;simp at this
 refine h η H' Of a w (EK Y kk) (Hw hn) g2 (N.BW g1 hi) (fun x hx'=>Vq hsd ((hx x hx').mono g1)) (fun j hj sr hsr=>?_) (fun j hj hnone hm=>?_) K Q fun v w' H2 η' Y' hle hη hY hwr hn' hY' hsh' hsv=>?_
 ·unfold H0 at hsr
  split at hsr
  ·cases hsr;exact .inl rfl
  ·rename_i hb
   have ne:=Nat.ne_of_beq_eq_false hb
   obtain⟨s0,hs0,rfl⟩:=Option.map_eq_some_iff.1 hsr
   rcases hr j (hj.imp (List.mem_cons_of_mem _) id) s0 hs0 with e|⟨z,e1,e2⟩
   ·subst e;exact .inl rfl
   ·exact .inr ⟨z,by rw[Ei ne];exact e1,X6 g1 hsd e2⟩
 ·unfold H0 at hnone
  split at hnone
  ·cases hnone
  ·exact hfresh j hj (Option.map_eq_none_iff.1 hnone) (De hm)
 ·have hkY':kk∉keys Y':=fun hm=>(hY' kk hm).elim hkd hw
  refine hK v w' H η' ((kk, .row (η kk) g (te.sz N) l.length xs)::Y') (Hp.le.refl H) (fun j hj=>hη j fun hnone hm=>?_) (fun j hj=>?_) (fun j sr hj=>?_) (List.nodup_cons.2 ⟨hkY',hn'⟩) (fun j hj=>?_) ?_ (BH hf hsv)
  ·unfold H0 at hnone
   split at hnone
   ·cases hnone
   ·exact hj (Option.map_eq_none_iff.1 hnone) hm
  ·simp only[An]
   split
   ·rename_i hb
    have:=Nat.eq_of_beq_eq_true hb;subst this;exact h1.symm
   ·rename_i hb
    rw[hY j hj,Ei (fun e=>Nat.ne_of_beq_eq_false hb e.symm)]
  ·have ne:kk≠j:=fun e=>by subst e;exact hw (Ce hj)
   refine(hwr j sr hj).imp id fun⟨z,e1,e2⟩=>⟨z,by rw[AR ne];exact e1,Oc (List.all_eq_true.1 hfr _ (AQ hj)) e2⟩
  ·simp only[keys,List.map_cons,List.mem_cons]at hj
   rcases hj with rfl|hj
   ·exact .inl (Ce h1)
   ·rcases hY' j hj with e|e
    ·exact .inl (De e)
    ·exact .inr e
  ·exact g4 w' _ (hsh'.weaken hle)
theorem oz{kk:Nat}{te:Ty}{l:List (te.den N.T)}{τ:Nat->Nat}(hτ:KP Rr S τ):KP (H0 C Rr kk te l) (fun t=>E3 kk te l (S t)) τ:=fun t=>by
 have h1:=hτ t
 generalize hsv:S t=sv at h1⊢
 show CD τ (H0 C Rr kk te l) (E3 kk te l (S t))
 rw[hsv]
 cases sv with
 |Az j=>unfold E3;split<;>trivial
 |Di j i off te' x=>
  unfold E3
  split
  ·trivial
  ·rename_i hb2
   intro g' t' l' hl'
   unfold H0 at hl'
   rw[hb2]at hl'
   obtain⟨s0,hs0,e0⟩:=Option.map_eq_some_iff.1 hl'
   cases s0<;>first|(cases e0;exact h1 _ _ _ hs0)|cases e0
 |_=>exact h1
theorem PG{kk:Nat}(hf:∀j,nk<=j->Rr j=none)(hlt:kk<nk):∀j,nk<=j->BG Rr kk j=none:=fun j hj=>by
 unfold BG
 cases hb2:Nat.beq j kk with
 |true=>have:=Nat.eq_of_beq_eq_true hb2;omega
 |false=>exact hf j hj
theorem Lz{kk:Nat}{te:Ty}{l:List (te.den N.T)}(hf:∀j,nk<=j->Rr j=none)(hlt:kk<nk):∀j,nk<=j->H0 C Rr kk te l j=none:=fun j hj=>by
 unfold H0
 cases hb2:Nat.beq j kk with
 |true=>have:=Nat.eq_of_beq_eq_true hb2;omega
 |false=>simp only[hf j hj];rfl
def Kf(kk:Nat)(k:A_ N.T->Nat->Option R)(s:A_ N.T)(nk:Nat):Option R:=match Bw (keys s.wr) kk,Cg s.sv&&s.wr.all (fun p=>Rc p.2)with
 |false,true=>k ⟨s.sv,kk::s.rd,s.wr⟩ nk
 |_,_=>none
theorem AL.X5{kk:Nat}{g:TypeId}{te:Ty}{l:List (te.den N.T)}(hb:Rr kk=some (.row g te l))(h:AL P C (fun t=>E3 kk te l (S t)) (H0 C Rr kk te l) nk o (Kf kk k) r):AL P C S Rr nk o k r:=by
 obtain⟨s,nk',h1,h2,h3,h4,h5⟩:=h
 unfold Kf at h1
 split at h1
 ·rename_i hm hfl
  rw[Bool.and_eq_true]at hfl
  have hw:kk∉keys s.wr:=fun e=>by rw[AB.2 e]at hm;cases hm
  refine⟨_,nk',h1,h2.X5 hb hw hfl.1 hfl.2,h3,fun j hj hnone=>h4 j hj ?_,fun τ hτ=>?_⟩
  ·unfold H0
   cases hb2:Nat.beq j kk with
   |true=>have:=Nat.eq_of_beq_eq_true hb2;subst this;exact absurd hj hw
   |false=>simp only[hnone];rfl
  ·have h6:=h5 τ (oz hτ)
   show CD τ (Mn s.wr Rr) s.sv
   have hfl:=hfl.1
   generalize s.sv=sv at h6 hfl
   cases sv with
   |Di _ _ _ _ _=>cases hfl
   |_=>exact h6
 ·cases h1
def M3(k:Nat)(t:Ty)(x:t.den N.T):SV N.T->SV N.T
 | .loc j off=>match Nat.beq j k with
  |true=> .pd t x off
  |false=> .loc j off
 | .lf s a r=> .lf s (M3 k t x a) (M3 k t x r)
 | .t2 a b=> .t2 (M3 k t x a) (M3 k t x b)
 | .t3 a b c=> .t3 (M3 k t x a) (M3 k t x b) (M3 k t x c)
 | .AA f r cs=> .AA f (M3 k t x r) cs
 | .vc a r=> .vc (M3 k t x a) (M3 k t x r)
 |s=>s
theorem YZ{C:List (SV N.T)}{η:Nat->Value}{H:Hp}{g:Nat->Value->Prop}{k:Nat}{t:Ty}{x:t.den N.T}{B:Nat}{cs:List Value}(hB:η k=ptr B 0)(hL:(N.c t).Bm H x cs)(hc:∀j u,cs[j]?=some u->C8 H (ptr B j) u):∀ {s:SV N.T} {v:Value},s.Bo g η H v->(M3 k t x s).Bo g η H v:=by
 intro s
 induction s with
 |loc j off=>
  intro v hv
  unfold M3
  split
  ·rename_i hb
   have:=Nat.eq_of_beq_eq_true hb;subst this
   obtain⟨B',h1,rfl⟩:=hv
   have:B=B':=by rw[hB]at h1;simpa [ptr]using h1
   subst this
   exact⟨⟨B,0,none⟩,0,cs,by simp[ptr,Addr.add],hL,fun j u hj=>by have:=hc j u hj;rw[Addr.add_lit,Nat.zero_add,Nat.zero_add];exact this⟩
  ·exact hv
 |lf n a l h1 h2=>exact fun⟨c1,c2,u,q1,q2,q3,q4,q5,q6⟩=>⟨c1,c2,u,q1,q2,h1 q3,q4,q5,h2 q6⟩
 |t2 a b h1 h2=>exact fun⟨y,z,q1,q2,q3⟩=>⟨y,z,q1,h1 q2,h2 q3⟩
 |t3 a b c h1 h2 h3=>exact fun⟨y,z,w,q1,q2,q3,q4⟩=>⟨y,z,w,q1,h1 q2,h2 q3,h3 q4⟩
 |AA f r cs h1=>exact fun⟨us,q1,q2⟩=>⟨us,q1,h1 q2⟩
 |vc a r h1 h2=>exact fun⟨u,us,q1,q2,q3⟩=>⟨u,us,q1,h1 q2,h2 q3⟩
 |_=>exact fun h=>h
theorem oW{C:List (SV N.T)}{S:Nat->SV N.T}{η:Nat->Value}{H:Hp}{k:Nat}{t:Ty}{x:t.den N.T}{B:Nat}{cs:List Value}(hB:η k=ptr B 0)(hL:(N.c t).Bm H x cs)(hc:∀j u,cs[j]?=some u->C8 H (ptr B j) u){y:Operand}{v:Value}(h:(Ap S y).is C η H v):(Ap (fun u=>M3 k t x (S u)) y).is C η H v:=by
 cases y with
 |tmp u=>exact YZ (C:=C) hB hL hc h
 |_=>exact h
theorem Al.UT{kk:Nat}{g:TypeId}{b:SV N.T}{te:Ty}{y:te.den N.T}{s:A_ N.T}(hk:Rr kk=some (.Af g b))(hy:HD N C 64 te b=some (y, .nl))(h:Al P C (fun t=>M3 kk te y (S t)) (BG Rr kk) o s)(hw:kk∉keys s.wr)(hf:Cg s.sv=true)(hfr:s.wr.all (fun p=>Rc p.2)=true):Al P C S Rr o ⟨s.sv,kk::s.rd,s.wr⟩:=by
 intro η H Of a w Y hn hs hi hx hr hfresh K Q hK
 rcases hr kk (.inl (by simp)) _ hk with e|⟨x,h1,B,cs,hB,rfl,hl⟩
 ·cases e
 obtain⟨i,h2,h3⟩:=SM Of hn h1
 obtain⟨c1,c2,e1,hL,h4⟩:=Dl (cs:=cs.toList) hy hl
 have h4:Value.agg c2.toArray= .agg #[]:=h4
 have h4:c2=[]:=by simpa using h4
 subst h4
 rw[List.append_nil]at e1
 obtain⟨g1,g2⟩:=hs.Jg h2 (b:=B) rfl (hs.ok i _ h2)
 have hdis:H.at_ B=none:=hs.Ii i _ B h2 rfl
 rw[h3]at g2
 have hL':=(N.c te).mono g1 hL
 have hc:∀j u,c1[j]?=some u->C8 (H.put B (.cells cs g (0,0))) (ptr B j) u:=fun j u hj=>by
  refine⟨⟨B,j,none⟩,cs,g,(0,0),rf,rf,by simp[Hp.put],?_⟩
  rw[<-e1]at hj
  simpa using hj
 have hkd:kk∉keys (EK Y kk):=fun hm=>by
  obtain⟨p,hp,e⟩:=List.mem_map.1 hm
  have:=(List.mem_filter.1 hp).2
  rw[e]at this;simp at this
 refine h η _ Of a w (EK Y kk) (Hw hn) g2 (N.BW g1 hi) (fun x hx'=>oW hB hL' hc ((hx x hx').mono g1)) (fun j hj sr hsr=>?_) (fun j hj hnone hm=>?_) K Q fun v w' H2 η' Y' hle hη hY hwr hn' hY' hsh' hsv=>?_
 ·unfold BG at hsr
  split at hsr
  ·cases hsr;exact .inl rfl
  ·rename_i hb
   have ne:=Nat.ne_of_beq_eq_false hb
   exact(hr j (hj.imp (List.mem_cons_of_mem _) id) sr hsr).imp id fun⟨z,e1,e2⟩=>⟨z,by rw[Ei ne];exact e1,e2.mono g1⟩
 ·unfold BG at hnone
  split at hnone
  ·cases hnone
  ·exact hfresh j hj hnone (De hm)
 ·have hkY':kk∉keys Y':=fun hm=>(hY' kk hm).elim hkd hw
  refine hK v w' H η' ((kk, .Af B (.cells cs g (0,0)))::Y') (Hp.le.refl H) (fun j hj=>hη j fun hnone hm=>?_) (fun j hj=>?_) (fun j sr hj=>?_) (List.nodup_cons.2 ⟨hkY',hn'⟩) (fun j hj=>?_) ?_ (BH hf hsv)
  ·unfold BG at hnone
   split at hnone
   ·cases hnone
   ·exact hj hnone hm
  ·simp only[An]
   split
   ·rename_i hb
    have:=Nat.eq_of_beq_eq_true hb;subst this;exact h1.symm
   ·rename_i hb
    rw[hY j hj,Ei (fun e=>Nat.ne_of_beq_eq_false hb e.symm)]
  ·have ne:kk≠j:=fun e=>by subst e;exact hw (Ce hj)
   refine(hwr j sr hj).imp id fun⟨z,e1,e2⟩=>⟨z,by rw[AR ne];exact e1,Oc (List.all_eq_true.1 hfr _ (AQ hj)) e2⟩
  ·simp only[keys,List.map_cons,List.mem_cons]at hj
   rcases hj with rfl|hj
   ·exact .inl (Ce h1)
   ·rcases hY' j hj with e|e
    ·exact .inl (De e)
    ·exact .inr e
  ·exact SH.HN (i:=0) (r:= .Af B (.cells cs g (0,0))) (o:= .cells cs g (0,0)) rf rf hdis (fun w'' hw''=>hw'') (hsh'.weaken hle)
theorem oV{kk:Nat}{te:Ty}{y:te.den N.T}{τ:Nat->Nat}(hτ:KP Rr S τ):KP (BG Rr kk) (fun t=>M3 kk te y (S t)) τ:=fun t=>by
 have h1:=hτ t
 generalize hsv:S t=sv at h1⊢
 show CD τ (BG Rr kk) (M3 kk te y (S t))
 rw[hsv]
 cases sv with
 |loc j off=>unfold M3;split<;>trivial
 |Di j i off te' x=>
  intro g' t' l' hl'
  unfold BG at hl'
  split at hl'
  ·cases hl'
  ·exact h1 g' t' l' hl'
 |_=>exact h1
theorem AL.UT{kk:Nat}{g:TypeId}{b:SV N.T}{te:Ty}{y:te.den N.T}(hb:Rr kk=some (.Af g b))(hy:HD N C 64 te b=some (y, .nl))(h:AL P C (fun t=>M3 kk te y (S t)) (BG Rr kk) nk o (Kf kk k) r):AL P C S Rr nk o k r:=by
 obtain⟨s,nk',h1,h2,h3,h4,h5⟩:=h
 unfold Kf at h1
 split at h1
 ·rename_i hm hfl
  rw[Bool.and_eq_true]at hfl
  have hw:kk∉keys s.wr:=fun e=>by rw[AB.2 e]at hm;cases hm
  refine⟨_,nk',h1,h2.UT hb hy hw hfl.1 hfl.2,h3,fun j hj hnone=>h4 j hj ?_,fun τ hτ=>?_⟩
  ·unfold BG
   cases hb2:Nat.beq j kk with
   |true=>have:=Nat.eq_of_beq_eq_true hb2;subst this;exact absurd hj hw
   |false=>exact hnone
  ·have h6:=h5 τ (oV hτ)
   show CD τ (Mn s.wr Rr) s.sv
   have hfl:=hfl.1
   generalize s.sv=sv at h6 hfl
   cases sv with
   |Di _ _ _ _ _=>cases hfl
   |_=>exact h6
 ·cases h1
def LU:SV N.T->List (SV N.T)
 | .vc a l=>a::LU l
 |_=>[]
def mL:SV N.T->Bool
 | .vc _ l=>mL l
 | .vn=>true
 |_=>false
structure Ca(T:Nat->Type)where
 f:Nat
 As:List (SV T)
 cs:List Nat
def OG(S:Nat->SV N.T)(Rr:Nat->Option (SR N.T))(x:Operand)(xs:List Operand):Option (Ca N.T):=match Ap S x with
 | .AA f l cs=>match mL l&&cs.all fun c=>match Rr c with|some (.Af _ _)=>true|_=>false with
  |true=>some ⟨f,LU l++xs.map (Ap S)++cs.map (fun c=> .loc c 0),cs⟩
  |false=>none
 |_=>none
theorem KC{C:List (SV N.T)}{η:Nat->Value}{H:Hp} :∀ {l:SV N.T} {us:List Value},mL l=true->l.is C η H (.tuple us.toArray)->us.length=(LU l).length/\∀(i:Nat) (s:SV N.T),(LU l)[i]?=some s->∃v,us[i]?=some v/\s.is C η H v
 | .vn,us,_,h=>by
  have h:Value.tuple us.toArray= .tuple #[]:=h
  have:us=[]:=by simpa using h
  subst this
  exact⟨rf,fun i s h=>by simp[LU]at h⟩
 | .vc a l,us,hb,⟨u,us',e,h1,h2⟩=>by
  have e:us=u::us':=by simpa using e
  subst e
  obtain⟨g1,g2⟩:=KC (l:=l) hb h2
  refine⟨by simp[LU,g1],fun i s h=>?_⟩
  cases i with
  |zero=>simp[LU]at h;subst h;exact⟨u,rfl,h1⟩
  |succ i=>exact g2 i s (by simpa [LU]using h)
theorem Ry{x:Operand}{xs:List Operand}{tys:Array TypeId}{q:Ca N.T}(ho:o.op= .call {callee:= .value x,args:=xs.toArray,argTypes:=tys})(h:OG S Rr x xs=some q)(hent:Nb P q.f){η:Nat->Value}{H:Hp}{Y:List (Nat×Ao)}{a:Act}(hx:∀x∈o.op.operands,(Ap S x).is C η H (a.eval x))(hr:∀c∈q.cs,∀sr,Rr c=some sr->C4 C η H Y c sr):
  ∃vs:List Value,vs.length=q.As.length/\(∀(i:Nat) (s:SV N.T),q.As[i]?=some s->∃v,vs[i]?=some v/\s.is C η H v)/\∀H O R,L4 P q.f vs H O R->Bl P o.op o.type (EV a) H O R:=by
 unfold OG at h
 split at h
 ·rename_i f l cs hs
  split at h
  ·rename_i hb
   cases h
   rw[Bool.and_eq_true]at hb
   have hxx:(Ap S x).is C η H (a.eval x):=hx x (by rw[ho];simp[Op.operands,Call.operands])
   rw[hs]at hxx
   obtain⟨us,e,hl⟩:=hxx
   obtain⟨g1,g2⟩:=KC hb.1 hl
   refine⟨us++xs.map a.eval++cs.map η,by simp[g1],fun i s hi=>?_,fun H O R ht=>?_⟩
   ·have hi:(LU l++xs.map (Ap S)++cs.map fun c=>SV.loc c 0)[i]?=some s:=hi
    rw[List.append_assoc]at hi⊢
    by_cases c1:i<(LU l).length
    ·rw[List.getElem?_append_left c1]at hi
     rw[List.getElem?_append_left (by omega)]
     exact g2 i s hi
    ·rw[List.getElem?_append_right (by omega)]at hi
     rw[List.getElem?_append_right (by omega),g1]
     by_cases c2:i-(LU l).length<xs.length
     ·rw[List.getElem?_append_left (by simpa using c2),List.getElem?_map]at hi
      rw[List.getElem?_append_left (by simpa using c2),List.getElem?_map]
      obtain⟨z,hz,rfl⟩:=Option.map_eq_some_iff.1 hi
      refine⟨_,by rw[hz];rfl,hx z (by rw[ho];simp[Op.operands,Call.operands];exact .inr (List.mem_of_getElem? hz))⟩
     ·rw[List.getElem?_append_right (by simpa using c2),List.getElem?_map]at hi
      rw[List.getElem?_append_right (by simpa using c2),List.getElem?_map]
      simp only[List.length_map]at hi⊢
      obtain⟨c,hc,rfl⟩:=Option.map_eq_some_iff.1 hi
      have hcm:=List.mem_of_getElem? hc
      have hcb:=List.all_eq_true.1 hb.2 c hcm
      refine⟨η c,by rw[hc];rfl,?_⟩
      split at hcb
      ·rename_i g b hR
       rcases hr c hcm _ hR with e|⟨X,_,B,_,b1,_⟩
       ·cases e
       ·exact⟨B,b1,b1⟩
      ·cases hcb
   ·rw[ho]
    exact Bl.YV (first:=us) (caps:=cs.map η) hent (congrArg some e) (Gb xs) ht
  ·cases h
 ·cases h
def SC{T:Nat->Type} :SV T->Option Nat
 | .Az k=>some k
 | .lf _ a l=>match SC a with
  |some k=>some k
  |none=>SC l
 |_=>none
def QU(As:List (SV N.T)):List (Nat×SP)->Option Nat
 | []=>none
 |(i, .v _ _)::l=>match SC (As.getD i .no)with
  |some k=>some k
  |none=>QU As l
 |_::l=>QU As l
def US(As:List (SV N.T)):List (Nat×SP)->Option (Nat×Ty)
 | []=>none
 |(i, .pd _ t _)::l=>match As.getD i .no with
  | .loc k _=>some (k,t)
  |_=>US As l
 |_::l=>US As l
def LY(C:List (SV N.T))(f:Nat)(q:PQ N)(x:Operand)(xs:List Operand)(nk:Nat):Nat->(Nat->SV N.T)->(Nat->Option (SR N.T))->(A_ N.T->Nat->Option R)->Option (Option R)
 |0,_,_,_=>none
 |n+1,S,Rr,k=>match OG S Rr x xs with
  |some c=>
        match Nat.beq c.f f with
   |true=>
        match QU c.As q.pi.sl with
    |some kk=>match Rr kk with
     |some (.row _ te l)=>LY C f q x xs nk n (fun t=>E3 kk te l (S t)) (H0 C Rr kk te l) (Kf kk k)
     |_=>none
    |none=>match US c.As q.pi.sl with
     |some (kb,tb)=>match Rr kb with
      |some (.Af _ b)=>match SC (rV C b)with
       |some kk=>match Rr kk with
        |some (.row _ te l)=>LY C f q x xs nk n (fun t=>E3 kk te l (S t)) (H0 C Rr kk te l) (Kf kk k)
        |_=>none
       |none=>match HD N C 64 tb b with
        |some (y, .nl)=>LY C f q x xs nk n (fun t=>M3 kb tb y (S t)) (BG Rr kb) (Kf kb k)
        |_=>none
      |_=>none
     |none=>Rx C Rr nk q c.As c.cs k
   |false=>none
  |none=>none
theorem Qx{q:PQ N}{y:Bu N q.po.hs}{τ:Nat->Nat}{Rr:Nat->Option (SR N.T)}{ρ:Nat->Nat}(o1:mA q=true):CD τ Rr ((Gk q y).CO ρ):=by
 unfold mA at o1
 rw[Bool.and_eq_true]at o1
 have pl:∀p∈Ud q,∀ {ρ:Nat->Nat} {Rr:Nat->Option (SR N.T)},CD τ Rr ((inst N q.po.hs y p).CO ρ):=fun p hp {ρ Rr} =>by
  have:=List.all_eq_true.1 o1.1 p hp
  rw[Bool.and_eq_true]at this
  have hpl:=this.1
  have pr:∀(hs:List HT) (x:Bu N hs) (j:Nat),CD τ Rr ((BP N hs x j).CO ρ):=fun hs x j=>by
   have:∀(hs:List HT) (x:Bu N hs) (j:Nat),BP N hs x j= .no\/∃h y,BP N hs x j=TE N h y:=by
    intro hs
    induction hs with
    |nil=>exact fun _ _=> .inl rfl
    |cons t ts ih=>
     intro x j
     cases ts with
     |nil=>cases j with
      |zero=>exact .inr ⟨t,x,rfl⟩
      |succ j=>exact .inl rfl
     |cons u ts=>cases j with
      |zero=>exact .inr ⟨t,x.1,rfl⟩
      |succ j=>exact ih x.2 j
   rcases this hs x j with e|⟨h,y,e⟩
   ·rw[e];trivial
   ·rw[e];cases h<;>trivial
  cases p with
  |v j t=>exact pr _ _ _
  |nat j=>exact pr _ _ _
  |Az _=>trivial
  |loc _ _=>trivial
  |AA _ _ _=>trivial
  |Aa=>trivial
  |nl=>trivial
  |mp _=>trivial
  |pd j t off=>
   show CD τ Rr (SV.CO ρ (match BP N q.po.hs y j with| .d t x=>SV.pd t x off|_=> .no))
   split<;>trivial
  |px ks z=>cases z with
   |sf=>trivial
   |hc _=>trivial
   |sub j n t=>
    show CD τ Rr (SV.CO ρ (match BP N q.po.hs y j,BP N q.po.hs y n with| .na i, .na m=>SV.px ks (.sub i m t)|_,_=> .px ks .any))
    split<;>trivial
  |sv ls=>cases ls<;>trivial
  |_=>cases hpl
 show CD τ _ ((Gk q y).CO _)
 unfold Gk
 unfold Ud at pl
 split
 ·trivial
 ·rename_i e;rw[e]at pl;exact pl _ (by simp)
 ·trivial
 ·trivial
theorem HC{f:Nat}{q:PQ N}{x:Operand}{xs:List Operand}{tys:Array TypeId}(ho:o.op= .call {callee:= .value x,args:=xs.toArray,argTypes:=tys})(hs:C3 P f q):∀ {n:Nat} {S:Nat->SV N.T} {Rr:Nat->Option (SR N.T)} {k:A_ N.T->Nat->Option R},(∀j,nk<=j->Rr j=none)->LY C f q x xs nk n S Rr k=some (some r)->AL P C S Rr nk o k r
 |0,_,_,_,_,h=>by cases h
 |n+1,S,Rr,k,hf,h=>by
  unfold LY at h
  split at h
  ·rename_i c hc
   split at h
   ·rename_i hb
    have e:=Nat.eq_of_beq_eq_true hb
    split at h
    ·rename_i kk hk
     split at h
     ·rename_i g te l hr
      have hlt:kk<nk:=Nat.lt_of_not_le fun hle=>by have:=hf kk hle;rw[hr]at this;cases this
      exact .X5 hr (HC ho hs (Lz hf hlt) h)
     ·cases h
    ·split at h
     ·rename_i kb tb hkb
      split at h
      case h_2=>cases h
      rename_i g b hrb
      have hltb:kb<nk:=Nat.lt_of_not_le fun hle=>by have:=hf kb hle;rw[hrb]at this;cases this
      split at h
      ·rename_i kk hk2
       split at h
       ·rename_i g te l hr
        have hlt:kk<nk:=Nat.lt_of_not_le fun hle=>by have:=hf kk hle;rw[hr]at this;cases this
        exact .X5 hr (HC ho hs (Lz hf hlt) h)
       ·cases h
      ·split at h
       ·rename_i y hy
        exact .UT hrb hy (HC ho hs (PG hf hltb) h)
       ·cases h
     unfold Rx at h
     simp only at h
     split at h
     ·rename_i hck
      simp only[Bool.and_eq_true]at hck
      split at h
      ·rename_i z hz
       obtain⟨y,hy,h⟩:=A9 (Option.some.inj h)
       obtain⟨g1,g2⟩:=S2 (S:=S) (o:=o) (f:=f) (ex:=c.cs) hs hck.2.2.1 hck.2.2.2 (Nat.eq_of_beq_eq_true hck.1) (fun p hp=>by simpa using List.all_eq_true.1 hck.2.1 p hp) hz hy hf fun η H Y a hx hr=>by
        obtain⟨vs,k1,k2,k3⟩:=Ry ho hc (by rw[e];exact hs.Oj) hx (fun c' hc' sr hsr=>hr c' (List.mem_append_right _ hc') sr hsr)
        exact⟨vs,k1,k2,fun H O R ht=>k3 H O R (by rw[e];exact ht)⟩
       refine⟨_,_,h,g1,Nat.le_add_right _ _,g2,fun τ _=>?_⟩
       exact Qx hck.2.2.2
      ·cases h
     ·cases h
   ·cases h
  ·cases h
inductive CQ(N:Cw)where
 |Ae (q:FQ N)
 |NO (l:List (PQ N))
 |its (l:List (IQ N))
 |gM (l:List (JQ N))
def A7(P:Program)(f:Nat):CQ N->Prop
 | .Ae q=>C0 P f q
 | .NO l=> ∀q∈l,C3 P f q
 | .its l=> ∀q∈l,G3 P f q
 | .gM l=> ∀q∈l,G1 P f q
def OE(C:List (SV N.T))(f:Nat)(x:Operand)(xs:List Operand)(S:Nat->SV N.T)(Rr:Nat->Option (SR N.T))(nk:Nat)(k:A_ N.T->Nat->Option R):List (PQ N)->Option R
 | []=>none
 |q::l=>match LY C f q x xs nk 9 S Rr k with
  |some z=>z
  |none=>OE C f x xs S Rr nk k l
theorem KI{f:Nat}{x:Operand}{xs:List Operand}{tys:Array TypeId}(ho:o.op= .call {callee:= .value x,args:=xs.toArray,argTypes:=tys})(hf:∀j,nk<=j->Rr j=none):∀ {l:List (PQ N)},(∀q∈l,C3 P f q)->OE C f x xs S Rr nk k l=some r->AL P C S Rr nk o k r
 | [],_,h=>by cases h
 |q::l,hs,h=>by
  unfold OE at h
  split at h
  ·rename_i z hz
   subst h
   exact HC ho (hs q (by simp)) hf hz
  ·exact KI ho hf (fun q hq=>hs q (by simp[hq])) h
def dE(C:List (SV N.T))(q:FQ N)(As:List (SV N.T))(cs:List Nat)(nk:Nat)(k:A_ N.T->Nat->Option R):Option R:=match I6 N C q.ps As with
 |some x=>Ac (q.F x) fun y=>k ⟨EA N q.rs y,cs,[]⟩ nk
 |none=>none
theorem Gg{C:List (SV N.T)}{η:Nat->Value}{H:Hp} :∀(ps:List Ty) (As:List (SV N.T)) (vs:List Value) (x:A3 N ps),I6 N C ps As=some x->vs.length=As.length->(∀(i:Nat) (s:SV N.T),As[i]?=some s->∃v,vs[i]?=some v/\s.is C η H v)->Ja H ps x vs
 | [],[],vs,x,h,hl,_=>List.eq_nil_of_length_eq_zero hl
 | [],_::_,_,x,h,_,_=>by cases h
 | [t],[],_,x,h,_,_=>by cases h
 | [t],[s],vs,x,h,hl,hv=>by
  obtain⟨v,e,h1⟩:=hv 0 s rfl
  obtain⟨v',rfl⟩:∃v',vs=[v']:=List.length_eq_one_iff.1 hl
  cases e
  exact⟨_,rf,Hx (CC (t:=t) h h1)⟩
 | [t],_::_::_,_,x,h,_,_=>by cases h
 |t::u::ts,[],_,x,h,_,_=>by cases h
 |t::u::ts,s::ss,[],x,h,hl,hv=>by cases hl
 |t::u::ts,s::ss,v::vs,x,h,hl,hv=>by
  have h:(match OV C t s,I6 N C (u::ts) ss with
   |some x,some y=>some (x,y)
   |_,_=>none)=some x:=h
  split at h
  ·rename_i z w h1 h2
   cases h
   obtain⟨v',e,h3⟩:=hv 0 s rfl
   cases e
   exact⟨_,_,rf,Hx (CC (t:=t) h1 h3),Gg (u::ts) ss vs w h2 (by simpa using hl) fun i s hi=>hv (i+1) s hi⟩
  ·cases h
def VW(C:List (SV N.T))(Φ:Nat->Option (CQ N))(S:Nat->SV N.T)(Rr:Nat->Option (SR N.T))(nk:Nat)(x:Operand)(xs:List Operand)(k:A_ N.T->Nat->Option R):Option R:=match x with
 | .func f=>match Φ f with
  |some (.Ae q)=>VX C (fun j=>match Nat.beq j f with|true=>some q|false=>none) S Rr nk f xs k
  |some (.NO l)=>OE C f (.func f) xs S Rr nk k l
  |_=>none
 |x=>match OG S Rr x xs with
  |some c=>match Φ c.f with
   |some (.Ae q)=>dE C q c.As c.cs nk k
   |some (.NO l)=>OE C c.f x xs S Rr nk k l
   |_=>none
  |none=>none
theorem Uy{Φ:Nat->Option (CQ N)}(hΦ:∀f q,Φ f=some q->A7 P f q)(hf:∀j,nk<=j->Rr j=none){x:Operand}{xs:Array Operand}{tys:Array TypeId}(ho:o.op= .call {callee:= .value x,args:=xs,argTypes:=tys})(h:VW C Φ S Rr nk x xs.toList k=some r):AL P C S Rr nk o k r:=by
 have ho':o.op= .call {callee:= .value x,args:=xs.toList.toArray,argTypes:=tys} :=by rw[ho]
 unfold VW at h
 split at h
 ·rename_i f
  split at h
  ·rename_i q hq
   refine XK (Φ:=fun j=>match Nat.beq j f with|true=>some q|false=>none) (fun g q' hg=>?_) ho h
   split at hg
   ·rename_i hb;cases hg;have:=Nat.eq_of_beq_eq_true hb;subst this;exact hΦ _ _ hq
   ·cases hg
  ·rename_i l hl
   exact KI ho' hf (hΦ _ _ hl) h
  ·cases h
 ·split at h
  ·rename_i c hc
   split at h
   ·rename_i q hq
    have hs:C0 P c.f q:=hΦ _ _ hq
    unfold dE at h
    split at h
    ·rename_i z hz
     obtain⟨y,hy,h⟩:=A9 h
     refine .y h (fun η H Of a w Y hn hw hi hxs hr _ K Q hK=>?_) fun _ _=>JZ
     obtain⟨vs,k1,k2,k3⟩:=Ry ho' hc hs.Oj hxs (fun c' hc' sr hsr=>hr c' (.inl hc') sr hsr)
     have ht:=hs.ok z y hy H (Y.map (·.2)++Of) vs hi (Gg _ _ _ _ hz k1 k2)
     refine k3 _ _ _ ht a w o K Q rf rf (fun x u e=>by simpa using e) hw fun v w' H' O' hle ⟨e1,e2⟩ hw'=>?_
     subst e1
     exact hK v w' H' η Y hle (fun _ _=>rfl) (fun _ _=>rfl) (fun k sr h=>by cases h) hn (fun k hk=> .inl hk) hw' (J0 e2)
    ·cases h
   ·rename_i l hl
    exact KI ho' hf (hΦ _ _ hl) h
   ·cases h
  ·cases h
def gb:List (SV N.T)->SV N.T
 | []=> .vn
 |a::l=> .vc a (gb l)
def YS(S:Nat->SV N.T):List Operand->Option (List Nat)
 | []=>some []
 |x::xs=>match Ap S x,YS S xs with
  | .loc c 0,some l=>some (c::l)
  |_,_=>none
def gh(S:Nat->SV N.T)(nk f:Nat)(fs cs:List Operand)(k:A_ N.T->Nat->Option R):Option R:=match YS S cs with
 |some l=>k ⟨.AA f (gb (fs.map (Ap S))) l,[],[]⟩ nk
 |none=>none
theorem QO{C:List (SV N.T)}{η:Nat->Value}{H:Hp}{a:Act} :∀ {fs:List Operand},(∀x∈fs,(Ap S x).is C η H (a.eval x))->(gb (fs.map (Ap S))).is C η H (.tuple (fs.map a.eval).toArray)
 | [],_=>rfl
 |x::xs,h=>⟨a.eval x,xs.map a.eval,rfl,h x (by simp),QO fun y hy=>h y (by simp[hy])⟩
theorem Rt{C:List (SV N.T)}{η:Nat->Value}{H:Hp}{a:Act} :∀ {cs:List Operand} {l:List Nat},YS S cs=some l->(∀x∈cs,(Ap S x).is C η H (a.eval x))->cs.map a.eval=l.map η
 | [],l,h,_=>by cases h;rfl
 |x::xs,l,h,hx=>by
  unfold YS at h
  split at h
  ·rename_i c l' h1 h2
   cases h
   have:=hx x (by simp)
   rw[h1]at this
   obtain⟨B,b1,b2⟩:=this
   rw[List.map_cons,List.map_cons,Rt h2 (fun y hy=>hx y (by simp[hy])),b1,b2]
  ·cases h
theorem e_{f:Nat}{fs cs:Array Operand}(ho:o.op= .makeFunc (.func f) fs cs)(h:gh S nk f fs.toList cs.toList k=some r):AL P C S Rr nk o k r:=by
 unfold gh at h
 split at h
 ·rename_i l hl
  refine .y h (Al.Cy fun η H O a hx _=>?_) fun _ _=>trivial
  have h1:∀x∈fs.toList,(Ap S x).is C η H (a.eval x):=fun x hx'=>hx x (by rw[ho];simp[Op.operands];exact .inl (by simpa using hx'))
  have h2:∀x∈cs.toList,(Ap S x).is C η H (a.eval x):=fun x hx'=>hx x (by rw[ho];simp[Op.operands];exact .inr (by simpa using hx'))
  refine⟨.func (.func f) (fs.toList.map a.eval).toArray (cs.toList.map a.eval).toArray,?_,fs.toList.map a.eval,by rw[Rt hl h2],QO h1⟩
  rw[ho]
  exact Am.makeFunc (fs:=fs.toList) (cs:=cs.toList) (Gb _) (Gb _)
 ·cases h
end
end Go.GV
namespace Go.GV
open Go Go.GK
class Bn (N:Cw) (P:Program):Prop where
 eq:∀ {P'},N.prog=some P'->P'=P
 laid:laidOutB P=true
abbrev XB:Ty:= .st (.pr (.int .i64) (.int .i64))
abbrev XC{T:Nat->Type}(m:XB.den T):Int×Int:=m
section
variable {N : Cw}
theorem Dr.len{vt:Ty}{H:Hp}{κ:Type} :∀ {l:List (κ×vt.den N.T)} {m:List (κ×Value)},Dr vt H l m->m.length=l.length
 | [],[],_=>rfl
 |_::l,_::m,⟨_,_,h⟩=>congrArg (· +1) (Dr.len h)
 | [],_::_,h=>h.elim
 |_::_,[],h=>h.elim
abbrev Ex(vt:Ty)(H:Hp)(x:vt.den N.T)(v:Value):Prop:= ∃cs,(N.c vt).Bm H x cs/\BS vt cs v
theorem Dr.get{vt:Ty}{H:Hp}{κ:Type} [DecidableEq κ](k:κ):∀ {l:List (κ×vt.den N.T)} {m:List (κ×Value)},Dr vt H l m->(Aq l k=none/\Aq m k=none)\/∃x v,Aq l k=some x/\Aq m k=some v/\Ex vt H x v
 | [],[],_=> .inl ⟨rfl,rfl⟩
 |(j,x)::l,(j',v)::m,⟨h1,h2,h3⟩=>by
  have h1:j=j':=h1
  subst h1
  unfold Aq
  by_cases e:j=k
  ·rw[if_pos e,if_pos e];exact .inr ⟨x,v,rfl,rfl,h2⟩
  ·rw[if_neg e,if_neg e];exact Dr.get k h3
 | [],_::_,h=>h.elim
 |_::_,[],h=>h.elim
theorem Dr.set{vt:Ty}{H:Hp}{κ:Type} [DecidableEq κ]{k:κ}{x:vt.den N.T}{v:Value}(hv:Ex vt H x v):∀ {l:List (κ×vt.den N.T)} {m:List (κ×Value)},Dr vt H l m->Dr vt H (Gt l k x) (Gt m k v)
 | [],[],_=>trivial
 |(j,y)::l,(j',u)::m,⟨h1,h2,h3⟩=>by
  have h1:j=j':=h1
  subst h1
  unfold Gt
  by_cases e:j=k
  ·rw[if_pos e,if_pos e];exact⟨rfl,hv,h3⟩
  ·rw[if_neg e,if_neg e];exact⟨rfl,h2,Dr.set hv h3⟩
 | [],_::_,h=>h.elim
 |_::_,[],h=>h.elim
theorem Dr.app{vt:Ty}{H:Hp}{κ:Type}{k:κ}{x:vt.den N.T}{v:Value}(hv:Ex vt H x v):∀ {l:List (κ×vt.den N.T)} {m:List (κ×Value)},Dr vt H l m->Dr vt H (l++[(k,x)]) (m++[(k,v)])
 | [],[],_=>⟨rfl,hv,trivial⟩
 |_::l,_::m,⟨h1,h2,h3⟩=>⟨h1,h2,Dr.app hv h3⟩
 | [],_::_,h=>h.elim
 |_::_,[],h=>h.elim
theorem Dr.put{vt:Ty}{H:Hp}{κ:Type} [DecidableEq κ]{k:κ}{x:vt.den N.T}{v:Value}(hv:Ex vt H x v){l:List (κ×vt.den N.T)}{m:List (κ×Value)}(h:Dr vt H l m):Dr vt H (Bk l k x) (Bk m k v):=by
 unfold Bk
 rcases h.get k with⟨e1,e2⟩|⟨_,_,e1,e2,_⟩
 ·rw[e1,e2];exact h.app hv
 ·rw[e1,e2];exact h.set hv
def yH(vt:Ty)(z:Value):Option (List Value):=match vt.agg,z with
 |true, .agg cs=>some cs.toList
 |true,_=>none
 |false,z=>some [z]
def tL(N:Cw)(P:Program)(et:TypeId)(vt:Ty):Option (vt.den N.T):=match P.info? et with
 |some inf=>match inf.zero with
  |some z=>match yH vt z with
   |some cs=>match parse N 16 vt cs with
    |some (x,[])=>some x
    |_=>none
   |none=>none
  |none=>none
 |none=>none
theorem dR{P:Program}{et:TypeId}{vt:Ty}{x:vt.den N.T}(h:tL N P et vt=some x):∃n b z,TI P et n b z/\∀H,Ex vt H x z:=by
 unfold tL at h
 split at h
 ·rename_i inf hi
  split at h
  ·rename_i z hz
   split at h
   ·rename_i cs hc
    split at h
    ·rename_i y hp
     cases h
     refine⟨_,_,z,⟨inf,hi,rf,rf,hz⟩,fun H=>⟨cs,?_,?_⟩⟩
     ·obtain⟨pre,e,hl⟩:=B_ (H:=H) hp
      rw[List.append_nil]at e
      rw[e];exact hl
     ·unfold yH at hc
      unfold BS
      split at hc
      ·rename_i ha;cases hc;rw[ha]
      ·cases hc
      ·rename_i ha;cases hc;rw[ha]
    ·cases h
   ·cases h
  ·cases h
 ·cases h
variable {R : Type} {P : Program} {C : List (SV N.T)} {S : Nat -> SV N.T} {Rr : Nat -> Option (SR N.T)} {nk : Nat} {o : Oper} {k : A_ N.T -> Nat -> Option R} {r : R}
def gf(P:Program)(nk:Nat)(t:TypeId)(k:A_ N.T->Nat->Option R):Option R:=match N.prog with
 |none=>none
 |some _=>match P.underlying t with
  |some (.map g et)=>match Jc N P et,P.underlying g with
   |some vt,some .string=>k ⟨.mp nk,[],[(nk, .map g .str vt [])]⟩ (nk+1)
   |some vt,some (.int .i64)=>k ⟨.mp nk,[],[(nk, .map g (.int .i64) vt [])]⟩ (nk+1)
   |some vt,some (.struct _)=>match LF P g with
    |true=>k ⟨.mp nk,[],[(nk, .map g XB vt [])]⟩ (nk+1)
    |false=>none
   |_,_=>none
  |_=>none
theorem eZ [Bn N P]{t:TypeId}(ho:o.op= .makeMap t none)(hf:∀j,nk<=j->Rr j=none)(h:gf P nk t k=some r):AL P C S Rr nk o k r:=by
 unfold gf at h
 split at h
 ·cases h
 ·rename_i P' hp
  obtain rfl:=Bn.eq (N:=N) (P:=P) hp
  split at h
  ·rename_i g et ht
   split at h
   ·rename_i vt hv hg
    refine .new h (Al.E7 (hf nk (Nat.le_refl _)) fun η H O a hx _=>?_) fun _ _=>trivial
    rw[ho]
    refine(Bl.Kd (yX hg)).mono ?_
    rintro v H' O' ⟨B,rfl,rfl,rfl⟩
    exact⟨rf,_, .map (some B),rf,⟨B,Ar _ _ _,P',yX hg,[],hp,fun _=>rfl,fun _ h=>h,rf,trivial⟩,(Ar _ _ _).symm,rf⟩
   ·rename_i vt hv hg
    refine .new h (Al.E7 (hf nk (Nat.le_refl _)) fun η H O a hx _=>?_) fun _ _=>trivial
    rw[ho]
    refine(Bl.Kd (yZ hg)).mono ?_
    rintro v H' O' ⟨B,rfl,rfl,rfl⟩
    exact⟨rf,_, .map (some B),rf,⟨B,Ar _ _ _,P',yZ hg,[],hp,fun _=>rfl,fun _ h=>h,rf,trivial⟩,(Ar _ _ _).symm,rf⟩
   ·rename_i vt fs hv hg
    split at h
    ·rename_i hb
     refine .new h (Al.E7 (hf nk (Nat.le_refl _)) fun η H O a hx _=>?_) fun _ _=>trivial
     rw[ho]
     refine(Bl.Kd (yY (Bn.laid N) hb)).mono ?_
     rintro v H' O' ⟨B,rfl,rfl,rfl⟩
     exact⟨rf,_, .map (some B),rf,⟨B,Ar _ _ _,P',yY (Bn.laid N) hb,[],hp,fun _=>rfl,fun _ h=>h,rf,trivial⟩,(Ar _ _ _).symm,rf⟩
    ·cases h
   ·cases h
  ·cases h
theorem c_{C:List (SV N.T)}{η:Nat->Value}{H:Hp}{m:(XB.den N.T)}{v:Value}(h:(SV.d XB m:SV N.T).is C η H v):v= .agg #[.int .i64 m.1, .int .i64 m.2]:=by
 obtain⟨cs,hL,hv⟩:=h
 have hv:v= .agg cs.toArray:=hv
 obtain⟨c1,c2,e,h1,h2⟩:=hL
 have h1:c1=[.int .i64 m.1]:=h1
 have h2:c2=[.int .i64 m.2]:=h2
 rw[hv,e,h1,h2];rfl
def gq(
     P:Program) (C:List (SV N.T)) (S:Nat->SV N.T) (Rr:Nat->Option (SR N.T)) (nk:Nat) (t:TypeId) (x y:Operand) (ok:Bool) (k:A_ N.T->Nat->Option R):Option R:=match Ap S x with
 | .mp b=>match Rr b,P.underlying t with
  |some (
      .map g kt vt l),some (.map g' et)=>match Nat.beq g g',tL N P et vt with
   |true,some z=>match kt,l with
    | .str,l=>match PU (Ap S y)with
     |some m=>Ah (m.length<=Ak) (match ok with
      |true=>k ⟨.t2 (.d vt ((Aq (κ:=Ax) l m).getD z)) (.d .bool (Aq (κ:=Ax) l m).isSome),[b],[]⟩ nk
      |false=>k ⟨.d vt ((Aq (κ:=Ax) l m).getD z),[b],[]⟩ nk)
     |none=>none
    | .int .i64,l=>match intOf (Ap S y)with
     |some (.i64,m)=>Ab .i64 m (match ok with
      |true=>k ⟨.t2 (.d vt ((Aq (κ:=Int) l m).getD z)) (.d .bool (Aq (κ:=Int) l m).isSome),[b],[]⟩ nk
      |false=>k ⟨.d vt ((Aq (κ:=Int) l m).getD z),[b],[]⟩ nk)
     |_=>none
    | .st (.pr (.int .i64) (.int .i64)),l=>match OV C XB (Ap S y)with
     |some m=>Ah (C6 (XC m).1/\C6 (XC m).2) (match ok with
      |true=>k ⟨.t2 (.d vt ((Aq (κ:=Int×Int) l (XC m)).getD z)) (.d .bool (Aq (κ:=Int×Int) l (XC m)).isSome),[b],[]⟩ nk
      |false=>k ⟨.d vt ((Aq (κ:=Int×Int) l (XC m)).getD z),[b],[]⟩ nk)
     |none=>none
    |_,_=>none
   |_,_=>none
  |_,_=>none
 |_=>none
theorem H8{vt:Ty}{H:Hp}{κ:Type} [DecidableEq κ]{l:List (κ×vt.den N.T)}{ms:List (κ×Value)}(h:Dr vt H l ms){z:vt.den N.T}{zv:Value}(hz:Ex vt H z zv)(m:κ):
  Ex vt H ((Aq l m).getD z) ((Aq ms m).getD zv)/\(Aq ms m).isSome=(Aq l m).isSome:=by
 rcases h.get m with⟨e1,e2⟩|⟨_,_,e1,e2,e3⟩
 ·rw[e1,e2];exact⟨hz,rfl⟩
 ·rw[e1,e2];exact⟨e3,rfl⟩
theorem fj [Bn N P]{t:TypeId}{x y:Operand}{ok:Bool}(ho:o.op= .lookup t x y ok)(h:gq P C S Rr nk t x y ok k=some r):AL P C S Rr nk o k r:=by
 have hox:∀ {η:Nat->Value} {H:Hp} {a:Act},(∀x∈o.op.operands,(Ap S x).is C η H (a.eval x))->(Ap S x).is C η H (a.eval x):=fun hx=>hx x (by rw[ho];simp[Op.operands])
 have hoy:∀ {η:Nat->Value} {H:Hp} {a:Act},(∀x∈o.op.operands,(Ap S x).is C η H (a.eval x))->(Ap S y).is C η H (a.eval y):=fun hx=>hx y (by rw[ho];simp[Op.operands])
 unfold gq at h
 split at h
 ·rename_i b hs
  have hmp:∀ {η:Nat->Value} {H:Hp} {a:Act},(∀x∈o.op.operands,(Ap S x).is C η H (a.eval x))->a.eval x=η b:=fun{η H a} hx=>by
   have:(SV.mp b:SV N.T).is C η H (a.eval x):=by rw[<-hs];exact hox hx
   exact this.1
  split at h
  ·rename_i g kt vt l g' et hb ht
   split at h
   ·rename_i z hgg hz
    have:=Nat.eq_of_beq_eq_true hgg;subst this
    obtain⟨n,by_,zv,hti,hsl⟩:=dR hz
    split at h
    ·rename_i l
     split at h
     ·rename_i m hm
      obtain⟨hc,h⟩:=AF h
      have key:∀(η:Nat->Value) (H:Hp) (O:List Ao) (a:Act),(∀x∈o.op.operands,(Ap S x).is C η H (a.eval x))->(∀k∈[b],∀sr,Rr k=some sr->sr= .gone\/∃(x:Ao) (i:Nat),O[i]?=some x/\sr.is C η H k x)->
        ∃u e,Ex vt H ((Aq (κ:=Ax) l m).getD z) u/\e=(Aq (κ:=Ax) l m).isSome/\Am P (.lookup t x y true) o.type (EV a) H O (.tuple #[u, .bool e])/\Am P (.lookup t x y false) o.type (EV a) H O u:=fun η H O a hx hr=>by
       rcases hr b (by simp) _ hb with e|⟨X,i,h1,B,h2,P',K,ms,h3,h4,h5,rfl,h6⟩
       ·cases e
       obtain rfl:=Bn.eq (N:=N) (P:=P) h3
       obtain⟨g1,g2⟩:=H8 h6 (hsl H) m
       have e1:EV a x=some (.map (some B)):=congrArg some ((hmp hx).trans h2)
       have e2:EV a y=some (K.val m):=congrArg some ((Ir hm (hoy hx)).trans (h4 m).symm)
       exact⟨_,_,g1,g2,Am.HZ ht hti e1 e2 (h5 m hc) h1,Am.Mr ht hti e1 e2 (h5 m hc) h1⟩
      split at h
      ·refine .y h (Al.Cy fun η H O a hx hr=>?_) fun _ _=>trivial
       obtain⟨u,e,h1,rfl,h3,_⟩:=key η H O a hx hr
       exact⟨_,by rw[ho];exact h3,_,_,rf,h1,Ch⟩
      ·refine .y h (Al.Cy fun η H O a hx hr=>?_) fun _ _=>trivial
       obtain⟨u,e,h1,rfl,_,h3⟩:=key η H O a hx hr
       exact⟨_,by rw[ho];exact h3,h1⟩
     ·cases h
    ·rename_i l
     split at h
     ·rename_i m hm
      obtain⟨hc,_,h⟩:=Bs h
      have key:∀(η:Nat->Value) (H:Hp) (O:List Ao) (a:Act),(∀x∈o.op.operands,(Ap S x).is C η H (a.eval x))->(∀k∈[b],∀sr,Rr k=some sr->sr= .gone\/∃(x:Ao) (i:Nat),O[i]?=some x/\sr.is C η H k x)->
        ∃u e,Ex vt H ((Aq (κ:=Int) l m).getD z) u/\e=(Aq (κ:=Int) l m).isSome/\Am P (.lookup t x y true) o.type (EV a) H O (.tuple #[u, .bool e])/\Am P (.lookup t x y false) o.type (EV a) H O u:=fun η H O a hx hr=>by
       rcases hr b (by simp) _ hb with e|⟨X,i,h1,B,h2,P',K,ms,h3,h4,h5,rfl,h6⟩
       ·cases e
       obtain rfl:=Bn.eq (N:=N) (P:=P) h3
       obtain⟨g1,g2⟩:=H8 h6 (hsl H) m
       have e1:EV a x=some (.map (some B)):=congrArg some ((hmp hx).trans h2)
       have e2:EV a y=some (K.val m):=congrArg some ((AP hm (hoy hx)).trans (h4 m).symm)
       exact⟨_,_,g1,g2,Am.HZ ht hti e1 e2 (h5 m hc) h1,Am.Mr ht hti e1 e2 (h5 m hc) h1⟩
      split at h
      ·refine .y h (Al.Cy fun η H O a hx hr=>?_) fun _ _=>trivial
       obtain⟨u,e,h1,rfl,h3,_⟩:=key η H O a hx hr
       exact⟨_,by rw[ho];exact h3,_,_,rf,h1,Ch⟩
      ·refine .y h (Al.Cy fun η H O a hx hr=>?_) fun _ _=>trivial
       obtain⟨u,e,h1,rfl,_,h3⟩:=key η H O a hx hr
       exact⟨_,by rw[ho];exact h3,h1⟩
     ·cases h
    ·rename_i l
     split at h
     ·rename_i m hm
      obtain⟨hc,h⟩:=AF h
      have key:∀(η:Nat->Value) (H:Hp) (O:List Ao) (a:Act),(∀x∈o.op.operands,(Ap S x).is C η H (a.eval x))->(∀k∈[b],∀sr,Rr k=some sr->sr= .gone\/∃(x:Ao) (i:Nat),O[i]?=some x/\sr.is C η H k x)->
        ∃u e,Ex vt H ((Aq (κ:=Int×Int) l m).getD z) u/\e=(Aq (κ:=Int×Int) l m).isSome/\Am P (.lookup t x y true) o.type (EV a) H O (.tuple #[u, .bool e])/\Am P (.lookup t x y false) o.type (EV a) H O u:=fun η H O a hx hr=>by
       rcases hr b (by simp) _ hb with e|⟨X,i,h1,B,h2,P',K,ms,h3,h4,h5,rfl,h6⟩
       ·cases e
       obtain rfl:=Bn.eq (N:=N) (P:=P) h3
       obtain⟨g1,g2⟩:=H8 h6 (hsl H) m
       have e1:EV a x=some (.map (some B)):=congrArg some ((hmp hx).trans h2)
       have e2:EV a y=some (K.val m):=congrArg some ((c_ (CC (t:=XB) hm (hoy hx))).trans (h4 m).symm)
       exact⟨_,_,g1,g2,Am.HZ ht hti e1 e2 (h5 m hc) h1,Am.Mr ht hti e1 e2 (h5 m hc) h1⟩
      split at h
      ·refine .y h (Al.Cy fun η H O a hx hr=>?_) fun _ _=>trivial
       obtain⟨u,e,h1,rfl,h3,_⟩:=key η H O a hx hr
       exact⟨_,by rw[ho];exact h3,_,_,rf,h1,Ch⟩
      ·refine .y h (Al.Cy fun η H O a hx hr=>?_) fun _ _=>trivial
       obtain⟨u,e,h1,rfl,_,h3⟩:=key η H O a hx hr
       exact⟨_,by rw[ho];exact h3,h1⟩
     ·cases h
    ·cases h
   ·cases h
  ·cases h
 ·cases h
def Xz(
     P:Program) (C:List (SV N.T)) (S:Nat->SV N.T) (Rr:Nat->Option (SR N.T)) (nk:Nat) (t:TypeId) (x y u:Operand) (k:A_ N.T->Nat->Option R):Option R:=match Ap S x with
 | .mp b=>match Rr b,P.underlying t with
  |some (.map g kt vt l),some (.map g' _)=>match Nat.beq g g',OV C vt (Ap S u)with
   |true,some z=>match kt,l with
    | .str,l=>match PU (Ap S y)with
     |some m=>Ah (m.length<=Ak/\l.length<=Ak) (k ⟨.no,[],[(b, .map g .str vt (Bk (κ:=Ax) l m z))]⟩ nk)
     |none=>none
    | .int .i64,l=>match intOf (Ap S y)with
     |some (.i64,m)=>Ab .i64 m (Ah (l.length<=Ak) (k ⟨.no,[],[(b, .map g (.int .i64) vt (Bk (κ:=Int) l m z))]⟩ nk))
     |_=>none
    | .st (.pr (.int .i64) (.int .i64)),l=>match OV C XB (Ap S y)with
     |some m=>Ah ((C6 (XC m).1/\C6 (XC m).2)/\l.length<=Ak) (k ⟨.no,[],[(b, .map g XB vt (Bk (κ:=Int×Int) l (XC m) z))]⟩ nk)
     |none=>none
    |_,_=>none
   |_,_=>none
  |_,_=>none
 |_=>none
theorem Us [Bn N P]{t:TypeId}{x y u:Operand}(ho:o.op= .mapUpdate t x y u\/o.op= .insert t x y u)(h:Xz P C S Rr nk t x y u k=some r):AL P C S Rr nk o k r:=by
 have hox:∀ {η:Nat->Value} {H:Hp} {a:Act},(∀x∈o.op.operands,(Ap S x).is C η H (a.eval x))->(Ap S x).is C η H (a.eval x):=fun hx=>hx x (by rcases ho with ho|ho<;>rw[ho]<;>simp[Op.operands])
 have hoy:∀ {η:Nat->Value} {H:Hp} {a:Act},(∀x∈o.op.operands,(Ap S x).is C η H (a.eval x))->(Ap S y).is C η H (a.eval y):=fun hx=>hx y (by rcases ho with ho|ho<;>rw[ho]<;>simp[Op.operands])
 have hou:∀ {η:Nat->Value} {H:Hp} {a:Act},(∀x∈o.op.operands,(Ap S x).is C η H (a.eval x))->(Ap S u).is C η H (a.eval u):=fun hx=>hx u (by rcases ho with ho|ho<;>rw[ho]<;>simp[Op.operands])
 unfold Xz at h
 split at h
 ·rename_i b hs
  have hmp:∀ {η:Nat->Value} {H:Hp} {a:Act},(∀x∈o.op.operands,(Ap S x).is C η H (a.eval x))->a.eval x=η b:=fun{η H a} hx=>by
   have:(SV.mp b:SV N.T).is C η H (a.eval x):=by rw[<-hs];exact hox hx
   exact this.1
  split at h
  ·rename_i g kt vt l g' et hb ht
   split at h
   ·rename_i z hgg hz
    have:=Nat.eq_of_beq_eq_true hgg;subst this
    split at h
    ·rename_i l
     split at h
     ·rename_i m hm
      obtain⟨⟨hc,hc2⟩,h⟩:=AF h
      refine .set h hb (Al.J9 hb (by simp) fun η H O a X i hx h1 h2 _=>?_) fun _ _=>trivial
      obtain⟨B,h2,P',K,ms,h3,h4,h5,rfl,h6⟩:=h2
      obtain rfl:=Bn.eq (N:=N) (P:=P) h3
      have e1:EV a x=some (.map (some B)):=congrArg some ((hmp hx).trans h2)
      have e2:EV a y=some (K.val m):=congrArg some ((Ir hm (hoy hx)).trans (h4 m).symm)
      have hv:Ex vt H z (a.eval u):=CC (t:=vt) hz (hou hx)
      refine⟨_,⟨B,h2,P',K,_,h3,h4,h5,rf,h6.put (k:=m) hv⟩,?_⟩
      rcases ho with ho|ho<;>rw[ho]
      ·exact(Bl.GO ht e1 e2 rf (h5 m hc) (by rw[h6.len];exact hc2) h1).mono fun v H' O' ⟨g1,g2⟩=>⟨g1,g2,trivial⟩
      ·exact(Bl.Mz ht e1 e2 rf (h5 m hc) (by rw[h6.len];exact hc2) h1).mono fun v H' O' ⟨g1,g2⟩=>⟨g1,g2,trivial⟩
     ·cases h
    ·rename_i l
     split at h
     ·rename_i m hm
      obtain⟨hc,_,h⟩:=Bs h
      obtain⟨hc2,h⟩:=AF h
      refine .set h hb (Al.J9 hb (by simp) fun η H O a X i hx h1 h2 _=>?_) fun _ _=>trivial
      obtain⟨B,h2,P',K,ms,h3,h4,h5,rfl,h6⟩:=h2
      obtain rfl:=Bn.eq (N:=N) (P:=P) h3
      have e1:EV a x=some (.map (some B)):=congrArg some ((hmp hx).trans h2)
      have e2:EV a y=some (K.val m):=congrArg some ((AP hm (hoy hx)).trans (h4 m).symm)
      have hv:Ex vt H z (a.eval u):=CC (t:=vt) hz (hou hx)
      refine⟨_,⟨B,h2,P',K,_,h3,h4,h5,rf,h6.put (k:=m) hv⟩,?_⟩
      rcases ho with ho|ho<;>rw[ho]
      ·exact(Bl.GO ht e1 e2 rf (h5 m hc) (by rw[h6.len];exact hc2) h1).mono fun v H' O' ⟨g1,g2⟩=>⟨g1,g2,trivial⟩
      ·exact(Bl.Mz ht e1 e2 rf (h5 m hc) (by rw[h6.len];exact hc2) h1).mono fun v H' O' ⟨g1,g2⟩=>⟨g1,g2,trivial⟩
     ·cases h
    ·rename_i l
     split at h
     ·rename_i m hm
      obtain⟨⟨hc,hc2⟩,h⟩:=AF h
      refine .set h hb (Al.J9 hb (by simp) fun η H O a X i hx h1 h2 _=>?_) fun _ _=>trivial
      obtain⟨B,h2,P',K,ms,h3,h4,h5,rfl,h6⟩:=h2
      obtain rfl:=Bn.eq (N:=N) (P:=P) h3
      have e1:EV a x=some (.map (some B)):=congrArg some ((hmp hx).trans h2)
      have e2:EV a y=some (K.val m):=congrArg some ((c_ (CC (t:=XB) hm (hoy hx))).trans (h4 m).symm)
      have hv:Ex vt H z (a.eval u):=CC (t:=vt) hz (hou hx)
      refine⟨_,⟨B,h2,P',K,_,h3,h4,h5,rf,h6.put (κ:=Int×Int) (k:=XC m) hv⟩,?_⟩
      rcases ho with ho|ho<;>rw[ho]
      ·exact(Bl.GO ht e1 e2 rf (h5 m hc) (by rw[h6.len];exact hc2) h1).mono fun v H' O' ⟨g1,g2⟩=>⟨g1,g2,trivial⟩
      ·exact(Bl.Mz ht e1 e2 rf (h5 m hc) (by rw[h6.len];exact hc2) h1).mono fun v H' O' ⟨g1,g2⟩=>⟨g1,g2,trivial⟩
     ·cases h
    ·cases h
   ·cases h
  ·cases h
 ·cases h
def gn(P:Program)(S:Nat->SV N.T)(Rr:Nat->Option (SR N.T))(nk:Nat)(x:Operand)(t:TypeId)(k:A_ N.T->Nat->Option R):Option R:=match Ap S x with
 | .mp b=>match Rr b,P.underlying t with
  |some (.map g kt _ l),some (.map g' _)=>match Nat.beq g g',kt,l with
   |true, .str,l=>k ⟨.d (.int .i64) ((l.length:Nat):Int),[b],[]⟩ nk
   |true, .int .i64,l=>k ⟨.d (.int .i64) ((l.length:Nat):Int),[b],[]⟩ nk
   |_,_,_=>none
  |_,_=>none
 |_=>none
theorem fg [Bn N P]{x:Operand}{t:TypeId}(ho:o.op= .call {callee:= .builtin .len,args:= #[x],argTypes:= #[t]})(h:gn P S Rr nk x t k=some r):AL P C S Rr nk o k r:=by
 have hox:∀ {η:Nat->Value} {H:Hp} {a:Act},(∀x∈o.op.operands,(Ap S x).is C η H (a.eval x))->(Ap S x).is C η H (a.eval x):=fun hx=>hx x (by rw[ho];simp[Op.operands,Call.operands])
 unfold gn at h
 split at h
 ·rename_i b hs
  have hmp:∀ {η:Nat->Value} {H:Hp} {a:Act},(∀x∈o.op.operands,(Ap S x).is C η H (a.eval x))->a.eval x=η b:=fun{η H a} hx=>by
   have:(SV.mp b:SV N.T).is C η H (a.eval x):=by rw[<-hs];exact hox hx
   exact this.1
  split at h
  ·rename_i g kt vt l g' et hb ht
   split at h
   ·rename_i l hgg
    have:=Nat.eq_of_beq_eq_true hgg;subst this
    refine .y h (Al.Cy fun η H O a hx hr=>?_) fun _ _=>trivial
    rcases hr b (by simp) _ hb with e|⟨X,i,h1,B,h2,P',K,ms,h3,h4,h5,rfl,h6⟩
    ·cases e
    obtain rfl:=Bn.eq (N:=N) (P:=P) h3
    refine⟨_,by rw[ho];exact Am.QW ht (congrArg some ((hmp hx).trans h2)) h1,?_⟩
    rw[h6.len];exact Dd trivial
   ·rename_i l hgg
    have:=Nat.eq_of_beq_eq_true hgg;subst this
    refine .y h (Al.Cy fun η H O a hx hr=>?_) fun _ _=>trivial
    rcases hr b (by simp) _ hb with e|⟨X,i,h1,B,h2,P',K,ms,h3,h4,h5,rfl,h6⟩
    ·cases e
    obtain rfl:=Bn.eq (N:=N) (P:=P) h3
    refine⟨_,by rw[ho];exact Am.QW ht (congrArg some ((hmp hx).trans h2)) h1,?_⟩
    rw[h6.len];exact Dd trivial
   ·cases h
  ·cases h
 ·cases h
end
end Go.GV
namespace Go.GV
open Go Go.GK
section
variable {N : Cw} {R : Type} {P : Program} {C : List (SV N.T)} {S : Nat -> SV N.T} {Rr : Nat -> Option (SR N.T)} {nk : Nat} {o : Oper} {k : A_ N.T -> Nat -> Option R} {r : R}
theorem Bl.iY{T:TypeId}{E:Operand->Option Value}{H:Hp}{O:List GK.Ao}{t e:TypeId}{len size bytes:Nat}{z:Value}{cs:Array Value}{ps:List (Nat×Operand)}{vs:List (Nat×Value)}(ht:P.underlying t=some (.slice e))(hz:TI P e size bytes z)
  (hlen:len*size<=16777216) (h0:0<len*size) (hps:TH E ps=some vs) (hf:Instr.fill (fun i=>some (i*size,size)) ((Array.range (len*size)).map (z.cells[· %z.cells.size]!)) vs=some cs):
  Bl P (.buildSlice t len ps.toArray) T E H O (fun v H' O'=>H'=H/\∃B,v= .slice (some ⟨B,0,none⟩) len len/\O'= .Af B (.cells cs e (0,0))::O):= .Aj fun a w o ho _ he hs=>by
 have h1:(ps.toArray.map fun(i,x)=>(i,a.eval x)).toList=vs:=by simpa using FG he hps
 have hlen':¬len*size>2^24:=by omega
 have h0':¬len*size=0:=by omega
 refine⟨.slice (some ⟨w.heap.size,0,none⟩) len len,w.alloc (.cells cs e),H,_,?_,Hp.le.refl H,⟨rf,_,rf,rf⟩,hs.push (r:= .Af w.heap.size (.cells cs e (0,0))) (World.grownBy_alloc w _ none) (heap_alloc_new w _) (fun b hb=>by simp only[Ao.has]at hb;omega)⟩
 simp only[execOp,ho,Instr.buildSlice,Sem.run_bind,AG ht,Result.andThen_ok,hz.sizeOf,if_neg hlen',if_neg h0',hz.zeroValue,Sem.run_pure,h1,hf]
 simp[newRow]
def VT(S:Nat->SV N.T):Nat->List (Nat×Operand)->Option (SV N.T)
 |_,[]=>some .nl
 |i,(j,x)::ps=>match Nat.beq i j,Ap S x,VT S (i+1) ps with
  |true, .AA f l cs,some r=>some (.lf 1 (.AA f l cs) r)
  |_,_,_=>none
theorem Rq{η:Nat->Value}{H:Hp}{a:Act} :∀ {ps:List (Nat×Operand)} {i:Nat} {l:SV N.T} {cs:List Value},VT S i ps=some l->(∀p∈ps,(Ap S p.2).is C η H (a.eval p.2))->cs.length=i+ps.length->
  ∃xs,Instr.fill (fun i=>some (i*1,1)) cs.toArray (ps.map fun p=>(p.1,a.eval p.2))=some (cs.take i++xs).toArray/\l.is C η H (.agg xs.toArray)/\xs.length=ps.length
 | [],i,l,cs,h,_,hc=>by
  cases h
  refine⟨[],?_,rf,rf⟩
  simp only[List.map_nil,Instr.fill,List.append_nil]
  rw[List.take_of_length_le (by simpa using Nat.le_of_eq hc)]
 |(j,x)::ps,i,l,cs,h,hp,hc=>by
  unfold VT at h
  split at h
  ·rename_i f fl fc r hb hx hr
   cases h
   have e:=Nat.eq_of_beq_eq_true hb;subst e
   have hv:=hp (i,x) (by simp)
   rw[hx]at hv
   have ho:(a.eval x).oneCell'=true:=by obtain⟨us,e,_⟩:=hv;rw[e];rfl
   have hcs:=AU ho
   simp only[List.length_cons]at hc
   have hsz:(a.eval x).cells.size=1:=by rw[<-Array.length_toList,hcs];rfl
   have hs:(BZ cs (i*1) (a.eval x).cells.toList).length=i+1+ps.length:=by
    unfold BZ
    rw[hcs]
    simp only[List.length_append,List.length_take,List.length_drop,List.length_cons,List.length_nil]
    omega
   obtain⟨xs,g1,g2,g3⟩:=Rq hr (fun p hp'=>hp p (by simp[hp'])) hs
   refine⟨a.eval x::xs,?_,⟨[a.eval x],xs,a.eval x,rfl,rfl,hv,hcs,(fun y hy=>by simp at hy;subst hy;exact ho),g2⟩,by simp[g3]⟩
   rw[List.map_cons,Ie (off:=i*1) (size:=1) rfl hsz (by simp;omega)]
   rw[g1]
   congr 2
   unfold BZ
   rw[hcs,Nat.mul_one,List.take_append_of_le_length (by simp;omega),List.take_of_length_le (by simp;omega)]
   simp
  ·cases h
def va(P:Program)(S:Nat->SV N.T)(nk:Nat)(t:TypeId)(len:Nat)(ps:List (Nat×Operand))(k:A_ N.T->Nat->Option R):Option R:=match P.underlying t with
 |some (.slice e)=>match OU P e 1,Nat.beq ps.length len&&(Nat.blt 0 len&&Nat.ble len 1000),VT S 0 ps with
  |true,true,some l=>match Bw l.Ay nk with
   |false=>k ⟨.px [nk] (.hc len),[],[(nk, .Af e l)]⟩ (nk+1)
   |true=>none
  |_,_,_=>none
 |_=>none
theorem nQ{t:TypeId}{len:Nat}{ps:List (Nat×Operand)}(ho:o.op= .buildSlice t len ps.toArray)(hC:∀k∈Co C,k<nk)(hf:∀j,nk<=j->Rr j=none)(h:va P S nk t len ps k=some r):AL P C S Rr nk o k r:=by
 have hop:∀ {η:Nat->Value} {H:Hp} {a:Act},(∀x∈o.op.operands,(Ap S x).is C η H (a.eval x))->∀p∈ps,(Ap S p.2).is C η H (a.eval p.2):=fun hx p hp=>hx p.2 (by rw[ho];simp[Op.operands];exact⟨p.1,hp⟩)
 unfold va at h
 split at h
 case h_2=>cases h
 rename_i e ht
 split at h
 case h_2=>cases h
 rename_i l hB hb hl
 split at h
 case h_2=>cases h
 rename_i hm
 simp only[Bool.and_eq_true]at hb
 obtain⟨hb1,hb2,hb3⟩:=hb
 have e1:=Nat.eq_of_beq_eq_true hb1;subst e1
 have hb3:=Nat.le_of_ble_eq_true hb3
 obtain⟨bytes,z,hti⟩:=Du hB
 refine .new h (Al.E7 (hf nk (Nat.le_refl _)) fun η H O a hx hr=>?_) fun _ _=>trivial
 have hlen:(((Array.range (ps.length*1)).map (z.cells[· %z.cells.size]!)).toList:List Value).length=0+ps.length:=by simp
 obtain⟨xs,g1,g2,g3⟩:=Rq (C:=C) (η:=η) (H:=H) (a:=a) hl (hop hx) hlen
 rw[List.take_zero,List.nil_append,Array.toArray_toList]at g1
 rw[ho]
 refine(Bl.iY ht hti (by omega) (by simpa using hb2) (Hu ps) g1).mono ?_
 rintro v H' O' ⟨rfl,B,rfl,rfl⟩
 exact⟨rf,_,ptr B 0,rf,⟨B,_,Ar _ _ _,rf,Vz hC hm g2⟩,(show ps.length<=9223372036854775807 by omega),B,by simp[Ar],rf⟩
def gS(P:Program)(S:Nat->SV N.T)(nk:Nat)(t:TypeId)(x y:Operand)(k:A_ N.T->Nat->Option R):Option R:=match P.underlying t,intOf (Ap S y),Ap S x with
 |some (.slice e),some (_,j), .px [b] (.hc n)=>match OU P e 1 with
  |true=>Ah (0<=j/\j<(n:Int)) (k ⟨.loc b j.toNat,[],[]⟩ nk)
  |false=>none
 |_,_,_=>none
theorem fA{t:TypeId}{x y:Operand}(ho:o.op= .indexAddr t x y)(h:gS P S nk t x y k=some r):AL P C S Rr nk o k r:=by
 have hox:∀ {η:Nat->Value} {H:Hp} {a:Act},(∀x∈o.op.operands,(Ap S x).is C η H (a.eval x))->(Ap S x).is C η H (a.eval x):=fun hx=>hx x (by rw[ho];simp[Op.operands])
 have hoy:∀ {η:Nat->Value} {H:Hp} {a:Act},(∀x∈o.op.operands,(Ap S x).is C η H (a.eval x))->(Ap S y).is C η H (a.eval y):=fun hx=>hx y (by rw[ho];simp[Op.operands])
 unfold gS at h
 split at h
 case h_2=>cases h
 rename_i e kk j b n ht hn hs
 split at h
 case h_2=>cases h
 rename_i hB
 obtain⟨bytes,zv,hti⟩:=Du hB
 obtain⟨⟨c1,c2⟩,h⟩:=AF h
 refine .y h (Al.Cy fun η H O a hx _=>?_) fun _ _=>trivial
 obtain⟨_,B,e1,e2⟩:(SV.px [b] (.hc n):SV N.T).is C η H (a.eval x):=by rw[<-hs];exact hox hx
 have e1:η b=ptr B 0:=by simpa using e1
 have e4:=AP hn (hoy hx)
 refine⟨AE (a.eval x) (j.toNat*1),?_,B,e1,?_⟩
 ·rw[ho]
  exact Am.Yb ht hti rf (.inr ⟨_,_,e2,Nat.le_refl _⟩) (congrArg some e4) ⟨c1,c2⟩
 ·rw[e2,Nat.mul_one]
  show AE (.slice (some ⟨B,0,none⟩) n n) j.toNat= .pointer (some ⟨B,j.toNat,none⟩)
  simp only[AE,Addr.add,Nat.zero_add]
  split
  ·rename_i h;rw[h]
  ·rfl
def gp(P:Program)(S:Nat->SV N.T)(nk:Nat)(x:Operand)(t:TypeId)(k:A_ N.T->Nat->Option R):Option R:=match P.underlying t,Ap S x with
 |some (.slice _), .px [_] (.hc n)=>k ⟨.na n,[],[]⟩ nk
 |_,_=>none
theorem fh{x:Operand}{t:TypeId}(ho:o.op= .call {callee:= .builtin .len,args:= #[x],argTypes:= #[t]})(h:gp P S nk x t k=some r):AL P C S Rr nk o k r:=by
 have hox:∀ {η:Nat->Value} {H:Hp} {a:Act},(∀x∈o.op.operands,(Ap S x).is C η H (a.eval x))->(Ap S x).is C η H (a.eval x):=fun hx=>hx x (by rw[ho];simp[Op.operands,Call.operands])
 unfold gp at h
 split at h
 case h_2=>cases h
 rename_i e b n ht hs
 refine .y h (Al.Cy fun η H O a hx _=>?_) fun _ _=>trivial
 obtain⟨h1,B,e1,e2⟩:(SV.px [b] (.hc n):SV N.T).is C η H (a.eval x):=by rw[<-hs];exact hox hx
 exact⟨_,by rw[ho];exact Am.len ht (congrArg some e2) (.inr ⟨_,_,rf,Nat.le_refl _⟩),rf,h1⟩
end
end Go.GV
namespace Go.GV
open Go Go.GK
section
variable {P : Program}
theorem Ed{d:Nat}{e:TypeId}(he:P.underlying e=some .bool)(h1:P.cellsOf e=1)(w:World)(xs ys:List Bool):∀(is:List Nat),(∀i∈is,i<xs.length/\i<ys.length)->
  (Op.eqItems (d+1) e (P.cellsOf e) (xs.map Value.bool).toArray (ys.map Value.bool).toArray is).run P w= .ok (is.all fun i=>xs[i]?==ys[i]?) w
 | [],_=>by simp[Op.eqItems]
 |i::is,h=>by
  have hi:=h i (by simp)
  have ih:=Ed (d:=d) he h1 w xs ys is (fun j hj=>h j (by simp[hj]))
  have p1:(part e (xs.map Value.bool).toArray (i*P.cellsOf e)).run P w= .ok (.bool xs[i]) w:=by
   simp[part,BE he,C5,h1,hi.1]
  have p2:(part e (ys.map Value.bool).toArray (i*P.cellsOf e)).run P w= .ok (.bool ys[i]) w:=by
   simp[part,BE he,C5,h1,hi.2]
  have p3:(Op.equalIn (d+1) e (.bool xs[i]) (.bool ys[i])).run P w= .ok (xs[i]==ys[i]) w:=by simp[Op.equalIn,AG he]
  simp only[Op.eqItems,Sem.run_bind,p1,p2,p3,Result.andThen_ok]
  by_cases e1:xs[i]=ys[i]
  ·simp only[e1,beq_self_eq_true,Bool.not_true,Bool.false_eq_true,if_false,ih,List.all_cons]
   simp[hi.1,hi.2,e1]
  ·simp[hi.1,hi.2,e1]
theorem Pc{t e:TypeId}{n bytes:Nat}{z:Value}(ht:P.underlying t=some (.array n e))(he:P.underlying e=some .bool)(hz:TI P e 1 bytes z)(w:World)(xs ys:List Bool)(hx:xs.length=n)(hy:ys.length=n):
  (Op.equal t (.agg (xs.map Value.bool).toArray) (.agg (ys.map Value.bool).toArray)).run P w= .ok (decide (xs=ys)) w:=by
 obtain⟨i,hi,hs,_⟩:=hz.ex
 have h1:P.cellsOf e=1:=by simp[Program.cellsOf,hi,hs]
 have key:∀d,(Op.equalIn (d+1+1) t (.agg (xs.map Value.bool).toArray) (.agg (ys.map Value.bool).toArray)).run P w= .ok (decide (xs=ys)) w:=fun d=>by
  rw[run_equalIn_array w (d+1) _ _ ht hi,Ed he h1 w xs ys _ (fun i hi=>by have:=List.mem_range.1 hi;omega)]
  congr 1
  rw[Bool.eq_iff_iff]
  simp only[List.all_eq_true,List.mem_range,beq_iff_eq,decide_eq_true_iff]
  constructor
  ·intro h
   apply List.ext_getElem?
   intro j
   by_cases hj:j<n
   ·exact h j hj
   ·rw[List.getElem?_eq_none (by omega),List.getElem?_eq_none (by omega)]
  ·intro h j _;rw[h]
 unfold Op.equal Op.maxDepth
 exact key 9998
theorem Am.iA{T Tx Ty e:TypeId}{E:Operand->Option Value}{H:Hp}{O:List Ao}{x y:Operand}{n bytes:Nat}{z:Value}{ne:Bool}{xs ys:List Bool}(hg:P.eqGuardType P.depth Tx=false)(ht:P.underlying Tx=some (.array n e))(he:P.underlying e=some .bool)(hz:TI P e 1 bytes z)(hx:E x=some (.agg (xs.map Value.bool).toArray))(hy:E y=some (.agg (ys.map Value.bool).toArray))(h1:xs.length=n)(h2:ys.length=n):
  Am P (.binOp (match ne with|true=> .neq|false=> .eql) Tx x y Ty) T E H O (.bool (match ne with|true=> !decide (xs=ys)|false=>decide (xs=ys))):= .Aj fun a w o ho _ he' _=>by
 have h3:=Pc ht he hz w xs ys h1 h2
 cases ne with
 |false=>
  have h4:=run_eqGuard_agg w .eql Tx x y (xs.map Value.bool).toArray (ys.map Value.bool).toArray hg
  have h5:(binOp .eql Tx (.agg (xs.map Value.bool).toArray) (.agg (ys.map Value.bool).toArray)).run P w= .ok (.bool (decide (xs=ys))) w:=by
   show(do pure (.bool (<-Op.equal Tx _ _)):Sem Value).run P w=_
   simp[h3]
  simp only[execOp,ho,Sem.run_bind,he' x _ hx,he' y _ hy,h4,Result.andThen_ok,h5,Sem.run_pure]
 |true=>
  have h4:=run_eqGuard_agg w .neq Tx x y (xs.map Value.bool).toArray (ys.map Value.bool).toArray hg
  have h5:(binOp .neq Tx (.agg (xs.map Value.bool).toArray) (.agg (ys.map Value.bool).toArray)).run P w= .ok (.bool (!decide (xs=ys))) w:=by
   show(do pure (.bool (!(<-Op.equal Tx _ _))):Sem Value).run P w=_
   simp[h3]
  simp only[execOp,ho,Sem.run_bind,he' x _ hx,he' y _ hy,h4,Result.andThen_ok,h5,Sem.run_pure]
end
section
variable {N : Cw} {R : Type} {P : Program} {C : List (SV N.T)} {S : Nat -> SV N.T} {Rr : Nat -> Option (SR N.T)} {nk : Nat} {o : Oper} {k : A_ N.T -> Nat -> Option R} {r : R}
def Ip:Ty->Option Nat
 | .bool=>some 1
 | .st t=>Ip t
 | .pr a b=>match Ip a,Ip b with
  |some x,some y=>some (x+y)
  |_,_=>none
 |_=>none
def Df:(t:Ty)->t.den N.T->List Bool
 | .bool,x=>[x]
 | .st t,x=>Df t x
 | .pr a b,x=>Df a x.1++Df b x.2
 |_,_=>[]
theorem D4{H:Hp} :∀ {t:Ty} {x:t.den N.T} {n:Nat} {cs:List Value},Ip t=some n->(N.c t).Bm H x cs->cs=(Df t x).map Value.bool/\(Df t x).length=n
 | .bool,x,_,cs,h,hl=>by cases h;exact⟨hl,rfl⟩
 | .st t,x,_,cs,h,hl=>D4 (t:=t) h hl
 | .pr a b,x,_,cs,h,hl=>by
  unfold Ip at h
  split at h
  ·rename_i p q h1 h2
   cases h
   obtain⟨c1,c2,rfl,g1,g2⟩:=hl
   obtain⟨e1,e2⟩:=D4 h1 g1
   obtain⟨e3,e4⟩:=D4 h2 g2
   subst e1;subst e3
   show _=(Df a x.1++Df b x.2).map Value.bool/\(Df a x.1++Df b x.2).length=_
   rw[List.map_append,List.length_append,e2,e4]
   exact⟨rf,rf⟩
  ·cases h
def YY(P:Program)(t:TypeId):Bool:=match P.underlying t with
 |some (.array _ e)=>match P.underlying e with
  |some .bool=>true
  |_=>false
 |_=>false
def Yy(P:Program)(C:List (SV N.T))(S:Nat->SV N.T)(nk:Nat)(ne:Bool)(t:TypeId)(x y:Operand)(k:A_ N.T->Nat->Option R):Option R:=match P.underlying t,Jc N P t with
 |some (.array n e),some (.st u)=>match P.underlying e,OU P e 1,P.eqGuardType P.depth t with
  |some .bool,true,false=>match Ip u,two C (.st u) (Ap S x) (Ap S y)with
   |some m,some (a,b)=>match Nat.beq m n with
    |true=>k ⟨.d .bool (match ne with|true=> !decide (Df u a=Df u b)|false=>decide (Df u a=Df u b)),[],[]⟩ nk
    |false=>none
   |_,_=>none
  |_,_,_=>none
 |_,_=>none
theorem Ux{ne:Bool}{t u:TypeId}{x y:Operand}(ho:o.op= .binOp (match ne with|true=> .neq|false=> .eql) t x y u)(h:Yy P C S nk ne t x y k=some r):AL P C S Rr nk o k r:=by
 have hox:∀ {η:Nat->Value} {H:Hp} {a:Act},(∀x∈o.op.operands,(Ap S x).is C η H (a.eval x))->(Ap S x).is C η H (a.eval x):=fun hx=>hx x (by rw[ho];simp[Op.operands])
 have hoy:∀ {η:Nat->Value} {H:Hp} {a:Act},(∀x∈o.op.operands,(Ap S x).is C η H (a.eval x))->(Ap S y).is C η H (a.eval y):=fun hx=>hx y (by rw[ho];simp[Op.operands])
 unfold Yy at h
 split at h
 case h_2=>cases h
 rename_i n e u' ht hu
 split at h
 case h_2=>cases h
 rename_i he hz hg
 split at h
 case h_2=>cases h
 rename_i m a b hm h2
 split at h
 case h_2=>cases h
 rename_i hb
 have e1:=Nat.eq_of_beq_eq_true hb;subst e1
 obtain⟨bytes,z,hti⟩:=Du hz
 refine .y h (Al.Cy fun η H O ac hx _=>?_) fun _ _=>trivial
 obtain⟨⟨c1,g1,g2⟩,c2,g3,g4⟩:=L_ h2 (hox hx) (hoy hx)
 obtain⟨g1,l1⟩:=D4 (t:=u') hm g1
 obtain⟨g3,l2⟩:=D4 (t:=u') hm g3
 subst g1;subst g3
 exact⟨_,by rw[ho];exact Am.iA (ne:=ne) hg ht he hti (congrArg some g2) (congrArg some g4) l1 l2,Ch⟩
def YE(te:Ty):Nat->(t:Ty)->t.den N.T->Option (List (te.den N.T))
 |n+2, .pr a b,x=>match LP N.T a te,YE te (n+1) b x.2 with
  |some f,some l=>some (f x.1::l)
  |_,_=>none
 |1,t,x=>(LP N.T t te).map fun f=>[f x]
 |_,_,_=>none
theorem Ol{te:Ty}{H:Hp} :∀ {n:Nat} {t:Ty} {x:t.den N.T} {l:List (te.den N.T)} {cs:List Value},YE te n t x=some l->(N.c t).Bm H x cs->AM (N.c te) H l cs/\l.length=n
 |n+2, .pr a b,x,l,cs,h,hl=>by
  unfold YE at h
  split at h
  ·rename_i f l' hf h'
   cases h
   obtain⟨he,rfl⟩:=Bg hf
   have e:=Ty.Bc he;subst e
   obtain⟨c1,c2,rfl,g1,g2⟩:=hl
   obtain⟨k1,k2⟩:=Ol h' g2
   exact⟨⟨c1,c2,rf,g1,k1⟩,by simp[k2]⟩
  ·cases h
 |1,t,x,l,cs,h,hl=>by
  have h:(LP N.T t te).map (fun f=>[f x])=some l:=by
   cases t<;>exact h
  obtain⟨f,hf,rfl⟩:=Option.map_eq_some_iff.1 h
  obtain⟨he,rfl⟩:=Bg hf
  have e:=Ty.Bc he;subst e
  exact⟨⟨cs,[],by simp,hl,rf⟩,rf⟩
def jk(P:Program)(S:Nat->SV N.T)(nk:Nat)(t:TypeId)(x y:Operand)(k:A_ N.T->Nat->Option R):Option R:=match P.underlying t,intOf (Ap S y),Ap S x with
 |some (.array n e),some (_,j), .d (.st u) z=>match P.underlying e,Jc N P e with
  |some d,some te=>match te.agg&&C5 d&&OU P e (te.sz N),YE te n u z with
   |true,some l=>Ah (0<=j/\j<(n:Int)) (Ac (idx l j) fun z=>k ⟨.d te z,[],[]⟩ nk)
   |_,_=>none
  |_,_=>none
 |_,_,_=>none
theorem Mw{te:Ty}{H:Hp} :∀ {l:List (te.den N.T)} {cs:List Value} {i:Nat} {z:te.den N.T},AM (N.c te) H l cs->l[i]?=some z->(N.c te).Bm H z ((cs.drop (i*te.sz N)).take (te.sz N))
 | [],_,_,_,_,h=>by simp at h
 |a::l,_,0,z,⟨c1,c2,e,g1,g2⟩,h=>by
  cases h
  subst e
  rw[Nat.zero_mul,List.drop_zero,List.take_append_of_le_length (by rw[AX g1];exact Nat.le_refl _),List.take_of_length_le (by rw[AX g1];exact Nat.le_refl _)]
  exact g1
 |a::l,_,i+1,z,⟨c1,c2,e,g1,g2⟩,h=>by
  subst e
  have:=Mw (i:=i) g2 (by simpa using h)
  rw[Nat.succ_mul,Nat.add_comm,<-AX g1,<-List.drop_drop,List.drop_left,AX g1]
  exact this
theorem fL{t:TypeId}{x y:Operand}(ho:o.op= .index t x y)(h:jk P S nk t x y k=some r):AL P C S Rr nk o k r:=by
 have hox:∀ {η:Nat->Value} {H:Hp} {a:Act},(∀x∈o.op.operands,(Ap S x).is C η H (a.eval x))->(Ap S x).is C η H (a.eval x):=fun hx=>hx x (by rw[ho];simp[Op.operands])
 have hoy:∀ {η:Nat->Value} {H:Hp} {a:Act},(∀x∈o.op.operands,(Ap S x).is C η H (a.eval x))->(Ap S y).is C η H (a.eval y):=fun hx=>hx y (by rw[ho];simp[Op.operands])
 unfold jk at h
 split at h
 case h_2=>cases h
 rename_i n e kk j u z0 ht hn hs
 split at h
 case h_2=>cases h
 rename_i d te hd hte
 split at h
 case h_2=>cases h
 rename_i l hb hl
 simp only[Bool.and_eq_true]at hb
 obtain⟨⟨b1,b2⟩,b3⟩:=hb
 obtain⟨bytes,zv,hti⟩:=Du b3
 obtain⟨hc,h⟩:=AF h
 obtain⟨z,hz,h⟩:=A9 h
 refine .y h (Al.Cy fun η H O a hx _=>?_) fun _ _=>trivial
 obtain⟨cs,g1,g2⟩:(SV.d (.st u) z0:SV N.T).is C η H (a.eval x):=by rw[<-hs];exact hox hx
 have g2:a.eval x= .agg cs.toArray:=g2
 obtain⟨k1,k2⟩:=Ol hl g1
 have hz':l[j.toNat]?=some z:=by unfold idx at hz;rw[if_pos hc.1]at hz;exact hz
 refine⟨_,by rw[ho];exact Am.gV ht hd b2 hti (congrArg some g2) (congrArg some (AP hn (hoy hx))) hc,(cs.drop (j.toNat*te.sz N)).take (te.sz N),Mw k1 hz',?_⟩
 unfold BS
 rw[b1]
 congr 1
 apply Array.ext'
 simp
end
end Go.GV
namespace Go.GV
open Go Go.GK
section
variable {N : Cw} {R : Type} {P : Program} {C : List (SV N.T)} {S : Nat -> SV N.T} {Rr : Nat -> Option (SR N.T)} {nk : Nat} {o : Oper} {k : A_ N.T -> Nat -> Option R} {r : R}
def eJ(P:Program)(S:Nat->SV N.T)(nk:Nat)(t:TypeId)(x y z:Operand)(k:A_ N.T->Nat->Option R):Option R:=none
theorem eT{t:TypeId}{x y z:Operand}(ho:o.op= .slice t x (some y) (some z) none)(h:eJ P S nk t x y z k=some r):AL P C S Rr nk o k r:=by unfold eJ at h;cases h
theorem aY(n:Int):IntKind.u64.wrap n=n %18446744073709551616:=rfl
theorem oE(n:Int):PK .u64 (n %18446744073709551616):=by
 show(0:Int)<=_/\_<=(18446744073709551615:Int)
 omega
def uT(P:Program)(S:Nat->SV N.T)(nk:Nat)(s d:TypeId)(x:Operand)(k:A_ N.T->Nat->Option R):Option R:=match P.underlying s,P.underlying d,intOf (Ap S x)with
 |some (.int .i64),some (.int .u64),some (.i64,n)=>k ⟨.d (.int .u64) (n %18446744073709551616),[],[]⟩ nk
 |_,_,_=>none
theorem nO{s d:TypeId}{x:Operand}(ho:o.op= .convert s d x)(h:uT P S nk s d x k=some r):AL P C S Rr nk o k r:=by
 have hox:∀ {η:Nat->Value} {H:Hp} {a:Act},(∀x∈o.op.operands,(Ap S x).is C η H (a.eval x))->(Ap S x).is C η H (a.eval x):=fun hx=>hx x (by rw[ho];simp[Op.operands])
 unfold uT at h
 split at h
 case h_2=>cases h
 rename_i n hs hd hn
 exact .y h (Al.Cy fun η H O a g _=>⟨_,by rw[ho];exact Am.dw hs hd (congrArg some (AP hn (hox g))),by rw[aY];exact Dd (oE n)⟩) fun _ _=>trivial
theorem Am.uw{T Tx:TypeId}{E:Operand->Option Value}{H:Hp}{O:List Ao}{x:Operand}{kk:IntKind}{n:Int}(hx:E x=some (.int kk n)):Am P (.unOp .neg Tx x) T E H O (.int kk (kk.wrap (-n))):= .Aj fun a w o ho _ he _=>by
 simp[execOp,ho,he x _ hx,Op.unary,Op.intArith]
def fZ(S:Nat->SV N.T)(nk:Nat)(x:Operand)(k:A_ N.T->Nat->Option R):Option R:=match intOf (Ap S x)with
 |some (.u64,n)=>k ⟨.d (.int .u64) ((-n) %18446744073709551616),[],[]⟩ nk
 |_=>f_ S nk x k
theorem eX{t:TypeId}{x:Operand}(ho:o.op= .unOp .neg t x)(h:fZ S nk x k=some r):AL P C S Rr nk o k r:=by
 have hox:∀ {η:Nat->Value} {H:Hp} {a:Act},(∀x∈o.op.operands,(Ap S x).is C η H (a.eval x))->(Ap S x).is C η H (a.eval x):=fun hx=>hx x (by rw[ho];simp[Op.operands])
 unfold fZ at h
 split at h
 ·rename_i n hn
  exact .y h (Al.Cy fun η H O a g _=>⟨_,by rw[ho];exact Am.uw (congrArg some (AP hn (hox g))),by rw[aY];exact Dd (oE _)⟩) fun _ _=>trivial
 ·exact eY ho h
end
end Go.GV
namespace Go.GV
open Go Go.GK
section
variable {P : Program} {w : World} {H : Hp} {O : List Ao} {T : TypeId} {E : Operand -> Option Value}
theorem Oper.Mh{o:Oper}{a:Act}{w:World}{v:Value}{C D:World->Prop}(h:o.quietAt P a C w v)(k:∀w',C w'->D w'):o.quietAt P a D w v:=by
 unfold Oper.quietAt Oper.quietUpon at*
 split at h<;>rename_i heq
 all_goals first|exact h|(exact⟨h.1,k _ h.2⟩)|(exact⟨h.1,h.2.mono fun _ _ q=>⟨q.1,k _ q.2⟩⟩)|cases h
theorem Am.sub{op:Op}{O':List Ao}{v:Value}(h1:∀w,SH w H O->SH w H O')(h2:∀w,SH w H O'->SH w H O)(h:Am P op T E H O' v):Am P op T E H O v:=
 fun a w o e1 e2 e3 hs=>Oper.Mh (h a w o e1 e2 e3 (h1 w hs)) h2
end
section
variable {N : Cw} {R : Type} {P : Program} {C : List (SV N.T)} {S : Nat -> SV N.T} {Rr : Nat -> Option (SR N.T)} {nk : Nat} {o : Oper} {k : A_ N.T -> Nat -> Option R} {r : R}
theorem Al.uv{sv:SV N.T}{b:Nat}{s0:SR N.T}(hb:Rr b=some s0)(h0:s0≠ .gone)
  (h:∀(η:Nat->Value) (H:Hp) (O:List Ao) (a:Act) (w:World) (X:Ao) (i:Nat),(∀x∈o.op.operands,(Ap S x).is C η H (a.eval x))->SH w H O->O[i]?=some X->s0.is C η H b X->∃v,Am P o.op o.type (EV a) H O v/\sv.is C η H v):
  Al P C S Rr o ⟨sv,[b],[]⟩:=by
 intro η H Of a w Y hn hs hi hx hr _ K Q hK
 rcases hr b (.inl (by simp)) _ hb with e|⟨X,h1,h2⟩
 ·exact absurd e h0
 obtain⟨i,h3,_⟩:=GJ Of hn h1
 obtain⟨v,k1,k2⟩:=h η H _ a w X i hx hs h3 h2
 refine Oper.Bt (k1 a w o rf rf (fun x u e=>by simpa using e) hs) hs fun w' hw'=>?_
 exact hK v w' H η Y (Hp.le.refl H) (fun _ _=>rfl) (fun _ _=>rfl) (fun k sr h=>by cases h) hn (fun k hk=> .inl hk) hw' k2
def gR(P:Program)(S:Nat->SV N.T)(Rr:Nat->Option (SR N.T))(nk:Nat)(t:TypeId)(x y:Operand)(k:A_ N.T->Nat->Option R):Option R:=none
theorem fy{t:TypeId}{x y:Operand}(ho:o.op= .indexAddr t x y)(h:gR P S Rr nk t x y k=some r):AL P C S Rr nk o k r:=by unfold gR at h;cases h
def gz(P:Program)(S:Nat->SV N.T)(Rr:Nat->Option (SR N.T))(nk:Nat)(t:TypeId)(x:Operand)(k:A_ N.T->Nat->Option R):Option R:=none
theorem fp{t:TypeId}{x:Operand}(ho:o.op= .load t x)(h:gz P S Rr nk t x k=some r):AL P C S Rr nk o k r:=by unfold gz at h;cases h
def gQ(P:Program)(S:Nat->SV N.T)(Rr:Nat->Option (SR N.T))(nk:Nat)(t:TypeId)(x y:Operand)(k:A_ N.T->Nat->Option R):Option R:=none
theorem fx{t:TypeId}{x y:Operand}(ho:o.op= .indexAddr t x y)(h:gQ P S Rr nk t x y k=some r):AL P C S Rr nk o k r:=by unfold gQ at h;cases h
def XG(P:Program)(t:TypeId)(te:Ty):Bool:=match P.underlying t,Jc N P t with
 |some d,some ty=>(ty.Ig te&&Nat.beq (te.sz N) 1)&& !C5 d
 |_,_=>false
theorem QG{t:TypeId}{te:Ty}(h:XG (N:=N) P t te=true):∃d,P.underlying t=some d/\C5 d=false/\te.agg=false/\te.sz N=1/\∃bytes z,TI P t 1 bytes z:=by
 unfold XG at h
 split at h
 ·rename_i d ty hd hty
  simp only[Bool.and_eq_true,Bool.not_eq_true']at h
  obtain⟨⟨h1,h2⟩,h3⟩:=h
  have e:=Ty.Bc h1;subst e
  have e2:=Nat.eq_of_beq_eq_true h2
  obtain⟨d',g1,g2,bytes,z,g3⟩:=GG hty
  rw[hd]at g1;cases g1
  exact⟨d,hd,h3,by rw[<-g2];exact h3,e2,bytes,z,by rw[<-e2];exact g3⟩
 ·cases h
def gA(P:Program)(S:Nat->SV N.T)(Rr:Nat->Option (SR N.T))(nk:Nat)(t:TypeId)(x:Operand)(k:A_ N.T->Nat->Option R):Option R:=none
theorem U6{te:Ty}{H:Hp}(h1:te.sz N=1){l:List (te.den N.T)}{ys:List Value}{j:Nat}{z:te.den N.T}(hL:AM (N.c te) H l ys)(hz:l[j]?=some z):∃u,ys[j]?=some u/\(N.c te).Bm H z [u]:=by
 have:=Mw hL hz
 rw[h1,Nat.mul_one]at this
 have hl:=AX this
 rw[h1]at hl
 match hd:(ys.drop j).take 1,this,hl with
 | [u],this,_=>
  refine⟨u,?_,this⟩
  have:((ys.drop j).take 1)[0]?=some u:=by rw[hd];rfl
  rw[List.getElem?_take,if_pos (by omega),List.getElem?_drop]at this
  simpa using this
theorem fq{t:TypeId}{x:Operand}(ho:o.op= .load t x)(h:gA P S Rr nk t x k=some r):AL P C S Rr nk o k r:=by unfold gA at h;cases h
def ec(P:Program)(C:List (SV N.T))(S:Nat->SV N.T)(Rr:Nat->Option (SR N.T))(nk:Nat)(t:TypeId)(x y:Operand)(k:A_ N.T->Nat->Option R):Option R:=none
theorem eR{t:TypeId}{x y:Operand}(ho:o.op= .store t x y)(h:ec P C S Rr nk t x y k=some r):AL P C S Rr nk o k r:=by unfold ec at h;cases h
def jy(P:Program)(S:Nat->SV N.T)(Rr:Nat->Option (SR N.T))(nk:Nat)(t:TypeId)(x y:Operand)(k:A_ N.T->Nat->Option R):Option R:=none
theorem fQ{t:TypeId}{x y:Operand}(ho:o.op= .store t x y)(hf:∀j,nk<=j->Rr j=none)(h:jy P S Rr nk t x y k=some r):AL P C S Rr nk o k r:=by unfold jy at h;cases h
end
end Go.GV
namespace Go.GV
open Go Go.GK
section
variable {N : Cw} {R : Type} {P : Program} {C : List (SV N.T)} {S : Nat -> SV N.T} {Rr : Nat -> Option (SR N.T)} {nk : Nat} {o : Oper} {k : A_ N.T -> Nat -> Option R} {r : R}
def dF:Option (SR N.T)->Bool
 |some (.Af _ (.lf _ (.d (.ar _ _) _) .nl))=>true
 |_=>false
theorem V7{η:Nat->Value}{H:Hp}{b s n:Nat}{g:TypeId}{te:Ty}{l:List (te.den N.T)}{X:Ao}(h:(SR.Af g (.lf s (.d (.ar n te) l) .nl):SR N.T).is C η H b X):
  ∃B cs,η b=ptr B 0/\X= .Af B (.cells cs.toArray g (0,0))/\cs.length=s/\l.length=n/\AM (N.c te) H l cs/\∀x∈cs,x.oneCell'=true:=by
 obtain⟨B,cs,e1,e2,c1,c2,u,e3,e4,⟨cs',⟨h1,h2⟩,h3⟩,e5,e6,e7⟩:=h
 have h3:u= .agg cs'.toArray:=h3
 subst h3
 have e5:cs'=c1:=by simpa [Value.cells]using e5
 subst e5
 have e7:Value.agg c2.toArray= .agg #[]:=e7
 have e7:c2=[]:=by simpa using e7
 subst e7
 have e3:cs=cs'.toArray:=by simpa using e3
 subst e3
 exact⟨B,cs',e1,e2,e4,h1,h2,e6⟩
theorem jl{η:Nat->Value}{H:Hp}{b n:Nat}{g:TypeId}{te:Ty}{l:List (te.den N.T)}{B:Nat}{cs:List Value}(h1:η b=ptr B 0)(h2:l.length=n)(h3:AM (N.c te) H l cs)(h4:∀x∈cs,x.oneCell'=true):
  (SR.Af g (.lf cs.length (.d (.ar n te) l) .nl):SR N.T).is C η H b (.Af B (.cells cs.toArray g (0,0))):=
 ⟨B,_,h1,rfl,cs,[], .agg cs.toArray,by simp,rfl,⟨cs,⟨h2,h3⟩,rfl⟩,by simp[Value.cells],h4,rfl⟩
def gB(P:Program)(S:Nat->SV N.T)(Rr:Nat->Option (SR N.T))(nk:Nat)(t:TypeId)(x:Operand)(k:A_ N.T->Nat->Option R):Option R:=match Ap S x with
 | .loc b off=>match Rr b with
  |some (.Af _ (.lf _ (.d (.ar _ te) l) .nl))=>match XG (N:=N) P t te with
   |true=>Ac (idx l (off:Int)) fun z=>k ⟨.d te z,[b],[]⟩ nk
   |false=>none
  |_=>none
 |_=>none
theorem fv{t:TypeId}{x:Operand}(ho:o.op= .load t x)(h:gB P S Rr nk t x k=some r):AL P C S Rr nk o k r:=by
 have hox:∀ {η:Nat->Value} {H:Hp} {a:Act},(∀x∈o.op.operands,(Ap S x).is C η H (a.eval x))->(Ap S x).is C η H (a.eval x):=fun hx=>hx x (by rw[ho];simp[Op.operands])
 unfold gB at h
 split at h
 case h_2=>cases h
 rename_i b off hs
 split at h
 case h_2=>cases h
 rename_i g s n te l hb
 obtain⟨l,rfl⟩:∃l0:List (te.den N.T),l0=l:=⟨l,rfl⟩
 split at h
 case h_2=>cases h
 rename_i hB
 obtain⟨d,hd,ha,hag,hsz,_⟩:=QG hB
 obtain⟨z,hz,h⟩:=A9 h
 refine .y h (Al.uv hb (by simp) fun η H O a w X j hx hsh hj hX=>?_) fun _ _=>trivial
 obtain⟨B,cs,e1,rfl,e3,e4,hL,_⟩:=V7 hX
 obtain⟨B',q1,q2⟩:(SV.loc b off:SV N.T).is C η H (a.eval x):=by rw[<-hs];exact hox hx
 have:B'=B:=by rw[e1]at q1;simpa [ptr]using q1.symm
 subst this
 have hzl:=(FB hz).2
 simp only[Int.toNat_natCast]at hzl
 obtain⟨c,c1,c2⟩:=U6 hsz hL hzl
 refine⟨c,?_,[c],c2,by unfold BS;rw[hag]⟩
 rw[ho]
 exact Am.LA hd ha (congrArg some q2) hj (by simpa using c1)
def eh(P:Program)(C:List (SV N.T))(S:Nat->SV N.T)(Rr:Nat->Option (SR N.T))(nk:Nat)(t:TypeId)(x y:Operand)(k:A_ N.T->Nat->Option R):Option R:=match Ap S x with
 | .loc b off=>match Rr b with
  |some (.Af g (.lf s (.d (.ar n te) l) .nl))=>match XG (N:=N) P t te,OV C te (Ap S y)with
   |true,some z=>Ah (off<n) (k ⟨.no,[],[(b, .Af g (.lf s (.d (.ar n te) (l.set off z)) .nl))]⟩ nk)
   |_,_=>none
  |_=>none
 |_=>none
theorem eS{t:TypeId}{x y:Operand}(ho:o.op= .store t x y)(h:eh P C S Rr nk t x y k=some r):AL P C S Rr nk o k r:=by
 have hox:∀ {η:Nat->Value} {H:Hp} {a:Act},(∀x∈o.op.operands,(Ap S x).is C η H (a.eval x))->(Ap S x).is C η H (a.eval x):=fun hx=>hx x (by rw[ho];simp[Op.operands])
 have hoy:∀ {η:Nat->Value} {H:Hp} {a:Act},(∀x∈o.op.operands,(Ap S x).is C η H (a.eval x))->(Ap S y).is C η H (a.eval y):=fun hx=>hx y (by rw[ho];simp[Op.operands])
 unfold eh at h
 split at h
 case h_2=>cases h
 rename_i b off hs
 split at h
 case h_2=>cases h
 rename_i g s n te l hb
 obtain⟨l,rfl⟩:∃l0:List (te.den N.T),l0=l:=⟨l,rfl⟩
 split at h
 case h_2=>cases h
 rename_i z hB hz
 obtain⟨d,hd,ha,hag,hsz,bytes,zv,hti⟩:=QG hB
 obtain⟨hc,h⟩:=AF h
 refine .set h hb (Al.J9 hb (by simp) fun η H O a X q hx hj hX _=>?_) fun _ _=>trivial
 obtain⟨B,cs,e1,rfl,e3,e4,hL,e6⟩:=V7 hX
 obtain⟨B',q1,q2⟩:(SV.loc b off:SV N.T).is C η H (a.eval x):=by rw[<-hs];exact hox hx
 have:B'=B:=by rw[e1]at q1;simpa [ptr]using q1.symm
 subst this
 obtain⟨k1,k2⟩:=Ct (CC hz (hoy hx))
 have hlen:=AX k1
 rw[hsz]at hlen
 have hcl:cs.length=l.length:=by have:=hL.len;rw[A5,hsz,Nat.mul_one]at this;exact this
 have hLs:AM (N.c te) H (l.set off z) (BZ cs off (a.eval y).cells.toList):=by
  have:=hL.set (i:=off) (by omega) k1
  rw[A5,hsz,Nat.mul_one]at this
  exact this
 have hsl:(BZ cs off (a.eval y).cells.toList).length=s:=by
  unfold BZ
  simp only[List.length_append,List.length_take,List.length_drop,hlen]
  omega
 have hone:∀v∈BZ cs off (a.eval y).cells.toList,v.oneCell'=true:=by
  intro v hv
  unfold BZ at hv
  rcases List.mem_append.1 hv with hv|hv
  ·rcases List.mem_append.1 hv with hv|hv
   ·exact e6 v (List.mem_of_mem_take hv)
   ·exact k2 v hv
  ·exact e6 v (List.mem_of_mem_drop hv)
 rw[ho]
 have his:=jl (C:=C) (b:=b) (g:=g) (n:=n) (l:=l.set off z) e1 ((List.length_set ..).trans e4) hLs hone
 rw[hsl]at his
 refine⟨_,his,(Bl.Nz (congrArg some q2) rf rf hti hlen k2 hj (by rw[List.size_toArray];omega)).mono ?_⟩
 rintro v H' O' ⟨rfl,rfl⟩
 exact⟨rf,by simp,trivial⟩
end
end Go.GV
namespace Go.GV
open Go Go.GK
section
variable {N : Cw} {R : Type} {P : Program} [Bn N P] {C : List (SV N.T)} {S : Nat -> SV N.T} {Rr : Nat -> Option (SR N.T)} {nk : Nat} {o : Oper} {k : A_ N.T -> Nat -> Option R} {r : R}
def fY(S:Nat->SV N.T)(nk:Nat)(x:Operand)(k:A_ N.T->Nat->Option R):Option R:=match Ap S x with
 | .loc b off=>k ⟨.loc b off,[],[]⟩ nk
 | .pd t y off=>k ⟨.pd t y off,[],[]⟩ nk
 |_=>none
theorem Mp{T:TypeId}{E:Operand->Option Value}{H:Hp}{O:List GK.Ao}{x:Operand}{b:Addr}(hx:E x=some (.pointer (some b))):Am P (.nilCheck x) T E H O (.pointer (some b)):= .Aj fun a w o ho _ he _=>by
 simp[execOp,ho,he x _ hx]
theorem eW{x:Operand}(ho:o.op= .nilCheck x)(h:fY S nk x k=some r):AL P C S Rr nk o k r:=by
 have _m:=(inferInstance:Bn N P)
 unfold fY at h
 split at h
 ·rename_i b off hs
  refine .y h (Al.Cy fun η H O a hx _=>?_) fun _ _=>trivial
  obtain⟨B,e1,e2⟩:(SV.loc b off:SV N.T).is C η H (a.eval x):=by rw[<-hs];exact hx x (by rw[ho];simp[Op.operands])
  exact⟨ptr B off,by rw[ho];exact Am.nilCheck (congrArg some e2),B,e1,rf⟩
 ·rename_i t y off hs
  refine .y h (Al.Cy fun η H O a hx _=>?_) fun _ _=>trivial
  obtain⟨B,q,cs,e1,e2,e3⟩:(SV.pd t y off:SV N.T).is C η H (a.eval x):=by rw[<-hs];exact hx x (by rw[ho];simp[Op.operands])
  exact⟨_,by rw[ho];exact Mp (congrArg some e1),B,q,cs,rf,e2,e3⟩
 ·cases h
def nJ(P:Program)(Φ:Nat->Option (CQ N))(C:List (SV N.T))(S:Nat->SV N.T)(Rr:Nat->Option (SR N.T))(nk:Nat)(op:Op)(ty:TypeId)(k:A_ N.T->Nat->Option R):Option R:=match op with
 | .move x=>k ⟨Ap S x,[],[]⟩ nk
 | .assign x=>k ⟨Ap S x,[],[]⟩ nk
 | .pick c x y=>match Ap S c with
  | .lb true=>k ⟨Ap S x,[],[]⟩ nk
  | .lb false=>k ⟨Ap S y,[],[]⟩ nk
  |_=>none
 | .alloc t=>PZ P nk t k
 | .box t x=>jc P S nk t x k
 | .load t x=>match Ap S x with
  | .px _ (.fo _)=>gz P S Rr nk t x k
  | .px _ (.fe _ _ _)=>gA P S Rr nk t x k
  | .loc b _=>(match dF (Rr b)&&OU P t 1 with
   |true=>gB P S Rr nk t x k
   |false=>X7 P C S Rr nk t x k)
  |_=>X7 P C S Rr nk t x k
 | .store t x y=>match Ap S x with
  | .px _ (.fo _)=>jy P S Rr nk t x y k
  | .px _ (.fe _ _ _)=>ec P C S Rr nk t x y k
  | .loc b _=>(match dF (Rr b)&&OU P t 1 with
   |true=>eh P C S Rr nk t x y k
   |false=>rS P C S Rr nk t x y k)
  |_=>rS P C S Rr nk t x y k
 | .fieldAddr t x i=>h_ P C S nk t x i k
 | .field t x i=>uN P S nk t x i k
 | .indexAddr t x y=>match Ap S x with
  | .px _ (.hc _)=>gS P S nk t x y k
  | .px _ (.fi _)=>gQ P S Rr nk t x y k
  | .Az b=>(match Rr b with
   |some (.DB _ _ _ _ _)=>gR P S Rr nk t x y k
   |_=>se P S Rr nk t x y k)
  | .px _ _=>gP P S Rr nk t x y k
  |_=>se P S Rr nk t x y k
 | .index t x y=>match P.underlying t with
  |some (.array _ _)=>jk P S nk t x y k
  |_=>iV P S nk t x y k
 | .binOp .eql t x (.const (.slice none 0 0)) _=>fX P S nk t x k
 | .binOp b t x y _=>match YY P t with
  |true=>(match b with
   | .eql=>Yy P C S nk false t x y k
   | .neq=>Yy P C S nk true t x y k
   |_=>none)
  |false=>V2 P C S nk b t x y k
 | .unOp .not _ x=>fS S nk x k
 | .unOp .neg _ x=>fZ S nk x k
 | .nilCheck x=>fY S nk x k
 | .convert s d x=>match P.underlying d with
  |some .string=>i_ P S nk s d x k
  |some (.int .u64)=>(match P.underlying s with
   |some (.int .i64)=>uT P S nk s d x k
   |_=>sC P S nk s d x k)
  |_=>sC P S nk s d x k
 | .extract x i=>iq S nk x i fun s n=>match DO s.sv with
  |true=>k s n
  |false=>none
 | .build t ⟨ps⟩=>jf P C S nk t ps k
 | .buildSlice t len ⟨ps⟩=>match len,ps with
  |0,[]=>ja P nk t k
  |len,ps=>match VT S 0 ps with
   |some _=>va P S nk t len ps k
   |none=>u6 P C S nk t len ps k
 | .makeSlice t p q=>rX P S nk t p q k
 | .slice t x none (some y) none=>match Ap S x with
  | .raw _=>iG P S nk t x y k
  |_=>iH P S Rr nk t x y k
 | .slice t x (some y) (some z) none=>eJ P S nk t x y z k
 | .slice t x lo (some y) (some z)=>VJ P S Rr nk t x lo y z k
 | .call {callee:= .builtin .append,args:=⟨[s,x]⟩,argTypes:=⟨[t,u]⟩} =>match Nat.beq u t with
  |true=>match Ap S s with
   | .px _ _=>jq P S Rr nk s x t k
   |_=>jt P S Rr nk s x t k
  |false=>match P.underlying u with
   |some .string=>jr P S Rr nk s x t u k
   |_=>jo P S nk s x t u k
 | .call {callee:= .builtin .cap,args:=⟨[x]⟩,argTypes:=⟨[t]⟩} =>iI P S nk x t k
 | .call {callee:= .builtin .len,args:=⟨[x]⟩,argTypes:=⟨[t]⟩} =>match Ap S x with
  | .mp _=>gn P S Rr nk x t k
  | .px _ _=>gp P S nk x t k
  |_=>gv P S Rr nk x t k
 | .call {callee:= .builtin .unsafeSliceData,args:=⟨[x]⟩,argTypes:=⟨[_]⟩} =>dT P S Rr nk x ty k
 | .call {callee:= .builtin .unsafeString,args:=⟨[x,y]⟩,argTypes:=⟨[pt,_]⟩} =>dS P S Rr nk x y pt k
 | .call {callee:= .builtin .max,args:=⟨[x,y]⟩,argTypes:=_} =>gl S nk x y k
 | .call {callee:= .builtin .min,args:=⟨[x,y]⟩,argTypes:=_} =>gj S nk x y k
 | .call {callee:= .builtin .copy,args:=⟨[x,y]⟩,argTypes:=⟨[t,_]⟩} =>VN P S Rr nk x y t k
 | .call {callee:= .value x,args:=⟨xs⟩,argTypes:=_} =>VW C Φ S Rr nk x xs k
 | .makeFunc (.func f) ⟨fs⟩ ⟨cs⟩=>gh S nk f fs cs k
 | .makeMap t none=>gf P nk t k
 | .lookup t x y ok=>gq P C S Rr nk t x y ok k
 | .mapUpdate t x y u=>Xz P C S Rr nk t x y u k
 | .insert t x y u=>Xz P C S Rr nk t x y u k
 |_=>none
theorem Pn{Φ:Nat->Option (CQ N)}(hΦ:∀f q,Φ f=some q->A7 P f q)(hC:∀k∈Co C,k<nk)(hf:∀j,nk<=j->Rr j=none)(hW:∃τ,KP Rr S τ)(h:nJ P Φ C S Rr nk o.op o.type k=some r):AL P C S Rr nk o k r:=by
 unfold nJ at h
 split at h
 ·rename_i ho;exact QH (.inl ho) h
 ·rename_i ho;exact QH (.inr ho) h
 ·rename_i ho
  split at h
  ·rename_i hc;exact Ut ho hc h
  ·rename_i hc;exact Uu ho hc h
  ·cases h
 ·rename_i ho;exact Uz ho hf h
 ·rename_i ho;exact fI ho hC hf h
 ·rename_i ho
  split at h
  ·exact fp ho h
  ·exact fq ho h
  ·split at h
   ·exact fv ho h
   ·exact Uv ho hW h
  ·exact Uv ho hW h
 ·rename_i ho
  split at h
  ·exact fQ ho hf h
  ·exact eR ho h
  ·split at h
   ·exact eS ho h
   ·exact dc ho hW h
  ·exact dc ho hW h
 ·rename_i ho;exact fB ho h
 ·rename_i ho;exact nN ho h
 ·rename_i ho
  split at h
  ·exact fA ho h
  ·exact fx ho h
  ·split at h
   ·exact fy ho h
   ·exact df ho h
  ·exact fw ho h
  ·exact df ho h
 ·rename_i ho
  split at h
  ·exact fL ho h
  ·exact fF ho h
 ·rename_i ho;exact eV ho h
 ·rename_i ho
  split at h
  ·split at h
   ·exact Ux (ne:=false) ho h
   ·exact Ux (ne:=true) ho h
   ·cases h
  ·exact XL ho h
 ·rename_i ho;exact eU ho h
 ·rename_i ho;exact eX ho h
 ·rename_i ho;exact eW ho h
 ·rename_i ho
  split at h
  ·exact fG ho h
  ·split at h
   ·exact nO ho h
   ·exact dh ho h
  ·exact dh ho h
 ·rename_i ho;exact fC ho h
 ·rename_i ho;exact fJ ho h
 ·rename_i ho
  split at h
  ·exact fH ho hf h
  ·split at h
   ·exact nQ ho hC hf h
   ·exact nP ho hf h
 ·rename_i ho;exact nM ho hf h
 ·rename_i ho
  split at h
  ·exact XH ho h
  ·exact fD ho hf h
 ·rename_i ho;exact eT ho h
 ·rename_i ho;exact XI ho h
 ·rename_i ho
  split at h
  ·rename_i hb
   have e:=Nat.eq_of_beq_eq_true hb;subst e
   split at h
   ·exact fN ho hf h
   ·exact fP ho hf h
  ·split at h
   ·exact fO ho hf h
   ·exact fM ho hf h
 ·rename_i ho;exact fE ho h
 ·rename_i ho
  split at h
  ·exact fg ho h
  ·exact fh ho h
  ·exact fk ho h
 ·rename_i ho;exact eQ ho h
 ·rename_i ho;exact eP ho h
 ·rename_i ho;exact ff ho h
 ·rename_i ho;exact fa ho h
 ·rename_i ho;exact XJ ho h
 ·rename_i ho;exact Uy hΦ hf ho h
 ·rename_i ho;exact e_ ho h
 ·rename_i ho;exact eZ ho hf h
 ·rename_i ho;exact fj ho h
 ·rename_i ho;exact Us (.inl ho) h
 ·rename_i ho;exact Us (.inr ho) h
 ·cases h
theorem Al.fz{kk:Nat}{g:TypeId}{te:Ty}{l:List (te.den N.T)}{s:A_ N.T}(hk:Rr kk=some (.row g te l))(h:Al P C (fun t=>E3 kk te l (S t)) (BG Rr kk) o s)(hw:kk∉keys s.wr):Al P C S Rr o ⟨s.sv,kk::s.rd,(kk, .gone)::s.wr⟩:=by
 have _m:=(inferInstance:Bn N P)
 intro η H Of a w Y hn hs hi hx hr hfresh K Q hK
 have hks:∀j,j∈keys ((kk,SR.gone)::s.wr)↔j=kk\/j∈keys s.wr:=fun j=>by simp[keys]
 rcases hr kk (.inl (by simp)) _ hk with e|⟨x,h1,xs,rfl,hL⟩
 ·cases e
 obtain⟨i,h2,h3⟩:=SM Of hn h1
 obtain⟨H',g1,g2,g3⟩:=hs.freeze h2
 rw[h3]at g2
 have hsd:Fa (N.c te) H' l (η kk):=Fa.of (by rw[A5];exact g3) rfl (hL.mono g1) (hs.JW h2)
 refine h η H' Of a w (EK Y kk) (Hw hn) g2 (N.BW g1 hi) (fun x hx'=>Vq hsd ((hx x hx').mono g1)) (fun j hj sr hsr=>?_) (fun j hj hnone hm=>?_) K Q fun v w' H2 η' Y' hle hη hY hwr hn' hY' hsh' hsv=>?_
 ·unfold BG at hsr
  split at hsr
  ·cases hsr;exact .inl rfl
  ·rename_i hb
   have ne:=Nat.ne_of_beq_eq_false hb
   refine(hr j (hj.imp (List.mem_cons_of_mem _) fun hj=>(hks j).2 (.inr hj)) sr hsr).imp id fun⟨z,e1,e2⟩=>⟨z,by rw[Ei ne];exact e1,e2.mono g1⟩
 ·unfold BG at hnone
  split at hnone
  ·cases hnone
  ·exact hfresh j ((hks j).2 (.inr hj)) hnone (De hm)
 ·refine hK v w' H2 η' Y' (g1.trans hle) (fun j hj=>hη j fun hnone hm=>?_) (fun j hj=>?_) (fun j sr hj=>?_) hn' (fun j hj=>?_) hsh' hsv
  ·unfold BG at hnone
   split at hnone
   ·cases hnone
   ·exact hj hnone ((hks j).2 (.inr hm))
  ·rw[hks,not_or]at hj
   rw[hY j hj.2,Ei hj.1]
  ·simp only[An]at hj
   split at hj
   ·cases hj;exact .inl rfl
   ·exact hwr j sr hj
  ·rcases hY' j hj with e|e
   ·exact .inl (De e)
   ·exact .inr ((hks j).2 (.inr e))
def Rb(S:Nat->SV N.T):List Operand->Option Nat
 | []=>none
 |x::xs=>match SC (Ap S x)with
  |some k=>some k
  |none=>Rb S xs
def oA(Φ:Nat->Option (CQ N))(S:Nat->SV N.T):Op->Option Nat
 | .buildSlice _ _ ⟨ps⟩=>Rb S (ps.map (·.2))
 | .convert _ _ x=>Rb S [x]
 | .store _ x y=>match Ap S x with
  | .Di _ _ _ _ _=>SC (Ap S y)
  |_=>none
 | .call {callee:= .value (.func f),args:=⟨xs⟩,argTypes:=_} =>match Φ f with
  |some (.Ae q)=>match q.rs.all DV with
   |true=>none
   |false=>Rb S xs
  |_=>none
 |_=>none
def nK(P:Program)(Φ:Nat->Option (CQ N))(C:List (SV N.T)):Nat->(Nat->SV N.T)->(Nat->Option (SR N.T))->Nat->Op->TypeId->(A_ N.T->Nat->Option R)->Option R
 |0,S,Rr,nk,op,ty,k=>nJ P Φ C S Rr nk op ty k
 |n+1,S,Rr,nk,op,ty,k=>match oA Φ S op with
  |some kk=>match Rr kk with
   |some (.row _ te l)=>nK P Φ C n (fun t=>E3 kk te l (S t)) (BG Rr kk) nk op ty fun s nk=>match Bw (keys s.wr) kk with
    |false=>k ⟨s.sv,kk::s.rd,(kk, .gone)::s.wr⟩ nk
    |true=>none
   |_=>nJ P Φ C S Rr nk op ty k
  |none=>nJ P Φ C S Rr nk op ty k
theorem Po{Φ:Nat->Option (CQ N)}(hΦ:∀f q,Φ f=some q->A7 P f q)(hC:∀k∈Co C,k<nk):∀(n:Nat) {S:Nat->SV N.T} {Rr:Nat->Option (SR N.T)} {k:A_ N.T->Nat->Option R},(∀j,nk<=j->Rr j=none)->(∃τ,KP Rr S τ)->nK P Φ C n S Rr nk o.op o.type k=some r->AL P C S Rr nk o k r
 |0,S,Rr,k,hf,hW,h=>Pn hΦ hC hf hW h
 |n+1,S,Rr,k,hf,hW,h=>by
  unfold nK at h
  split at h
  ·rename_i kk hk
   split at h
   ·rename_i g te l hb
    have hwf:∀τ,KP Rr S τ->KP (BG Rr kk) (fun t=>E3 kk te l (S t)) τ:=fun τ hτ t=>by
     have h1:=hτ t
     generalize hsv:S t=sv at h1⊢
     show CD τ (BG Rr kk) (E3 kk te l (S t))
     rw[hsv]
     cases sv with
     |Az j=>unfold E3;split<;>trivial
     |Di j i off te' x=>
      unfold E3
      split
      ·trivial
      ·rename_i hb2
       intro g' t' l' hl'
       unfold BG at hl'
       rw[hb2]at hl'
       exact h1 g' t' l' hl'
     |_=>exact h1
    have hlt:kk<nk:=Nat.lt_of_not_le fun hle=>by have:=hf kk hle;rw[hb]at this;cases this
    obtain⟨s,nk',h1,h2,h3,h4,h5⟩:=Po hΦ hC n (S:=fun t=>E3 kk te l (S t)) (Rr:=BG Rr kk) (fun j hj=>by
     unfold BG
     cases hb2:Nat.beq j kk with
     |true=>have:=Nat.eq_of_beq_eq_true hb2;omega
     |false=>exact hf j hj) (by obtain⟨τ,hτ⟩:=hW;exact⟨τ,hwf τ hτ⟩) h
    split at h1
    ·rename_i hm
     have hw:kk∉keys s.wr:=fun e=>by rw[AB.2 e]at hm;cases hm
     refine⟨_,nk',h1,h2.fz hb hw,h3,fun j hj hnone=>?_,fun τ hτ=>?_⟩
     ·have hj:j∈keys ((kk,SR.gone)::s.wr):=hj
      simp only[keys,List.map_cons,List.mem_cons]at hj
      rcases hj with e|hj2
      ·subst e;rw[hb]at hnone;cases hnone
      ·refine h4 j hj2 ?_
       unfold BG
       cases hb2:Nat.beq j kk with
       |true=>have:=Nat.eq_of_beq_eq_true hb2;subst this;exact absurd hj2 hw
       |false=>exact hnone
     ·have e:Mn ((kk,SR.gone)::s.wr) Rr=Mn s.wr (BG Rr kk):=funext fun j=>by
       unfold Mn BG
       simp only[An]
       cases hb2:Nat.beq kk j with
       |true=>
        have:=Nat.eq_of_beq_eq_true hb2;subst this
        rw[BV hw];simp
       |false=>
        have ne:=Nat.ne_of_beq_eq_false hb2
        have:Nat.beq j kk=false:=by
         cases hb3:Nat.beq j kk with
         |true=>exact absurd (Nat.eq_of_beq_eq_true hb3).symm ne
         |false=>rfl
        rw[this]
      show CD τ (Mn ((kk,SR.gone)::s.wr) Rr) s.sv
      rw[e]
      exact h5 τ (hwf τ hτ)
    ·cases h1
   ·exact Pn hΦ hC hf hW h
  ·exact Pn hΦ hC hf hW h
end
end Go.GV
namespace Go.GV
open Go Go.GK
def Ck{T:Nat->Type}(CR:List (SR T)):SR T->SR T
 | .BO j=>CR.getD j .gone
 |s=>s
def Ai{T:Nat->Type}(CR:List (SR T))(O:List (Nat×SR T))(k:Nat):Option (SR T):=match An O k with
 |some s=>some (Ck CR s)
 |none=>none
def NS{T:Nat->Type} :SV T->Bool
 | .Di _ _ _ _ _=>false
 |_=>true
def W4{T:Nat->Type}(ks:List Nat)(L:List (Nat×SV T)):List (Nat×SV T):=match ks with
 | []=>L
 |ks=>L.map fun p=>(p.1,match p.2 with
  | .Di k i off t x=>match Bw ks k with
   |true=> .no
   |false=> .Di k i off t x
  |s=>s)
def NK{T:Nat->Type}(d:Option Nat)(s:SV T)(L:List (Nat×SV T)):List (Nat×SV T):=match d with
 |some d=>(d,s)::L
 |none=>L
def app{T:Nat->Type}(st:St T)(d:Option Nat)(s:A_ T)(nk:Nat):St T:=⟨NK d s.sv (W4 (keys s.wr) st.L),s.wr++st.O,nk⟩
def La(n:Nat)(d:Option Nat):Bool:=match d with
 |some d=>Nat.blt d n
 |none=>true
def Cp{T:Nat->Type}(CR:List (SR T))(st:St T)(a:Nat):Bool:=(st.L.all fun p=>p.2.Ay.all fun k=>Nat.blt k a)&&(st.O.all fun p=>(Ck CR p.2).Ay.all fun k=>Nat.blt k a)
section
variable {N : Cw}
structure Fm where
 O:List Ao
 ds:List Deferred
structure Sat(C:List (SV N.T))(CR:List (SR N.T))(n:Nat)(Of:Fm)(bs:List (Nat×Value))(st:St N.T)(η:Nat->Value)(H:Hp)(a:Act)(w:World):Prop where
 inv:N.inv H
 defers:a.defers=Of.ds
 size:a.tmps.size=n
 A6:∀t sv,An st.L t=some sv->sv.is C η H (a.tmps.getD t undef)
 base:∀p∈bs,η p.1=p.2
 own:∃Y:List (Nat×Ao),(keys Y).Nodup/\SH w H (Y.map (·.2)++Of.O)/\(∀k∈keys Y,k<st.nk)/\∀k sr,Ai CR st.O k=some sr->C4 C η H Y k sr
structure WF(C:List (SV N.T))(CR:List (SR N.T))(bs:List (Nat×Value))(st:St N.T):Prop where
 lo:∀p∈bs,p.1<st.nk
 ok:∀j,st.nk<=j->An st.O j=none
 wf:∃τ,KP (Ai CR st.O) (Bx C st.L) τ
 mC:∀k∈Co C,k<st.nk
 cP:∀s∈C,NS s=true
variable {C : List (SV N.T)} {CR : List (SR N.T)} {n : Nat} {Of : Fm} {bs : List (Nat × Value)} {st : St N.T} {η : Nat -> Value} {H : Hp} {a : Act} {w : World}
theorem Sat.lk(h:Sat C CR n Of bs st η H a w)(t:Nat):(Bx C st.L t).is C η H (a.tmps.getD t undef):=by
 unfold Bx
 split
 ·rename_i s hs;exact DN (h.A6 t s hs)
 ·trivial
theorem Sat.ev(h:Sat C CR n Of bs st η H a w)(x:Operand):(Ap (Bx C st.L) x).is C η H (a.eval x):=Vy fun t e=>h.lk t
theorem CU{α β:Type}(f:α->β)(l:List (Nat×α))(k:Nat):An (l.map fun p=>(p.1,f p.2)) k=(An l k).map f:=by
 induction l with
 |nil=>rfl
 |cons p l ih=>
  obtain⟨q,y⟩:=p
  simp only[List.map_cons,An]
  split
  ·rfl
  ·exact ih
def VU{T:Nat->Type}(ks:List Nat):SV T->SV T
 | .Di k i off t x=>match Bw ks k with
  |true=> .no
  |false=> .Di k i off t x
 |s=>s
theorem MV(ks:List Nat)(L:List (Nat×SV N.T))(t:Nat):An (W4 ks L) t=(An L t).map (VU ks):=by
 unfold W4
 split
 ·have:VU (T:=N.T) []=id:=by
   funext s
   cases s<;>rfl
  rw[this,Option.map_id];rfl
 ·rw[<-CU];rfl
theorem MW{ks:List Nat}{s:SV N.T}{v:Value}(h:s.is C η H v):(VU ks s).is C η H v:=by
 unfold VU
 split
 ·split
  ·trivial
  ·exact h
 ·exact h
theorem FY{a:Act}{d t:Nat}{v:Value}(hd:d<a.tmps.size):(a.put (some d) v).tmps.getD t undef=match Nat.beq d t with|true=>v|false=>a.tmps.getD t undef:=by
 simp only[Act.put]
 cases hb:Nat.beq d t with
 |true=>
  have:=Nat.eq_of_beq_eq_true hb;subst this
  simp[hd]
 |false=>
  have ne:=Nat.ne_of_beq_eq_false hb
  simp only[Array.getD_eq_getD_getElem?]
  rw[Array.getElem?_setIfInBounds_ne ne]
theorem Da{k:Nat}{sr:SR N.T}(h:Ai CR st.O k=some sr){b:Nat}(hf:Cp CR st b=true):∀j∈sr.Ay,j<b:=by
 unfold Ai at h
 split at h
 ·rename_i s hs
  cases h
  unfold Cp at hf
  rw[Bool.and_eq_true]at hf
  have h1:=List.all_eq_true.1 (List.all_eq_true.1 hf.2 _ (AQ hs))
  exact fun j hj=>by simpa using h1 j hj
 ·cases h
theorem Fq(wr O:List (Nat×SR N.T))(hn:∀p∈wr,Ck CR p.2=p.2)(k:Nat):Ai CR (wr++O) k=Mn wr (Ai CR O) k:=by
 unfold Ai Mn
 rw[Bq]
 cases h:An wr k with
 |none=>rfl
 |some s=>simp only;rw[hn _ (AQ h)]
def Lr{T:Nat->Type} :SR T->Bool
 | .BO _=>false
 |_=>true
theorem E0{s:SR N.T}(h:Lr s=true):Ck CR s=s:=by cases s<;>first|rfl|cases h
def du{T:Nat->Type}(CR:List (SR T))(st:St T)(p:Nat×SR T):Bool:=match p.2 with
 | .gone=>(Ai CR st.O p.1).isSome||Nat.ble st.nk p.1
 |_=>true
def ou{T:Nat->Type}(CR:List (SR T))(st:St T)(s:A_ T):Bool:=s.wr.all fun p=>match p.2 with
 | .gone=>(Ai CR st.O p.1).isSome
 |_=>true
def NU{T:Nat->Type} :SV T->Bool
 | .BO _=>false
 |_=>true
def Fo(CR:List (SR N.T))(n:Nat)(st:St N.T)(d:Option Nat)(s:A_ N.T)(nk:Nat):Bool:=(La n d&&NU s.sv)&&((s.wr.all fun p=>Lr p.2&&du CR st p)&&(match Nat.beq st.nk nk with
 |true=>true
 |false=>Cp CR st st.nk))
structure It(C:List (SV N.T))(CR:List (SR N.T))(n:Nat)(st:St N.T)(d:Option Nat)(s:A_ N.T)(nk:Nat)(P:Program)(o:Oper):Prop where
 b:Fo CR n st d s nk=true
 loc:Al P C (Bx C st.L) (Ai CR st.O) o s
 le:st.nk<=nk
 new:∀j∈keys s.wr,Ai CR st.O j=none->st.nk<=j/\j<nk
 wf:∀τ,KP (Ai CR st.O) (Bx C st.L) τ->CD τ (Mn s.wr (Ai CR st.O)) s.sv
structure L5(C:List (SV N.T))(CR:List (SR N.T))(n:Nat)(st:St N.T)(d:Option Nat)(s:A_ N.T)(nk:Nat):Prop where
 b:Fo CR n st d s nk=true
 le:st.nk<=nk
 new:∀j∈keys s.wr,Ai CR st.O j=none->st.nk<=j/\j<nk
 wf:∀τ,KP (Ai CR st.O) (Bx C st.L) τ->CD τ (Mn s.wr (Ai CR st.O)) s.sv
theorem It.yQ{P:Program}{o:Oper}{d:Option Nat}{s:A_ N.T}{nk:Nat}(hs:It C CR n st d s nk P o):L5 C CR n st d s nk:=⟨hs.b,hs.le,hs.new,hs.wf⟩
theorem WF.Qn{d:Option Nat}{s:A_ N.T}{nk:Nat}(hw:WF C CR bs st)(hs:L5 C CR n st d s nk):WF C CR bs (app st d s nk):=by
 have hb:=hs.b
 unfold Fo at hb
 simp only[Bool.and_eq_true]at hb
 have hnc:∀p∈s.wr,Ck CR p.2=p.2:=fun p hp=>E0 (Bool.and_eq_true _ _▸List.all_eq_true.1 hb.2.1 p hp).1
 refine⟨fun p hp=>Nat.lt_of_lt_of_le (hw.lo p hp) hs.le,fun j hj=>?_,?_,fun k hk=>Nat.lt_of_lt_of_le (hw.mC k hk) hs.le,hw.cP⟩
 ·show An (s.wr++st.O) j=none
  have hj:nk<=j:=hj
  have h0:=hw.ok j (Nat.le_trans hs.le hj)
  rw[Bq,h0]
  cases h:An s.wr j with
  |none=>rfl
  |some x=>
   have:=(hs.new j (Ce h) (by unfold Ai;rw[h0])).2
   omega
 ·obtain⟨
      τ,hτ⟩:=hw.wf
  refine⟨τ,fun t=>?_⟩
  have hR:Ai CR (app st d s nk).O=Mn s.wr (Ai CR st.O):=funext fun k=>Fq _ _ hnc k
  rw[hR]
  have Ea:CD τ (Mn s.wr (Ai CR st.O)) (Bx C (W4 (keys s.wr) st.L) t):=by
   have h1:=hτ t
   unfold Bx at h1⊢
   rw[MV]
   cases hl:An st.L t with
   |none=>trivial
   |some x=>
    rw[hl]at h1
    simp only[Option.map_some]at h1⊢
    have key:∀y:SV N.T,CD τ (Ai CR st.O) y->(∀k i off t x,y= .Di k i off t x->k∉keys s.wr)->CD τ (Mn s.wr (Ai CR st.O)) y:=by
     intro y hy hk
     cases y with
     |Di k i off t x=>
      intro g t' l hl'
      have hk:=hk k i off t x rfl
      unfold Mn at hl'
      rw[BV hk]at hl'
      exact hy g t' l hl'
     |_=>exact hy
    unfold VU
    split
    ·rename_i k i off t x
     split
     ·trivial
     ·rename_i hm
      exact key _ h1 fun k' _ _ _ _ e=>by cases e;intro hk;rw[AB.2 hk]at hm;cases hm
    ·rename_i hx
     refine key _ h1 fun k' i' off' t' x' e=>?_
     unfold res at e
     split at e
     ·rename_i j
      rw[List.getD_eq_getElem?_getD]at e
      cases hc:C[j]? with
      |none=>rw[hc]at e;cases e
      |some s0=>
       rw[hc]at e
       have:=hw.cP s0 (List.mem_of_getElem? hc)
       have e:s0=_:=e
       subst e;cases this
     ·exact absurd e (hx _ _ _ _ _)
  unfold app NK
  cases d with
  |none=>exact Ea
  |some d=>
   show CD τ _ (Bx C ((d,s.sv)::W4 (keys s.wr) st.L) t)
   unfold Bx
   simp only[An]
   cases hb2:Nat.beq d t with
   |false=>exact Ea
   |true=>
    have hc:=hb.1.2
    have:res C s.sv=s.sv:=by
     cases hsv:s.sv<;>first|rfl|(rw[hsv]at hc;cases hc)
    simp only
    rw[this]
    exact hs.wf τ hτ
theorem WF.step{P:Program}{o:Oper}{d:Option Nat}{s:A_ N.T}{nk:Nat}(hw:WF C CR bs st)(hs:It C CR n st d s nk P o):WF C CR bs (app st d s nk):=hw.Qn hs.yQ
theorem Sat.bf{d:Option Nat}{s:A_ N.T}{nk:Nat}(h:Sat C CR n Of bs st η H a w)(hw:WF C CR bs st)(hs:L5 C CR n st d s nk){goal:Prop}{K:Value->World->Fm->Hp->Prop}
  (run:∀Y:List (Nat×Ao),(keys Y).Nodup->SH w H (Y.map (·.2)++Of.O)->(∀k,(k∈s.rd\/k∈keys s.wr)->∀sr,Ai CR st.O k=some sr->C4 C η H Y k sr)->(∀k∈keys s.wr,Ai CR st.O k=none->k∉keys Y)->
   (∀(v:Value) (w':World) (H':Hp) (η':Nat->Value) (Y':List (Nat×Ao)) (Of':Fm),Of'.ds=Of.ds->H.le H'->(∀k,(Ai CR st.O k=none->k∉keys s.wr)->η' k=η k)->(∀k,k∉keys s.wr->An Y' k=An Y k)->
    (∀k sr,An s.wr k=some sr->C4 C η' H' Y' k sr)->(keys Y').Nodup->(∀k∈keys Y',k∈keys Y\/k∈keys s.wr)->SH w' H' (Y'.map (·.2)++Of'.O)->s.sv.is C η' H' v->K v w' Of' H')->goal)
  (hK:∀η' H' v w' Of',H.le H'->Sat C CR n Of' bs (app st d s nk) η' H' (a.put d v) w'->K v w' Of' H'):goal:=by
 obtain⟨Y,hn,hsh,hlt,hres⟩:=h.own
 have hb:=hs.b
 unfold Fo at hb
 simp only[Bool.and_eq_true]at hb
 have hnc:∀p∈s.wr,Ck CR p.2=p.2:=fun p hp=>E0 (Bool.and_eq_true _ _▸List.all_eq_true.1 hb.2.1 p hp).1
 have none_lt:∀k,Ai CR st.O k=none->k∈keys s.wr->k∉keys Y:=fun k hk hm hY=>by
  have h1:=(hs.new k hm hk).1
  have h2:=hlt k hY
  omega
 refine run Y hn hsh (fun k _ sr hsr=>hres k sr hsr) (fun k hm hk=>none_lt k hk hm) fun v w' H' η' Y' Of' hds hle hη hY hwr hn' hY' hsh' hsv=>?_
 have Ea:∀k,k<st.nk->η' k=η k:=fun k hk=>hη k fun hnone hm=>by have:=(hs.new k hm hnone).1;omega
 have fresh:(∀k,η' k=η k)\/Cp CR st st.nk=true:=by
  have h1:=hb.2.2
  split at h1
  ·rename_i he
   have e:st.nk=nk:=Nat.eq_of_beq_eq_true he
   exact .inl fun k=>hη k fun hnone hm=>by have:=hs.new k hm hnone;omega
  ·exact .inr h1
 have mC:∀k∈Co C,η' k=η k:=fun k hk=>Ea k (hw.mC k hk)
 have mS:∀t sv,An st.L t=some sv->∀k∈sv.Ay,η' k=η k:=fun t sv ht k hk=>by
  rcases fresh with h1|h1
  ·exact h1 k
  ·refine Ea k ?_
   unfold Cp at h1
   rw[Bool.and_eq_true]at h1
   have:=List.all_eq_true.1 (List.all_eq_true.1 h1.1 _ (AQ ht)) k hk
   simpa using this
 have mR:∀k sr,Ai CR st.O k=some sr->∀j∈sr.Ay,η' j=η j:=fun k sr hk j hj=>by
  rcases fresh with h1|h1
  ·exact h1 j
  ·exact Ea j (Da hk h1 j hj)
 have oldR:∀k sr,k∉keys s.wr->Ai CR st.O k=some sr->C4 C η' H' Y' k sr:=fun k sr hk hsr=>by
  rcases hres k sr hsr with e|⟨x,g1,g2⟩
  ·exact .inl e
  ·refine .inr ⟨x,by rw[hY k hk];exact g1,(SR.is.env ?_ mC (mR k sr hsr) g2).mono hle⟩
   exact hη k fun _ hm=>absurd hm hk
 refine hK η' H' v w' Of' hle ⟨N.BW hle h.inv,?_,?_,fun t sv ht=>?_,fun p hp=>?_,Y',hn',hsh',fun k hk=>?_,fun k sr hk=>?_⟩
 ·rw[hds];cases d<;>exact h.defers
 ·cases d<;>simp[Act.put,h.size]
 ·have slot:∀ {t sv},An (W4 (keys s.wr) st.L) t=some sv->sv.is C η' H' (a.tmps.getD t undef):=fun{t sv} ht=>by
   rw[MV]at ht
   obtain⟨x,hx,rfl⟩:=Option.map_eq_some_iff.1 ht
   exact MW (((h.A6 t x hx).env mC (mS t x hx)).mono hle)
  have hd:=hb.1.1
  cases hdo:d with
  |none=>
   rw[hdo]at ht
   exact slot ht
  |some d=>
   rw[hdo]at ht hd
   have hd:d<n:=by simpa [La]using hd
   have ht:An ((d,s.sv)::W4 (keys s.wr) st.L) t=some sv:=ht
   rw[FY (by rw[h.size];exact hd)]
   simp only[An]at ht
   cases hb2:Nat.beq d t with
   |true=>rw[hb2]at ht;cases ht;exact hsv
   |false=>rw[hb2]at ht;exact slot ht
 ·rw[Ea p.1 (hw.lo p hp)];exact h.base p hp
 ·rcases hY' k hk with hk|hk
  ·exact Nat.lt_of_lt_of_le (hlt k hk) hs.le
  ·show k<nk
   cases hr:Ai CR st.O k with
   |none=>exact(hs.new k hk hr).2
   |some x=>
    have hlk:An st.O k≠none:=fun e=>by unfold Ai at hr;rw[e]at hr;cases hr
    have:k<st.nk:=Nat.lt_of_not_le fun hle=>hlk (hw.ok k hle)
    exact Nat.lt_of_lt_of_le this hs.le
 ·have e:Ai CR (app st d s nk).O k=Mn s.wr (Ai CR st.O) k:=Fq _ _ hnc k
  rw[e]at hk
  unfold Mn at hk
  cases hl:An s.wr k with
  |some x=>rw[hl]at hk;cases hk;exact hwr k _ hl
  |none=>
   rw[hl]at hk
   refine oldR k sr (fun hm=>?_) hk
   obtain⟨x,hx⟩:=CI hm
   rw[hx]at hl;cases hl
theorem Sat.stepG{d:Option Nat}{s:A_ N.T}{nk:Nat}(h:Sat C CR n Of bs st η H a w)(hw:WF C CR bs st)(hs:L5 C CR n st d s nk){goal:Prop}{K:Value->World->Prop}
  (run:∀Y:List (Nat×Ao),(keys Y).Nodup->SH w H (Y.map (·.2)++Of.O)->(∀k,(k∈s.rd\/k∈keys s.wr)->∀sr,Ai CR st.O k=some sr->C4 C η H Y k sr)->(∀k∈keys s.wr,Ai CR st.O k=none->k∉keys Y)->
   (∀(v:Value) (w':World) (H':Hp) (η':Nat->Value) (Y':List (Nat×Ao)),H.le H'->(∀k,(Ai CR st.O k=none->k∉keys s.wr)->η' k=η k)->(∀k,k∉keys s.wr->An Y' k=An Y k)->
    (∀k sr,An s.wr k=some sr->C4 C η' H' Y' k sr)->(keys Y').Nodup->(∀k∈keys Y',k∈keys Y\/k∈keys s.wr)->SH w' H' (Y'.map (·.2)++Of.O)->s.sv.is C η' H' v->K v w')->goal)
  (hK:∀η' H' v w',H.le H'->Sat C CR n Of bs (app st d s nk) η' H' (a.put d v) w'->K v w'):goal:=
 h.bf (K:=fun v w' Of' H'=>Of'=Of->K v w') hw hs (fun Y h1 h2 h3 h4 h5=>run Y h1 h2 h3 h4 fun v w' H' η' Y' g1 g2 g3 g4 g5 g6 g7 g8=>h5 v w' H' η' Y' Of rfl g1 g2 g3 g4 g5 g6 g7 g8 rfl) fun η' H' v w' Of' hl hs e=>by subst e;exact hK η' H' v w' hl hs
theorem Sat.step{P:Program}{o:Oper}{s:A_ N.T}{nk:Nat}(h:Sat C CR n Of bs st η H a w)(hw:WF C CR bs st)(hs:It C CR n st o.dst s nk P o){K:Act->World->Prop}{Q:Exit->Act->World->Prop}
  (hK:∀η' H' a' w',H.le H'->Sat C CR n Of bs (app st o.dst s nk) η' H' a' w'->K a' w'):o.wp P a w K Q:=by
 refine h.stepG hw hs.yQ (K:=fun v w'=>K (a.put o.dst v) w') (fun Y hn hsh hr hf hk=>hs.loc η H Of.O a w Y hn hsh h.inv (fun x _=>h.ev x) hr hf K Q hk) fun η' H' v w' hle hsat=>hK η' H' _ w' hle hsat
end
end Go.GV
namespace Go.GV
open Go Go.GK
def V4{T:Nat->Type}(i:Nat):SV T->SV T
 | .ct j n=>match Nat.beq i j with
  |true=> .cb j n
  |false=> .ct j n
 |s=>s
def below{T:Nat->Type}(i:Nat)(st:St T):St T:=⟨st.L.map fun p=>(p.1,V4 i p.2),st.O,st.nk⟩
def HU{T:Nat->Type}(t:Nat)(s:SV T)(st:St T):St T:=⟨(t,s)::st.L,st.O,st.nk⟩
section
variable {N : Cw} {R : Type}
def oS(s:SV N.T)(st:St N.T)(kt kf:St N.T->Option R):Option R:=match s with
 | .lb b=>cond b (kt st) (kf st)
 | .lt i n m=>bif decide ((n:Int)<(m:Int))then kt (below i st)else kf st
 | .d .bool b=>bif b then kt st else kf st
 |_=>none
variable {C : List (SV N.T)} {CR : List (SR N.T)} {n : Nat} {Of : Fm} {bs : List (Nat × Value)} {st : St N.T} {η : Nat -> Value} {H : Hp} {a : Act} {w : World}
theorem V3(i:Nat)(st:St N.T)(t:Nat):An (below i st).L t=(An st.L t).map (V4 i):=by
 unfold below;exact CU _ _ _
theorem Sat.EZ(h:Sat C CR n Of bs st η H a w){L:List (Nat×SV N.T)}(hL:∀t sv,An L t=some sv->sv.is C η H (a.tmps.getD t undef)):Sat C CR n Of bs ⟨L,st.O,st.nk⟩ η H a w:=
 ⟨h.inv,h.defers,h.size,hL,h.base,h.own⟩
theorem WF.EZ(h:WF C CR bs st){L:List (Nat×SV N.T)}(hL:∀τ,KP (Ai CR st.O) (Bx C st.L) τ->KP (Ai CR st.O) (Bx C L) τ):WF C CR bs ⟨L,st.O,st.nk⟩:=by
 obtain⟨τ,hτ⟩:=h.wf
 exact⟨h.lo,h.ok,⟨τ,hL τ hτ⟩,h.mC,h.cP⟩
theorem EO{i k:Nat}{m:Nat}(h:Sat C CR n Of bs st η H a w)(hw:WF C CR bs st){t:Nat}(ht:Bx C st.L t= .lt i k m)(hlt:(k:Int)<(m:Int)):Sat C CR n Of bs (below i st) η H a w/\WF C CR bs (below i st):=by
 have hm:m<=JG:=by have:=h.lk t;rw[ht]at this;exact this.2
 obtain⟨τ,hτ⟩:=hw.wf
 have hk:τ i=k:=by have:=hτ t;rw[ht]at this;exact this
 refine⟨h.EZ fun q sv hq=>?_,⟨hw.lo,hw.ok,⟨τ,fun q=>?_⟩,hw.mC,hw.cP⟩⟩
 ·rw[CU (V4 i)]at hq
  obtain⟨x,hx,rfl⟩:=Option.map_eq_some_iff.1 hq
  have h1:=h.A6 q x hx
  unfold V4
  split
  ·rename_i j n'
   split
   ·rename_i hb
    have:=Nat.eq_of_beq_eq_true hb;subst this
    have h2:=hτ q
    unfold Bx at h2
    rw[hx]at h2
    have h2:τ i=n':=h2
    refine⟨h1.1,?_⟩
    have:n'=k:=by omega
    subst this
    exact Nat.lt_of_lt_of_le (by omega) hm
   ·exact h1
  ·exact h1
 ·show CD τ (Ai CR st.O) (Bx C (below i st).L q)
  have h2:=hτ q
  unfold Bx at h2⊢
  rw[V3]
  cases hx:An st.L q with
  |none=>trivial
  |some x=>
   rw[hx]at h2
   simp only[Option.map_some]at h2⊢
   unfold V4
   split
   ·split
    ·exact h2
    ·exact h2
   ·exact h2
theorem Mj{t:Nat}{s:SV N.T}(h:Sat C CR n Of bs st η H a w)(hw:WF C CR bs st)(hs:s.is C η H (a.tmps.getD t undef))(hp:DO s=true)(hc:NU s=true):Sat C CR n Of bs (HU t s st) η H a w/\WF C CR bs (HU t s st):=by
 refine⟨h.EZ fun q sv hq=>?_,hw.EZ fun τ hτ q=>?_⟩
 ·simp only[An]at hq
  split at hq
  ·rename_i hb;have:=Nat.eq_of_beq_eq_true hb;subst this;cases hq;exact hs
  ·exact h.A6 q sv hq
 ·have h2:=hτ q
  unfold Bx at h2⊢
  simp only[An]
  cases hb:Nat.beq t q with
  |true=>
   simp only
   have:res C s=s:=by cases s<;>first|rfl|cases hc
   rw[this];exact CT hp
  |false=>exact h2
theorem PT{t:Nat}{kt kf:St N.T->Option R}{r:R}(h:Sat C CR n Of bs st η H a w)(hw:WF C CR bs st)(hd:oS (Bx C st.L t) st kt kf=some r):
  ∃b st',a.tmps.getD t undef= .bool b/\Sat C CR n Of bs st' η H a w/\WF C CR bs st'/\(if b=true then kt st'=some r else kf st'=some r):=by
 have hl:=h.lk t
 unfold oS at hd
 split at hd
 ·rename_i b e
  rw[e]at hl
  cases b with
  |true=>exact⟨true,st,hl,h,hw,hd⟩
  |false=>exact⟨false,st,hl,h,hw,hd⟩
 ·rename_i i k m e
  rw[e]at hl
  cases hb:decide ((k:Int)<(m:Int))with
  |true=>
   obtain⟨h1,h2⟩:=EO h hw e (of_decide_eq_true hb)
   rw[hb]at hd
   exact⟨true,below i st,by rw[hl.1,hb],h1,h2,hd⟩
  |false=>
   rw[hb]at hd
   exact⟨false,st,by rw[hl.1,hb],h,hw,hd⟩
 ·rename_i b e
  rw[e]at hl
  refine⟨b,st,MZ hl,h,hw,?_⟩
  have hd:(cond b (kt st) (kf st))=some r:=hd
  cases b with
  |true=>exact hd
  |false=>exact hd
 ·cases hd
def TW(P:Program)(Φ:Nat->Option (CQ N))(C:List (SV N.T))(CR:List (SR N.T))(n:Nat)(o:Oper)(st:St N.T)(kn:St N.T->Option R):Option R:=
 nK P Φ C 4 (Bx C st.L) (Ai CR st.O) st.nk o.op o.type fun s nk=>match Fo CR n st o.dst s nk with
  |true=>kn (app st o.dst s nk)
  |false=>none
theorem Nw{P:Program} [Bn N P]{Φ:Nat->Option (CQ N)}(hΦ:∀f q,Φ f=some q->A7 P f q){o:Oper}{kn:St N.T->Option R}{r:R}(h:Sat C CR n Of bs st η H a w)(hw:WF C CR bs st)(hd:TW P Φ C CR n o st kn=some r){K:Act->World->Prop}{Q:Exit->Act->World->Prop}
  (hK:∀st' η' H' a' w',H.le H'->Sat C CR n Of bs st' η' H' a' w'->WF C CR bs st'->kn st'=some r->K a' w'):o.wp P a w K Q:=by
 have hf:∀j,st.nk<=j->Ai CR st.O j=none:=fun j hj=>by unfold Ai;rw[hw.ok j hj]
 obtain⟨s,nk,h1,h2,h3,h4,h5⟩:=Po (o:=o) hΦ hw.mC 4 hf hw.wf hd
 split at h1
 ·rename_i hb
  have hs:It C CR n st o.dst s nk P o:=⟨hb,h2,h3,h4,h5⟩
  exact h.step hw hs fun η' H' a' w' hle hsat=>hK _ η' H' a' w' hle hsat (hw.step hs) h1
 ·cases h1
def Gq(n:Nat)(d:Option Nat)(st:St N.T)(kn:St N.T->Option R):Option R:=match d with
 |none=>kn st
 |some d=>match Nat.blt d n with
  |true=>kn (HU d .ud st)
  |false=>none
theorem NC{d:Option Nat}{kn:St N.T->Option R}{r:R}(h:Sat C CR n Of bs st η H a w)(hw:WF C CR bs st)(hd:Gq n d st kn=some r):∃st',Sat C CR n Of bs st' η H (a.put d undef) w/\WF C CR bs st'/\kn st'=some r:=by
 unfold Gq at hd
 split at hd
 ·exact⟨st,h,hw,hd⟩
 ·rename_i d
  split at hd
  ·rename_i hb
   have hlt:d<n:=by simpa using hb
   refine⟨_,?_,?_,hd⟩
   ·refine⟨h.inv,h.defers,by simp[Act.put,h.size],fun q sv hq=>?_,h.base,h.own⟩
    have hq:An ((d,SV.ud)::st.L) q=some sv:=hq
    rw[FY (by rw[h.size];exact hlt)]
    simp only[An]at hq
    cases hb2:Nat.beq d q with
    |true=>rw[hb2]at hq;cases hq;rfl
    |false=>rw[hb2]at hq;exact h.A6 q sv hq
   ·refine hw.EZ fun τ hτ q=>?_
    have h2:=hτ q
    unfold Bx at h2⊢
    simp only[An]
    cases hb:Nat.beq d q with
    |true=>trivial
    |false=>exact h2
  ·cases hd
theorem GD{ops:Array Oper}{a:Act}{j:Nat}{t:Tmp}(hj:Bb ops j=some t)(hv:a.tmps.getD t undef=undef):yielded ops a.tmps j=none:=by
 unfold Bb at hj
 unfold yielded
 rw[hj]
 simp only[Option.bind_some]
 rw[Array.getD_eq_getD_getElem?]at hv
 cases h:a.tmps[t]? with
 |none=>simp
 |some u=>rw[h]at hv;simp at hv;subst hv;simp[undef]
end
end Go.GV
namespace Go.GV
open Go Go.GK
inductive TS(T:Nat->Type)where
 |run (s:A_ T)
 |skip
def TS.sv{T:Nat->Type} :TS T->SV T
 | .run s=>s.sv
 | .skip=> .ud
def TS.rd{T:Nat->Type} :TS T->List Nat
 | .run s=>s.rd
 | .skip=>[]
def TS.wr{T:Nat->Type} :TS T->List (Nat×SR T)
 | .run s=>s.wr
 | .skip=>[]
def TS.Ay{T:Nat->Type}(t:TS T):List Nat:=t.sv.Ay++t.wr.flatMap fun p=>p.2.Ay
def E8(A B:List Nat):Bool:=A.any fun k=>Bw B k
theorem NW{A B:List Nat}(h:E8 A B=false){k:Nat}(ha:k∈A)(hb:k∈B):False:=by
 have:E8 A B=true:=List.any_eq_true.2 ⟨k,ha,AB.2 hb⟩
 rw[this]at h;cases h
section
variable {T : Nat -> Type}
def I3(ops:Array Oper)(x y:Oper)(s t:TS T):Bool:=meets ops x y||(E8 (keys s.wr) (t.rd++keys t.wr)||E8 s.rd (keys t.wr))
def nU(nk:Nat)(seen:List Nat)(wr:List (Nat×SR T)):List Nat:=(keys wr).filter fun k=>Nat.ble nk k&& !Bw seen k
def J7(ops:Array Oper)(nk:Nat)(A:Nat)(o:Oper)(t:TS T)(j:Nat):Nat->List Nat->List Oper->List (TS T)->Bool
 |_,_,[],[]=>true
 |i,seen,x::xs,s::ss=>(A.testBit i||(Nat.beq i j||((!Nat.blt i j|| !I3 ops x o s t)&& !E8 (nU nk seen s.wr) t.Ay)))&&J7 ops nk A o t j (i+1) (keys s.wr++seen) xs ss
 |_,_,_,_=>false
def Nr(ops:Array Oper)(l:List Oper)(tr:List (TS T))(nk:Nat):Nat->List Nat->List Oper->List (TS T)->Bool
 |_,[],[],[]=>true
 |j,A::As,o::os,t::ts=>J7 ops nk A o t j 0 [] l tr&&Nr ops l tr nk (j+1) As os ts
 |_,_,_,_=>false
def Sg(l:List Oper)(tr:List (TS T))(nk:Nat):Bool:=E' 0 l&&Nr l.toArray l tr nk 0 (HE [] l) l tr
theorem J6{ops:Array Oper}{nk A:Nat}{o:Oper}{t:TS T}{j:Nat} :∀ {i:Nat} {seen:List Nat} {xs:List Oper} {ss:List (TS T)},J7 ops nk A o t j i seen xs ss=true->xs.length=ss.length/\∀q x s,xs[q]?=some x->ss[q]?=some s->
  A.testBit (i+q)=true\/i+q=j\/((i+q<j->I3 ops x o s t=false)/\∀k∈keys s.wr,nk<=k->k∉seen->(∀q' s',q'<q->ss[q']?=some s'->k∉keys s'.wr)->k∉t.Ay)
 |_,_,[],[],_=>⟨rfl,fun q x s h=>by simp at h⟩
 |_,_,[],_::_,h=>by simp[J7]at h
 |_,_,_::_,[],h=>by simp[J7]at h
 |i,seen,y::xs,u::ss,h=>by
  simp only[J7,Bool.and_eq_true]at h
  obtain⟨h1,h2⟩:=h
  obtain⟨k1,k2⟩:=J6 h2
  refine⟨by simp[k1],fun q x s hx hs=>?_⟩
  cases q with
  |zero=>
   simp at hx hs;subst hx;subst hs
   rw[Bool.or_eq_true,Bool.or_eq_true,Bool.and_eq_true]at h1
   rcases h1 with h1|h1|⟨h1,h3⟩
   ·exact .inl h1
   ·exact .inr (.inl (Nat.eq_of_beq_eq_true h1))
   ·refine .inr (.inr ⟨fun hlt=>?_,fun k hk hle hse _ hm=>?_⟩)
    ·rw[Bool.or_eq_true]at h1
     rcases h1 with h1|h1
     ·have:Nat.blt i j=true:=by simpa using hlt
      rw[this]at h1;cases h1
     ·simpa using h1
    ·have h3:E8 (nU nk seen u.wr) t.Ay=false:=by simpa using h3
     refine NW h3 (List.mem_filter.2 ⟨hk,?_⟩) hm
     rw[Bool.and_eq_true]
     refine⟨Nat.ble_eq_true_of_le hle,?_⟩
     cases hb:Bw seen k with
     |true=>exact absurd (AB.1 hb) hse
     |false=>rfl
  |succ q=>
   have:=k2 q x s (by simpa using hx) (by simpa using hs)
   rw[show i+1+q=i+(q+1) by omega]at this
   refine this.imp id fun e=>e.imp id fun⟨e1,e2⟩=>⟨e1,fun k hk hle hse hq=>e2 k hk hle (fun hm=>?_) fun q' s' hlt hs'=>hq (q'+1) s' (by omega) (by simpa using hs')⟩
   rcases List.mem_append.1 hm with hm|hm
   ·exact hq 0 u (by omega) rf hm
   ·exact hse hm
theorem Ll{ops:Array Oper}{l:List Oper}{tr:List (TS T)}{nk:Nat} :∀ {j:Nat} {As:List Nat} {os:List Oper} {ts:List (TS T)},Nr ops l tr nk j As os ts=true->os.length=ts.length/\As.length=os.length/\∀q o t,os[q]?=some o->ts[q]?=some t->J7 ops nk (As.getD q 0) o t (j+q) 0 [] l tr=true
 |_,[],[],[],_=>⟨rfl,rfl,fun q o t h=>by simp at h⟩
 |j,A::As,o::os,t::ts,h=>by
  simp only[Nr,Bool.and_eq_true]at h
  obtain⟨k1,k2,k3⟩:=Ll h.2
  refine⟨by simp[k1],by simp[k2],fun q o' t' ho ht=>?_⟩
  cases q with
  |zero=>simp at ho ht;subst ho;subst ht;exact h.1
  |succ q=>
   have:=k3 q o' t' (by simpa using ho) (by simpa using ht)
   rwa [show j+1+q=j+(q+1) by omega]at this
 |_,[],[],_::_,h=>by simp[Nr]at h
 |_,[],_::_,_,h=>by simp[Nr]at h
 |_,_::_,[],_,h=>by simp[Nr]at h
 |_,_::_,_::_,[],h=>by simp[Nr]at h
theorem HR{l:List Oper}{tr:List (TS T)}{nk:Nat}(h:Sg l tr nk=true):E' 0 l=true/\tr.length=l.length/\∀i j x o s t,l[i]?=some x->l[j]?=some o->tr[i]?=some s->tr[j]?=some t->
  (PY l j).testBit i=true\/i=j\/((i<j->I3 l.toArray x o s t=false)/\∀k∈keys s.wr,nk<=k->(∀q' s',q'<i->tr[q']?=some s'->k∉keys s'.wr)->k∉t.Ay):=by
 unfold Sg at h
 rw[Bool.and_eq_true]at h
 obtain⟨h1,h2,h3⟩:=Ll h.2
 refine⟨h.1,h1.symm,fun i j x o s t hx ho hs ht=>?_⟩
 have:=h3 j o t ho ht
 rw[Nat.zero_add]at this
 have:=(J6 this).2 i x s hx hs
 rw[Nat.zero_add]at this
 exact this.imp id fun e=>e.imp id fun⟨e1,e2⟩=>⟨e1,fun k hk hle hq=>e2 k hk hle (by simp) hq⟩
end
section
variable {N : Cw} {l : List Oper} {tr : List (TS N.T)} {S0 : Nat -> SV N.T} {R0 : Nat -> Option (SR N.T)}
def BA(l:List Oper)(tr:List (TS N.T))(S0:Nat->SV N.T)(p:Nat->Bool)(t:Nat):Nat->SV N.T
 |0=>S0 t
 |j+1=>if p j=true/\(l[j]?).bind (·.dst)=some t then((tr[j]?).map TS.sv).getD .no else BA l tr S0 p t j
def BL(tr:List (TS N.T))(R0:Nat->Option (SR N.T))(p:Nat->Bool)(k:Nat):Nat->Option (SR N.T)
 |0=>R0 k
 |j+1=>if p j=true then match(tr[j]?).bind fun s=>An s.wr k with
   |some x=>some x
   |none=>BL tr R0 p k j
  else BL tr R0 p k j
theorem E5{p q:Nat->Bool}{t:Nat} :∀i,(∀j,j<i->(l[j]?).bind (·.dst)=some t->p j=q j)->BA l tr S0 p t i=BA l tr S0 q t i
 |0,_=>rfl
 |i+1,h=>by
  unfold BA
  rw[E5 i fun j hj=>h j (by omega)]
  by_cases ht:(l[i]?).bind (·.dst)=some t
  ·rw[h i (by omega) ht]
  ·simp[ht]
theorem FK{p:Nat->Bool}{t i:Nat} :∀k,i<=k->(∀j,i<=j->j<k->(l[j]?).bind (·.dst)=some t->p j=false)->BA l tr S0 p t k=BA l tr S0 p t i
 |0,h,_=>by
    have:i=0:=by omega
    subst this;rfl
 |k+1,h,hp=>by
  by_cases e:i=k+1
  ·subst e;rfl
  ·have hu:BA l tr S0 p t (k+1)=if p k=true/\(l[k]?).bind (·.dst)=some t then((tr[k]?).map TS.sv).getD .no else BA l tr S0 p t k:=rfl
   rw[hu,if_neg (fun⟨h1,h2⟩=>by have:=hp k (by omega) (by omega) h2;rw[this]at h1;cases h1)]
   exact FK k (by omega) fun j h1 h2 h3=>hp j h1 (by omega) h3
theorem DY{p q:Nat->Bool}{k:Nat} :∀i,(∀j,j<i->∀s,tr[j]?=some s->k∈keys s.wr->p j=q j)->BL tr R0 p k i=BL tr R0 q k i
 |0,_=>rfl
 |i+1,h=>by
  unfold BL
  rw[DY i fun j hj=>h j (by omega)]
  cases hl:(tr[i]?).bind fun s=>An s.wr k with
  |none=>simp
  |some x=>
   obtain⟨s,hs,hx⟩:=Option.bind_eq_some_iff.1 hl
   rw[h i (by omega) s hs (Ce hx)]
theorem FJ{p:Nat->Bool}{k i:Nat} :∀m,i<=m->(∀j,i<=j->j<m->∀s,tr[j]?=some s->k∈keys s.wr->p j=false)->BL tr R0 p k m=BL tr R0 p k i
 |0,h,_=>by
     have:i=0:=by omega
     subst this;rfl
 |m+1,h,hp=>by
  by_cases e:i=m+1
  ·subst e;rfl
  ·have ih:=FJ m (by omega:i<=m) fun j h1 h2 h3=>hp j h1 (by omega) h3
   rw[<-ih]
   have hu:BL tr R0 p k (m+1)=if p m=true then(match(tr[m]?).bind fun s=>An s.wr k with
    |some x=>some x
    |none=>BL tr R0 p k m)else BL tr R0 p k m:=rfl
   rw[hu]
   cases hl:(tr[m]?).bind fun s=>An s.wr k with
   |none=>simp
   |some x=>
    obtain⟨s,hs,hx⟩:=Option.bind_eq_some_iff.1 hl
    rw[hp m (by omega) (by omega) s hs (Ce hx)]
    simp
def KR(C:List (SV N.T))(ops:Array Oper)(o:Oper)(S:Nat->SV N.T):Prop:= ∀j w,o.guard=some (j,w)->∃t,Bb ops j=some t/\∀(η:Nat->Value) (H:Hp) v,(S t).is C η H v->v= .bool w
def Iu(C:List (SV N.T))(ops:Array Oper)(o:Oper)(S:Nat->SV N.T):Prop:= ∃j w t,o.guard=some (j,w)/\Bb ops j=some t/\∀(η:Nat->Value) (H:Hp) v,(S t).is C η H v->v=undef\/v= .bool (!w)
structure Wi(P:Program)(C:List (SV N.T))(ops:Array Oper)(n nk:Nat)(o:Oper)(s:TS N.T)(S:Nat->SV N.T)(R:Nat->Option (SR N.T)):Prop where
 dst:∀d,o.dst=some d->d<n
 new:∀k∈keys s.wr,R k=none->nk<=k/\An s.wr k≠some .gone
 run:∀st,s= .run st->KR C ops o S/\∃Sr:Nat->SV N.T,(∀t, .tmp t∈o.op.operands->∀(η:Nat->Value) (H:Hp) v,(S t).is C η H v->(Sr t).is C η H v)/\Al P C Sr R o st
 skip:s= .skip->Iu C ops o S
structure JV(C:List (SV N.T))(n:Nat)(Of:Fm)(bs:List (Nat×Value))(nk:Nat)(l:List Oper)(tr:List (TS N.T))(S0:Nat->SV N.T)(R0:Nat->Option (SR N.T))(H:Hp)(p:Nat->Bool)(a:Act)(w:World):Prop where
 ex:∃(η:Nat->Value) (H':Hp) (Y:List (Nat×Ao)),H.le H'/\a.defers=Of.ds/\a.tmps.size=n/\(∀t,(BA l tr S0 p t l.length).is C η H' (a.tmps.getD t undef))/\(∀q∈bs,η q.1=q.2)/\(keys Y).Nodup/\SH w H' (Y.map (·.2)++Of.O)/\
  (∀k∈keys Y,k<nk\/∃(j:Nat) (s:TS N.T),p j=true/\tr[j]?=some s/\k∈keys s.wr)/\∀k sr,BL tr R0 p k l.length=some sr->C4 C η H' Y k sr
theorem LR{k:Nat} :∀ {i:Nat},BL tr R0 (fun _=>true) k i=none->∀j s,j<i->tr[j]?=some s->k∉keys s.wr
 |0,_,j,s,hj,_=>by omega
 |i+1,h,j,s,hj,hs=>by
  unfold BL at h
  simp only[if_true]at h
  split at h
  ·cases h
  ·rename_i hn
   by_cases e:j=i
   ·subst e
    intro hk
    obtain⟨x,hx⟩:=CI hk
    rw[hs]at hn
    simp only[Option.bind_some,hx]at hn
    cases hn
   ·exact LR h j s (by omega) hs
theorem Oq{p:Nat->Bool}{t:Nat} :∀i,BA l tr S0 p t i=S0 t\/(∃j s,j<i/\p j=true/\tr[j]?=some s/\BA l tr S0 p t i=s.sv)\/BA l tr S0 p t i= .no
 |0=> .inl rfl
 |i+1=>by
  unfold BA
  split
  ·rename_i h
   cases ht:tr[i]? with
   |none=>exact .inr (.inr rfl)
   |some s=>exact .inr (.inl ⟨i,s,by omega,h.1,ht,rfl⟩)
  ·rcases Oq i with h|⟨j,s,h1,h2⟩|h
   ·exact .inl h
   ·exact .inr (.inl ⟨j,s,by omega,h2⟩)
   ·exact .inr (.inr h)
theorem Ky{p:Nat->Bool}{k:Nat}{x:SR N.T} :∀i,BL tr R0 p k i=some x->R0 k=some x\/∃j s,j<i/\p j=true/\tr[j]?=some s/\An s.wr k=some x
 |0,h=> .inl h
 |i+1,h=>by
  unfold BL at h
  split at h
  ·rename_i hp
   cases hl:(tr[i]?).bind fun s=>An s.wr k with
   |none=>
    rw[hl]at h
    rcases Ky i h with h|⟨j,s,h1,h2⟩
    ·exact .inl h
    ·exact .inr ⟨j,s,by omega,h2⟩
   |some y=>
    rw[hl]at h;cases h
    obtain⟨s,hs,hx⟩:=Option.bind_eq_some_iff.1 hl
    exact .inr ⟨i,s,by omega,hp,hs,hx⟩
  ·rcases Ky i h with h|⟨j,s,h1,h2⟩
   ·exact .inl h
   ·exact .inr ⟨j,s,by omega,h2⟩
theorem OJ{P:Program}{C:List (SV N.T)}{n nk:Nat}{Of:Fm}{bs:List (Nat×Value)}{Q:Exit->Act->World->Prop}{H:Hp}(hiv:N.inv H)
  (hOK:Sg l tr nk=true) (hC:∀k∈Co C,k<nk) (hS:∀t,∀k∈(S0 t).Ay,k<nk) (hR:∀k x,R0 k=some x->k<nk/\∀j∈x.Ay,j<nk) (hbs:∀q∈bs,q.1<nk)
  (hl:∀i o s,l[i]?=some o->tr[i]?=some s->Wi P C l.toArray n nk o s (fun t=>BA l tr S0 (fun _=>true) t i) (fun k=>BL tr R0 (fun _=>true) k i)):∀p a w i o,l[i]?=some o->p i=false->FT l p->(∀j,(PY l i).testBit j=true->p j=true)->(∀j oj,l[j]?=some oj->p j=true->∀m,(PY l j).testBit m=true->p m=true)->JV C n Of bs nk l tr S0 R0 H p a w->
   if Region.wanted o (yielded l.toArray a.tmps)then o.wp P a w (JV C n Of bs nk l tr S0 R0 H (G6 p i)) Q else JV C n Of bs nk l tr S0 R0 H (G6 p i) (a.put o.dst undef) w:=by
 obtain⟨hb,hlen,hpair⟩:=HR hOK
 have hTr:∀i o,l[i]?=some o->∃s,tr[i]?=some s:=fun i o ho=>by
  have:i<tr.length:=by rw[hlen];exact(List.getElem?_eq_some_iff.1 ho).1
  exact⟨tr[i],List.getElem?_eq_getElem this⟩
 have hLt:∀j s,tr[j]?=some s->∃o,l[j]?=some o:=fun j s hs=>by
  have:j<l.length:=by rw[<-hlen];exact(List.getElem?_eq_some_iff.1 hs).1
  exact⟨l[j],List.getElem?_eq_getElem this⟩
 intro p a w i o hli hpi hcl hanc hancs ⟨η,H',Y,h1,h2,h3,h4,h5,h6,h7,h8,h9⟩
 obtain⟨s,hsi⟩:=hTr i o hli
 have hloc:=hl i o s hli hsi
 have hlt:i<l.length:=(List.getElem?_eq_some_iff.1 hli).1
 have later:∀j oj sj,l[j]?=some oj->tr[j]?=some sj->i<j->I3 l.toArray o oj s sj=true->p j=false:=fun j oj sj hj hsj hij hc=>by
  cases hp:p j with
  |false=>rfl
  |true=>
   rcases hpair i j o oj s sj hli hj hsi hsj with e|e|e
   ·rw[hancs j oj hj hp i e]at hpi;cases hpi
   ·omega
   ·rw[e.1 hij]at hc;cases hc
 have earlier:∀j oj sj,l[j]?=some oj->tr[j]?=some sj->j<i->I3 l.toArray oj o sj s=true->p j=true:=fun j oj sj hj hsj hij hc=>by
  rcases hpair j i oj o sj s hj hli hsj hsi with e|e|e
  ·exact hanc j e
  ·omega
  ·rw[e.1 hij]at hc;cases hc
 have dstOf:∀(j t:Nat),(l[j]?).bind (fun x:Oper=>x.dst)=some t->∃oj sj,l[j]?=some oj/\tr[j]?=some sj/\oj.dst=some t:=fun j t h=>by
  cases hj:l[j]? with
  |none=>rw[hj]at h;cases h
  |some oj=>rw[hj]at h;obtain⟨sj,hsj⟩:=hTr j oj hj;exact⟨oj,sj,rfl,hsj,h⟩
 have slotC:∀t,t∈o.looksAt l.toArray->BA l tr S0 p t l.length=BA l tr S0 (fun _=>true) t i:=fun t ht=>by
  rw[FK (i:=i) l.length (by omega) (fun j hij hjk hd=>by
   by_cases hji:j=i
   ·subst hji;exact hpi
   ·obtain⟨oj,sj,hj,hsj,hdj⟩:=dstOf j t hd
    refine later j oj sj hj hsj (by omega) ?_
    unfold I3;simp only[meets,hdj,DP ht,Bool.or_true,Bool.true_or])]
  exact E5 i fun j hj hd=>by
   obtain⟨oj,sj,hj',hsj,hdj⟩:=dstOf j t hd
   refine earlier j oj sj hj' hsj hj ?_
   unfold I3;simp only[meets,hdj,DP ht,Bool.true_or]
 have resC:∀k,(k∈s.rd\/k∈keys s.wr)->BL tr R0 p k l.length=BL tr R0 (fun _=>true) k i:=fun k hk=>by
  rw[FJ (i:=i) l.length (by omega) (fun j hij hjk sj hsj hkj=>by
   by_cases hji:j=i
   ·subst hji;exact hpi
   ·obtain⟨oj,hj⟩:=hLt j sj hsj
    refine later j oj sj hj hsj (by omega) ?_
    unfold I3
    rcases hk with hk|hk
    ·have:E8 s.rd (keys sj.wr)=true:=List.any_eq_true.2 ⟨k,hk,AB.2 hkj⟩
     rw[this];simp
    ·have:E8 (keys s.wr) (sj.rd++keys sj.wr)=true:=List.any_eq_true.2 ⟨k,hk,AB.2 (List.mem_append.2 (.inr hkj))⟩
     rw[this];simp)]
  exact DY i fun j hj sj hsj hkj=>by
   obtain⟨oj,hj'⟩:=hLt j sj hsj
   refine earlier j oj sj hj' hsj hj ?_
   unfold I3
   have:E8 (keys sj.wr) (s.rd++keys s.wr)=true:=List.any_eq_true.2 ⟨k,hkj,AB.2 (List.mem_append.2 hk)⟩
   rw[this];simp
 have hup:∀j,j≠i->G6 p i j=p j:=fun j hj=>by simp[G6,hj]
 have hupi:G6 p i i=true:=by simp[G6]
 have lookT:∀t, .tmp t∈o.op.operands->t∈o.looksAt l.toArray:=fun t ht=>by
  unfold Oper.looksAt
  refine List.mem_append.2 (.inl (List.mem_filterMap.2 ⟨.tmp t,by simpa using ht,rf⟩))
 have lookG:∀j b t,o.guard=some (j,b)->Bb l.toArray j=some t->t∈o.looksAt l.toArray:=fun j b t hg ht=>by
  unfold Oper.looksAt
  unfold Bb at ht
  refine List.mem_append.2 (.inr ?_)
  rw[hg];simp only[ht];simp
 have slotN:∀(v:Value) (t:Nat),(BA l tr S0 (G6 p i) t l.length=s.sv/\o.dst=some t)\/(BA l tr S0 (G6 p i) t l.length=BA l tr S0 p t l.length/\o.dst≠some t):=fun v t=>by
  by_cases hdt:o.dst=some t
  ·refine .inl ⟨?_,hdt⟩
   rw[FK (i:=i+1) l.length (by omega) (fun j hij hjk hd=>by
    obtain⟨oj,sj,hj',hsj,hdj⟩:=dstOf j t hd
    rw[hup j (by omega)]
    refine later j oj sj hj' hsj (by omega) ?_
    unfold I3;simp only[meets,hdt,HX hdj,Bool.true_or])]
   unfold BA
   rw[if_pos ⟨hupi,by simp[hli,hdt]⟩,hsi];rfl
  ·refine .inr ⟨?_,hdt⟩
   exact E5 l.length fun j hj hd=>by
    obtain⟨oj,sj,hj',hsj,hdj⟩:=dstOf j t hd
    exact hup j fun e=>by subst e;rw[hli]at hj';injection hj' with e;subst e;exact hdt hdj
 have putSlot:∀ {v:Value} {η':Nat->Value} {H'':Hp},(∀t,(BA l tr S0 p t l.length).is C η' H'' (a.tmps.getD t undef))->s.sv.is C η' H'' v->∀t,(BA l tr S0 (G6 p i) t l.length).is C η' H'' ((a.put o.dst v).tmps.getD t undef):=fun{v η' H''} hold hnew t=>by
  rcases slotN v t with⟨e1,e2⟩|⟨e1,e2⟩
  ·rw[e1,e2,FY (by rw[h3];exact hloc.dst t e2)]
   simpa using hnew
  ·rw[e1]
   cases hd:o.dst with
   |none=>exact hold t
   |some d=>
    rw[FY (by rw[h3];exact hloc.dst d hd)]
    have:Nat.beq d t=false:=by
     cases hb:Nat.beq d t with
     |false=>rfl
     |true=>exact absurd (by rw[hd,Nat.eq_of_beq_eq_true hb]) e2
    rw[this];exact hold t
 have hdz:∀v,(a.put o.dst v).defers=Of.ds/\(a.put o.dst v).tmps.size=n:=fun v=>by
  cases o.dst<;>simp[Act.put,h2,h3]
 cases s with
 |skip=>
  obtain⟨j,b,t,hg,ht,hv⟩:=hloc.skip rfl
  have hval:=hv η H' _ (by have:=h4 t;rw[slotC t (lookG j b t hg ht)]at this;exact this)
  have hw':Region.wanted o (yielded l.toArray a.tmps)=false:=by
   rcases hval with e|e
   ·simp[Region.wanted,hg,GD ht e]
   ·simp[Region.wanted,hg,ER ht e]
  rw[if_neg (by rw[hw'];simp)]
  refine⟨η,H',Y,h1,(hdz _).1,(hdz _).2,putSlot h4 rf,h5,h6,h7,fun k hk=>?_,fun k sr hk=>?_⟩
  ·rcases h8 k hk with e|⟨j',s',e1,e2⟩
   ·exact .inl e
   ·refine .inr ⟨j',s',?_,e2⟩
    rw[hup j' fun e=>by subst e;rw[hpi]at e1;cases e1];exact e1
  ·refine h9 k sr ?_
   rw[<-hk]
   exact DY l.length fun j' hj' s' hs' hk'=>by
    refine(hup j' fun e=>?_).symm
    subst e;rw[hsi]at hs';cases hs';cases hk'
 |run st=>
  obtain⟨hgr,Sr,hSr,hLoc⟩:=hloc.run st rfl
  have hw':Region.wanted o (yielded l.toArray a.tmps)=true:=by
   cases hg:o.guard with
   |none=>simp[Region.wanted,hg]
   |some jb=>
    obtain⟨j,b⟩:=jb
    obtain⟨t,ht,hv⟩:=hgr j b hg
    have hval:=hv η H' _ (by have:=h4 t;rw[slotC t (lookG j b t hg ht)]at this;exact this)
    simp[Region.wanted,hg,ER ht hval]
  rw[if_pos hw']
  have hnk:∀k∈keys st.wr,BL tr R0 (fun _=>true) k i=none->nk<=k:=fun k h1 h2=>(hloc.new k h1 h2).1
  have fresh:∀k∈keys st.wr,BL tr R0 (fun _=>true) k i=none->∀j sj,tr[j]?=some sj->p j=true->k∉sj.Ay:=fun k hk hnone j sj hsj hpj=>by
   obtain⟨oj,hj⟩:=hLt j sj hsj
   rcases hpair i j o oj _ sj hli hj hsi hsj with e|e|e
   ·rw[hancs j oj hj hpj i e]at hpi;cases hpi
   ·subst e;rw[hpi]at hpj;cases hpj
   ·exact e.2 k hk (hnk k hk hnone) fun q' s' hlt hs'=>LR hnone q' s' hlt hs'
  refine hLoc η H' Of.O a w Y h6 h7 (N.BW h1 hiv) (fun x hx=>Vy fun t e=>?_) (fun k hk sr hsr=>?_) (fun k hk hnone hY=>?_) _ Q fun v w' H'' η' Y' hle hη hY hwr hn' hY' hsh' hsv=>?_
  ·subst e
   exact hSr t hx η H' _ (by have:=h4 t;rw[slotC t (lookT t hx)]at this;exact this)
  ·exact h9 k sr (by rw[resC k hk];exact hsr)
  ·have h11:=
         hnk k hk hnone
   rcases h8 k hY with e|⟨j,sj,e1,e2,e3⟩
   ·omega
   ·obtain⟨
        oj,hj⟩:=hLt j sj e2
    rcases Nat.lt_trichotomy j i with hji|hji|hji
    ·have:BL tr R0 (fun _=>true) k i≠none:=by
      have key:∀m,j<m->BL tr R0 (fun _=>true) k m≠none:=by
       intro m
       induction m with
       |zero=>intro h;omega
       |succ m ih=>
        intro hjm
        unfold BL
        simp only[if_true]
        by_cases e:j=m
        ·subst e
         obtain⟨y0,hy0⟩:=CI e3
         rw[e2]
         cases hl:An sj.wr k with
         |none=>rw[hy0]at hl;cases hl
         |some y=>simp[hl]
        ·have:=ih (by omega)
         cases hl:(tr[m]?).bind fun s=>An s.wr k with
         |none=>simpa using this
         |some y=>simp
      exact key i hji
     exact this hnone
    ·subst hji;rw[hpi]at e1;cases e1
    ·have:=later j oj sj hj e2 hji (by
      unfold I3
      have:E8 (keys (TS.run st).wr) (sj.rd++keys sj.wr)=true:=List.any_eq_true.2 ⟨k,hk,AB.2 (List.mem_append.2 (.inr e3))⟩
      rw[this];simp)
     rw[this]at e1;cases e1
  ·
   have oldk:∀k,k<nk->η' k=η k:=fun k hk=>hη k fun hnone hm=>by have:=hnk k hm hnone;omega
   have mC:∀k∈Co C,η' k=η k:=fun k hk=>oldk k (hC k hk)
   have mJ:∀j sj,tr[j]?=some sj->p j=true->∀k∈sj.Ay,η' k=η k:=fun j sj hsj hpj k hk=>hη k fun hnone hm=>fresh k hm hnone j sj hsj hpj hk
   refine⟨η',H'',Y',h1.trans hle,(hdz _).1,(hdz _).2,putSlot (fun t=>?_) hsv,fun q hq=>?_,hn',hsh',fun k hk=>?_,fun k sr hk=>?_⟩
   ·refine((h4 t).env mC fun k hk=>?_).mono hle
    rcases Oq (l:=l) (tr:=tr) (S0:=S0) (p:=p) (t:=t) l.length with e|⟨j,sj,e1,e2,e3,e4⟩|e
    ·rw[e]at hk;exact oldk k (hS t k hk)
    ·rw[e4]at hk;exact mJ j sj e3 e2 k (List.mem_append.2 (.inl hk))
    ·rw[e]at hk;cases hk
   ·rw[oldk q.1 (hbs q hq)];exact h5 q hq
   ·rcases hY' k hk with e|e
    ·rcases h8 k e with e|⟨j',s',e1,e2⟩
     ·exact .inl e
     ·refine .inr ⟨j',s',?_,e2⟩
      rw[hup j' fun e=>by subst e;rw[hpi]at e1;cases e1];exact e1
    ·exact .inr ⟨i,_,hupi,hsi,e⟩
   ·by_cases hkw:k∈keys st.wr
    ·rw[FJ (i:=i+1) l.length (by omega) (fun j hij hjk sj hsj hkj=>by
      obtain⟨oj,hj⟩:=hLt j sj hsj
      rw[hup j (by omega)]
      refine later j oj sj hj hsj (by omega) ?_
      unfold I3
      have:E8 (keys (TS.run st).wr) (sj.rd++keys sj.wr)=true:=List.any_eq_true.2 ⟨k,hkw,AB.2 (List.mem_append.2 (.inr hkj))⟩
      rw[this];simp)]at hk
     unfold BL at hk
     rw[if_pos hupi,hsi]at hk
     simp only[Option.bind_some]at hk
     cases hl:An (TS.run st).wr k with
     |some y=>
      rw[hl]at hk;cases hk
      exact hwr k _ hl
     |none=>
      exfalso
      obtain⟨y0,hy0⟩:=CI hkw
      exact absurd (hy0.symm.trans hl) (by simp)
    ·have e:BL tr R0 (G6 p i) k l.length=BL tr R0 p k l.length:=DY l.length fun j hj sj hsj hkj=>hup j fun e=>by subst e;rw[hsi]at hsj;cases hsj;exact hkw hkj
     rw[e]at hk
     rcases h9 k sr hk with e|⟨x,g1,g2⟩
     ·exact .inl e
     ·refine .inr ⟨x,by rw[hY k hkw];exact g1,(SR.is.env (hη k fun _ hm=>absurd hm hkw) mC (fun m hm=>?_) g2).mono hle⟩
      rcases Ky l.length hk with e|⟨j,sj,e1,e2,e3,e4⟩
      ·exact oldk m ((hR k sr e).2 m hm)
      ·exact mJ j sj e3 e2 m (List.mem_append.2 (.inr (List.mem_flatMap.2 ⟨(k,sr),AQ e4,hm⟩)))
theorem JV.all{C:List (SV N.T)}{n nk:Nat}{Of:Fm}{bs:List (Nat×Value)}{H:Hp}{p:Nat->Bool}{a:Act}{w:World}(hall:∀i,i<l.length->p i=true)(h:JV C n Of bs nk l tr S0 R0 H p a w):JV C n Of bs nk l tr S0 R0 H (fun _=>true) a w:=by
 obtain⟨η,H',Y,h1,h2,h3,h4,h5,h6,h7,h8,h9⟩:=h
 refine⟨η,H',Y,h1,h2,h3,fun t=>?_,h5,h6,h7,fun k hk=>?_,fun k sr hk=>?_⟩
 ·rw[<-E5 (p:=p) l.length fun j hj _=>hall j hj];exact h4 t
 ·rcases h8 k hk with e|⟨j,s,e1,e2⟩
  ·exact .inl e
  ·exact .inr ⟨j,s,rf,e2⟩
 ·refine h9 k sr ?_
  rw[DY (q:=fun _=>true) l.length fun j hj _ _ _=>hall j hj];exact hk
theorem ju{P:Program}{C:List (SV N.T)}{n nk:Nat}{Of:Fm}{bs:List (Nat×Value)}{Q:Exit->Act->World->Prop}{id:Nat}{H:Hp}(hiv:N.inv H)
  (hm:P.follows .mixedOrders=true) (hOK:Sg l tr nk=true) (hC:∀k∈Co C,k<nk) (hS:∀t,∀k∈(S0 t).Ay,k<nk) (hR:∀k x,R0 k=some x->k<nk/\∀j∈x.Ay,j<nk) (hbs:∀q∈bs,q.1<nk)
  (hl:∀i o s,l[i]?=some o->tr[i]?=some s->Wi P C l.toArray n nk o s (fun t=>BA l tr S0 (fun _=>true) t i) (fun k=>BL tr R0 (fun _=>true) k i))
  (fin:∀a w,JV C n Of bs nk l tr S0 R0 H (fun _=>true) a w->Q .normal a w) {a:Act} {w:World} (h0:JV C n Of bs nk l tr S0 R0 H (fun _=>false) a {w with drawn:=w.drawn+1}):(Code.region id l.toArray true).wp P Q a w:=by
 obtain⟨hb,hlen,hpair⟩:=HR hOK
 exact JC hm hb (J:=fun p a w=>JV C n Of bs nk l tr S0 R0 H p a w) (OJ hiv hOK hC hS hR hbs hl) (fun p a w hall hJ=>fin a w (hJ.all hall)) h0
end
end Go.GV
namespace Go.GV
open Go Go.GK
section
variable {N : Cw} {R : Type}
def u7(s:SV N.T)(kt kf:Option R):Option R:=match s with
 | .lb true=>kt
 | .lb false=>kf
 | .lt _ n m=>bif decide ((n:Int)<(m:Int))then kt else kf
 | .d .bool b=>bif b then kt else kf
 |_=>none
def Qo(P:Program)(Φ:Nat->Option (CQ N))(C:List (SV N.T))(CR:List (SR N.T))(n:Nat)(o:Oper)(st:St N.T)(tr:List (TS N.T))(kn:St N.T->List (TS N.T)->Option R):Option R:=
 nK P Φ C 4 (Bx C st.L) (Ai CR st.O) st.nk o.op o.type fun s nk=>match Fo CR n st o.dst s nk&&ou CR st s with
  |true=>kn (app st o.dst s nk) (tr++[.run s])
  |false=>none
def ND(n:Nat)(d:Option Nat)(st:St N.T)(tr:List (TS N.T))(kn:St N.T->List (TS N.T)->Option R):Option R:=match La n d with
 |true=>kn ⟨NK d .ud st.L,st.O,st.nk⟩ (tr++[.skip])
 |false=>none
def dd(
    P:Program) (Φ:Nat->Option (CQ N)) (C:List (SV N.T)) (CR:List (SR N.T)) (n:Nat) (ops:Array Oper):List Oper->St N.T->List (TS N.T)->(St N.T->List (TS N.T)->Option R)->Option R
 | [],st,tr,kn=>kn st tr
 |o::os,st,tr,kn=>match o.guard with
  |none=>Qo P Φ C CR n o st tr fun st tr=>dd P Φ C CR n ops os st tr kn
  |some (
      j,want)=>match Bb ops j with
   |none=>none
   |some t=>match Bx C st.L t with
    | .ud=>ND n o.dst st tr fun st tr=>dd P Φ C CR n ops os st tr kn
    |s=>u7 s
     (let st:=HU t (.lb true) st
      match want with
      |true=>Qo P Φ C CR n o st tr fun st tr=>dd P Φ C CR n ops os st tr kn
      |false=>ND n o.dst st tr fun st tr=>dd P Φ C CR n ops os st tr kn)
     (let st:=HU t (.lb false) st
      match want with
      |false=>Qo P Φ C CR n o st tr fun st tr=>dd P Φ C CR n ops os st tr kn
      |true=>ND n o.dst st tr fun st tr=>dd P Φ C CR n ops os st tr kn)
def oJ(P:Program)(Φ:Nat->Option (CQ N))(C:List (SV N.T))(CR:List (SR N.T))(n:Nat)(ops:Array Oper)(st:St N.T)(kn:St N.T->Option R):Option R:=match Cp CR st st.nk with
 |true=>dd P Φ C CR n ops ops.toList st [] fun st' tr=>match Sg ops.toList tr st.nk with
  |true=>kn st'
  |false=>none
 |false=>none
def s0(st:St N.T)(t:Nat):SV N.T:=match An st.L t with
 |some s=>s
 |none=> .no
def sO(C:List (SV N.T))(s t:SV N.T):Prop:= ∀(η:Nat->Value) (H:Hp) v,s.is C η H v->t.is C η H v
theorem Hz{l:List Oper}{tr tr':List (TS N.T)}{S0:Nat->SV N.T}{p:Nat->Bool}{t:Nat} :∀i,(∀j,j<i->tr[j]?=tr'[j]?)->BA l tr S0 p t i=BA l tr' S0 p t i
 |0,_=>rfl
 |i+1,h=>by unfold BA;rw[h i (by omega),Hz i fun j hj=>h j (by omega)]
theorem Hy{tr tr':List (TS N.T)}{R0:Nat->Option (SR N.T)}{p:Nat->Bool}{k:Nat} :∀i,(∀j,j<i->tr[j]?=tr'[j]?)->BL tr R0 p k i=BL tr' R0 p k i
 |0,_=>rfl
 |i+1,h=>by unfold BL;rw[h i (by omega),Hy i fun j hj=>h j (by omega)]
variable {P : Program} [Bn N P] {Φ : Nat -> Option (CQ N)} {C : List (SV N.T)} {CR : List (SR N.T)} {n : Nat} {bs : List (Nat × Value)}
structure IV(P:Program)(C:List (SV N.T))(CR:List (SR N.T))(n:Nat)(bs:List (Nat×Value))(l:List Oper)(st0:St N.T)(st:St N.T)(tr:List (TS N.T))(i:Nat):Prop where
 len:tr.length=i
 sl:∀t sv,An st.L t=some sv->sO C (BA l tr (s0 st0) (fun _=>true) t i) sv
 ow:∀k,Ai CR st.O k=BL tr (Ai CR st0.O) (fun _=>true) k i
 wf:WF C CR bs st
 le:st0.nk<=st.nk
 ks:∀(j:Nat) s,tr[j]?=some s->∀k∈keys s.wr,k<st.nk
 loc:∀j o s,j<i->l[j]?=some o->tr[j]?=some s->Wi P C l.toArray n st0.nk o s (fun t=>BA l tr (s0 st0) (fun _=>true) t j) (fun k=>BL tr (Ai CR st0.O) (fun _=>true) k j)
variable {l : List Oper} {st0 : St N.T}
theorem IV.lk{st:St N.T}{tr:List (TS N.T)}{i:Nat}(h:IV P C CR n bs l st0 st tr i)(t:Nat):sO C (BA l tr (s0 st0) (fun _=>true) t i) (Bx C st.L t):=by
 have _m:=(inferInstance:Bn N P)
 intro η H v hv
 unfold Bx
 split
 ·rename_i s hs;exact DN (h.sl t s hs η H v hv)
 ·trivial
theorem XA{tr:List (TS N.T)}{x:TS N.T}{i:Nat}(h:tr.length=i):∀j,j<i->(tr++[x])[j]?=tr[j]?:=fun j hj=>List.getElem?_append_left (by omega)
theorem IV.put{st st':St N.T}{tr:List (TS N.T)}{i:Nat}{o:Oper}{x:TS N.T}(h:IV P C CR n bs l st0 st tr i)(ho:l[i]?=some o)(hsl:∀t sv,An st'.L t=some sv->(o.dst=some t/\sv=x.sv)\/(o.dst≠some t/\∃sv0,An st.L t=some sv0/\sO C sv0 sv))
  (how:∀k,Ai CR st'.O k=match An x.wr k with|some y=>some y|none=>Ai CR st.O k) (hwf:WF C CR bs st') (hle:st.nk<=st'.nk) (hks:∀k∈keys x.wr,k<st'.nk)
  (hloc:Wi P C l.toArray n st0.nk o x (fun t=>BA l tr (s0 st0) (fun _=>true) t i) (fun k=>BL tr (Ai CR st0.O) (fun _=>true) k i)):IV P C CR n bs l st0 st' (tr++[x]) (i+1):=by
 have _m:=(inferInstance:Bn N P)
 have hp:=XA (x:=x) h.len
 have hx:(tr++[x])[i]?=some x:=by rw[List.getElem?_append_right (by rw[h.len];exact Nat.le_refl _)];simp[h.len]
 refine⟨by simp[h.len],fun t sv ht η H v hv=>?_,fun k=>?_,hwf,Nat.le_trans h.le hle,fun j s hs k hk=>?_,fun j o' s hj ho' hs=>?_⟩
 ·unfold BA at hv
  rw[ho,hx,Hz i hp]at hv
  rcases hsl t sv ht with⟨e1,e2⟩|⟨e1,sv0,e2,e3⟩
  ·rw[if_pos ⟨rfl,by simpa using e1⟩]at hv
   rw[e2];exact hv
  ·rw[if_neg (fun hh=>e1 (by simpa using hh.2))]at hv
   exact e3 η H v (h.sl t sv0 e2 η H v hv)
 ·unfold BL
  rw[hx,Hy i hp,how k]
  simp only[if_true,Option.bind_some]
  rw[h.ow k]
  try(cases An x.wr k<;>rfl)
 ·by_cases e:j<i
  ·rw[hp j e]at hs;exact Nat.lt_of_lt_of_le (h.ks j s hs k hk) hle
  ·have:j=i:=by have:=(List.getElem?_eq_some_iff.1 hs).1;simp[h.len]at this;omega
   subst this
   rw[hx]at hs;cases hs
   exact hks k hk
 ·by_cases e:j<i
  ·rw[hp j e]at hs
   have:=h.loc j o' s e ho' hs
   have e1:(fun t=>BA l (tr++[x]) (s0 st0) (fun _=>true) t j)=fun t=>BA l tr (s0 st0) (fun _=>true) t j:=funext fun t=>Hz j fun q hq=>hp q (by omega)
   have e2:(fun k=>BL (tr++[x]) (Ai CR st0.O) (fun _=>true) k j)=fun k=>BL tr (Ai CR st0.O) (fun _=>true) k j:=funext fun k=>Hy j fun q hq=>hp q (by omega)
   rw[e1,e2];exact this
  ·obtain rfl:j=i:=by omega
   rw[hx]at hs;cases hs
   rw[ho]at ho';cases ho'
   have e1:(fun t=>BA l (tr++[x]) (s0 st0) (fun _=>true) t j)=fun t=>BA l tr (s0 st0) (fun _=>true) t j:=funext fun t=>Hz j fun q hq=>hp q hq
   have e2:(fun k=>BL (tr++[x]) (Ai CR st0.O) (fun _=>true) k j)=fun k=>BL tr (Ai CR st0.O) (fun _=>true) k j:=funext fun k=>Hy j fun q hq=>hp q hq
   rw[e1,e2];exact hloc
theorem JM(hΦ:∀f q,Φ f=some q->A7 P f q){st:St N.T}{tr:List (TS N.T)}{i:Nat}{o:Oper}{kn:St N.T->List (TS N.T)->Option R}{r:R}(h:IV P C CR n bs l st0 st tr i)(ho:l[i]?=some o)(hg:KR C l.toArray o (fun t=>BA l tr (s0 st0) (fun _=>true) t i))
  (hd:Qo P Φ C CR n o st tr kn=some r):∃st' tr',kn st' tr'=some r/\IV P C CR n bs l st0 st' tr' (i+1):=by
 have hf:∀j,st.nk<=j->Ai CR st.O j=none:=fun j hj=>by unfold Ai;rw[h.wf.ok j hj]
 obtain⟨s,nk,h1,h2,h3,h4,h5⟩:=Po (o:=o) hΦ h.wf.mC 4 hf h.wf.wf hd
 split at h1
 ·rename_i hb
  rw[Bool.and_eq_true]at hb
  obtain⟨hb,hgs⟩:=hb
  have hs:It C CR n st o.dst s nk P o:=⟨hb,h2,h3,h4,h5⟩
  have hb':=hb
  unfold Fo at hb'
  simp only[Bool.and_eq_true]at hb'
  have hnc:∀p∈s.wr,Ck CR p.2=p.2:=fun p hp=>E0 (Bool.and_eq_true _ _▸List.all_eq_true.1 hb'.2.1 p hp).1
  refine⟨_,_,h1,h.put ho (fun t sv ht=>?_) (fun k=>Fq _ _ hnc k) (h.wf.step hs) h3 (fun k hk=>?_) ⟨fun d hd=>?_,fun k hk hn=>?_,fun st1 e=>?_,fun e=>(by cases e)⟩⟩
  ·have slot:An (W4 (keys s.wr) st.L) t=some sv->∃sv0,An st.L t=some sv0/\sO C sv0 sv:=fun ht=>by
    rw[MV]at ht
    obtain⟨x,hx,rfl⟩:=Option.map_eq_some_iff.1 ht
    exact⟨x,hx,fun η H v hv=>MW hv⟩
   cases hdo:o.dst with
   |none=>
    rw[hdo]at ht
    exact .inr ⟨by simp,slot ht⟩
   |some d=>
    rw[hdo]at ht
    have ht:An ((d,s.sv)::W4 (keys s.wr) st.L) t=some sv:=ht
    simp only[An]at ht
    cases hb2:Nat.beq d t with
    |true=>
     rw[hb2]at ht;cases ht
     exact .inl ⟨by rw[Nat.eq_of_beq_eq_true hb2],rf⟩
    |false=>
     rw[hb2]at ht
     refine .inr ⟨fun e=>?_,slot ht⟩
     cases e;simp at hb2
  ·cases hr:Ai CR st.O k with
   |none=>exact(h4 k hk hr).2
   |some x=>
    have hlk:An st.O k≠none:=fun e=>by unfold Ai at hr;rw[e]at hr;cases hr
    have:k<st.nk:=Nat.lt_of_not_le fun hle=>hlk (h.wf.ok k hle)
    exact Nat.lt_of_lt_of_le this h3
  ·have:=hb'.1.1
   rw[hd]at this
   simpa [La]using this
  ·have hn':Ai CR st.O k=none:=by rw[h.ow k];exact hn
   refine⟨Nat.le_trans h.le (h4 k hk hn').1,fun hg=>?_⟩
   have h7:(Ai CR st.O k).isSome=true:=List.all_eq_true.1 hgs _ (AQ hg)
   rw[hn']at h7;cases h7
  ·cases e
   refine⟨hg,Bx C st.L,fun t _=>h.lk t,?_⟩
   have e2:(fun k=>BL tr (Ai CR st0.O) (fun _=>true) k i)=Ai CR st.O:=funext fun k=>(h.ow k).symm
   rw[e2];exact h2
 ·cases h1
theorem JN{st:St N.T}{tr:List (TS N.T)}{i:Nat}{o:Oper}{kn:St N.T->List (TS N.T)->Option R}{r:R}(h:IV P C CR n bs l st0 st tr i)(ho:l[i]?=some o)(hg:Iu C l.toArray o (fun t=>BA l tr (s0 st0) (fun _=>true) t i))
  (hd:ND n o.dst st tr kn=some r):∃st' tr',kn st' tr'=some r/\IV P C CR n bs l st0 st' tr' (i+1):=by
 unfold ND at hd
 split at hd
 ·rename_i hb
  refine⟨_,_,hd,h.put ho (fun t sv ht=>?_) (fun k=>rfl) (h.wf.EZ fun τ hτ q=>?_) (Nat.le_refl _) (fun k hk=>(by cases hk)) ⟨fun d hd=>?_,fun k hk=>(by cases hk),fun _ e=>(by cases e),fun _=>hg⟩⟩
  ·cases hdo:o.dst with
   |none=>
    rw[hdo]at ht
    exact .inr ⟨by simp,sv,ht,fun _ _ _ h=>h⟩
   |some d=>
    rw[hdo]at ht
    have ht:An ((d,SV.ud)::st.L) t=some sv:=ht
    simp only[An]at ht
    cases hb2:Nat.beq d t with
    |true=>
     rw[hb2]at ht;cases ht
     exact .inl ⟨by rw[Nat.eq_of_beq_eq_true hb2],rf⟩
    |false=>
     rw[hb2]at ht
     refine .inr ⟨fun e=>?_,sv,ht,fun _ _ _ h=>h⟩
     cases e;simp at hb2
  ·have h2:=hτ q
   cases hdo:o.dst with
   |none=>exact h2
   |some d=>
    unfold Bx at h2⊢
    simp only[NK,An]
    cases hb:Nat.beq d q with
    |true=>trivial
    |false=>exact h2
  ·rw[hd]at hb;simpa [La]using hb
 ·cases hd
theorem IV.HU{st:St N.T}{tr:List (TS N.T)}{i t:Nat}{b:Bool}(h:IV P C CR n bs l st0 st tr i)(hb:∀(η:Nat->Value) (H:Hp) v,(BA l tr (s0 st0) (fun _=>true) t i).is C η H v->v= .bool b):IV P C CR n bs l st0 (HU t (.lb b) st) tr i:=by
 have _m:=(inferInstance:Bn N P)
 refine⟨h.len,fun q sv hq η H v hv=>?_,h.ow,h.wf.EZ fun τ hτ q=>?_,h.le,h.ks,h.loc⟩
 ·have hq:An ((t,SV.lb b)::st.L) q=some sv:=hq
  simp only[An]at hq
  cases hb2:Nat.beq t q with
  |true=>
   rw[hb2]at hq;cases hq
   have:=Nat.eq_of_beq_eq_true hb2;subst this
   exact hb η H v hv
  |false=>rw[hb2]at hq;exact h.sl q sv hq η H v hv
 ·have h2:=hτ q
  unfold Bx at h2⊢
  simp only[An]
  cases hb:Nat.beq t q with
  |true=>trivial
  |false=>exact h2
theorem V0{s:SV N.T}{kt kf:Option R}{r:R}(h:u7 s kt kf=some r):∃b,(∀(C:List (SV N.T)) (η:Nat->Value) (H:Hp) v,s.is C η H v->v= .bool b)/\(if b=true then kt=some r else kf=some r):=by
 unfold u7 at h
 split at h
 ·exact⟨true,fun _ _ _ _ hv=>hv,h⟩
 ·exact⟨false,fun _ _ _ _ hv=>hv,h⟩
 ·rename_i i n m
  cases hb:decide ((n:Int)<(m:Int))with
  |true=>rw[hb]at h;exact⟨true,fun _ _ _ _ hv=>by rw[hv.1,hb],h⟩
  |false=>rw[hb]at h;exact⟨false,fun _ _ _ _ hv=>by rw[hv.1,hb],h⟩
 ·rename_i b
  have h:cond b kt kf=some r:=h
  cases b with
  |true=>exact⟨true,fun _ _ _ _ hv=>MZ hv,h⟩
  |false=>exact⟨false,fun _ _ _ _ hv=>MZ hv,h⟩
 ·cases h
theorem IJ(hΦ:∀f q,Φ f=some q->A7 P f q){kn:St N.T->List (TS N.T)->Option R}{r:R} :∀(os:List Oper) (st:St N.T) (tr:List (TS N.T)) (i:Nat),l.drop i=os->i<=l.length->IV P C CR n bs l st0 st tr i->dd P Φ C CR n l.toArray os st tr kn=some r->∃st' tr',kn st' tr'=some r/\IV P C CR n bs l st0 st' tr' l.length
 | [],st,tr,i,hl,hi,h,hd=>by
  have:i=l.length:=by have:=congrArg List.length hl;simp at this;omega
  subst this
  exact⟨st,tr,hd,h⟩
 |o::os,st,tr,i,hl,hi,h,hd=>by
  have ho:l[i]?=some o:=by have:=congrArg (·[0]?) hl;simpa using this
  have hlt:i<l.length:=(List.getElem?_eq_some_iff.1 ho).1
  have hl':l.drop (i+1)=os:=by rw[<-List.drop_drop,hl];rfl
  unfold dd at hd
  split at hd
  ·rename_i hg
   obtain⟨st',tr',k1,k2⟩:=JM hΦ h ho (fun j w e=>by rw[hg]at e;cases e) hd
   exact IJ hΦ os st' tr' (i+1) hl' hlt k2 k1
  ·rename_i j want hg
   split at hd
   ·cases hd
   ·rename_i t ht
    split at hd
    ·rename_i hu
     obtain⟨st',tr',k1,k2⟩:=JN h ho ⟨j,want,t,hg,ht,fun η H v hv=> .inl (by have:=h.lk t η H v hv;rw[hu]at this;exact this)⟩ hd
     exact IJ hΦ os st' tr' (i+1) hl' hlt k2 k1
    ·obtain⟨b,hb,hd⟩:=V0 hd
     have hb':∀(η:Nat->Value) (H:Hp) v,(BA l tr (s0 st0) (fun _=>true) t i).is C η H v->v= .bool b:=fun η H v hv=>hb C η H v (h.lk t η H v hv)
     have h':=h.HU hb'
     have run:want=b->KR C l.toArray o (fun t=>BA l tr (s0 st0) (fun _=>true) t i):=fun e j' w' e'=>by
      rw[hg]at e';cases e'
      exact⟨t,ht,fun η H v hv=>by rw[e];exact hb' η H v hv⟩
     have skp:want=(!b)->Iu C l.toArray o (fun t=>BA l tr (s0 st0) (fun _=>true) t i):=fun e=>⟨j,want,t,hg,ht,fun η H v hv=> .inr (by rw[hb' η H v hv,e];simp)⟩
     cases b with
     |true=>
      simp only[if_true]at hd
      cases want with
      |true=>
       obtain⟨st',tr',k1,k2⟩:=JM hΦ h' ho (run rfl) hd
       exact IJ hΦ os st' tr' (i+1) hl' hlt k2 k1
      |false=>
       obtain⟨st',tr',k1,k2⟩:=JN h' ho (skp rfl) hd
       exact IJ hΦ os st' tr' (i+1) hl' hlt k2 k1
     |false=>
      simp only[Bool.false_eq_true,if_false]at hd
      cases want with
      |false=>
       obtain⟨st',tr',k1,k2⟩:=JM hΦ h' ho (run rfl) hd
       exact IJ hΦ os st' tr' (i+1) hl' hlt k2 k1
      |true=>
       obtain⟨st',tr',k1,k2⟩:=JN h' ho (skp rfl) hd
       exact IJ hΦ os st' tr' (i+1) hl' hlt k2 k1
theorem iD(hΦ:∀f q,Φ f=some q->A7 P f q)(hm:P.follows .mixedOrders=true){Of:Fm}{Q:Exit->Act->World->Prop}{id:Nat}{ops:Array Oper}{kn:St N.T->Option R}{r:R}{st:St N.T}{η:Nat->Value}{H:Hp}{a:Act}{w:World}(h:Sat C CR n Of bs st η H a w)(hw:WF C CR bs st)
  (hd:oJ P Φ C CR n ops st kn=some r) (hK:∀st' η' H' a' w',H.le H'->Sat C CR n Of bs st' η' H' a' w'->WF C CR bs st'->kn st'=some r->Q .normal a' w'):(Code.region id ops true).wp P Q a w:=by
 obtain⟨l,rfl⟩:∃l:List Oper,ops=l.toArray:=⟨ops.toList,by simp⟩
 unfold oJ at hd
 split at hd
 ·rename_i hfr
  have iv0:IV P C CR n bs l st st [] 0:=⟨rfl,fun t sv ht η H v hv=>by
   have hv:(s0 st t).is C η H v:=hv
   unfold s0 at hv;rw[ht]at hv;exact hv,fun k=>rfl,hw,Nat.le_refl _,fun j s hs=>by simp at hs,fun j o s hj=>by omega⟩
  obtain⟨st',tr,k1,k2⟩:=IJ (l:=l) hΦ l st [] 0 rfl (Nat.zero_le _) iv0 (by simpa using hd)
  split at k1
  ·rename_i hreg
   have hfr2:=hfr
   unfold Cp at hfr2
   rw[Bool.and_eq_true]at hfr2
   refine ju h.inv (l:=l) (tr:=tr) (S0:=s0 st) (R0:=Ai CR st.O) (bs:=bs) (Of:=Of) (n:=n) (H:=H) hm (by simpa using hreg) hw.mC (fun t k hk=>?_) (fun k x hk=>⟨?_,Da hk hfr⟩) hw.lo (fun i o s ho hs=>k2.loc i o s (List.getElem?_eq_some_iff.1 ho).1 ho hs) (fun a' w' hJ=>?_) ?_
   ·unfold s0 at hk
    split at hk
    ·rename_i s hs
     have:=List.all_eq_true.1 (List.all_eq_true.1 hfr2.1 _ (AQ hs)) k hk
     simpa using this
    ·cases hk
   ·have hlk:An st.O k≠none:=fun e=>by unfold Ai at hk;rw[e]at hk;cases hk
    exact Nat.lt_of_not_le fun hle=>hlk (hw.ok k hle)
   ·obtain⟨η',H',Y,g1,g2,g3,g4,g5,g6,g7,g8,g9⟩:=hJ
    refine hK st' η' H' a' w' g1 ⟨N.BW g1 h.inv,g2,g3,fun t sv ht=>k2.sl t sv ht η' H' _ (g4 t),g5,Y,g6,g7,fun k hk=>?_,fun k sr hk=>g9 k sr (by rw[<-k2.ow k];exact hk)⟩ k2.wf k1
    rcases g8 k hk with e|⟨j,s,_,e2,e3⟩
    ·exact Nat.lt_of_lt_of_le e k2.le
    ·exact k2.ks j s e2 k e3
   ·obtain⟨Y,g1,g2,g3,g4⟩:=h.own
    refine⟨η,H,Y,Hp.le.refl H,h.defers,h.size,fun t=>?_,h.base,g1,g2.drew,fun k hk=> .inl (g3 k hk),fun k sr hk=>g4 k sr ?_⟩
    ·rw[FK (i:=0) l.length (Nat.zero_le _) (fun _ _ _ _=>rfl)]
     show(s0 st t).is C η H _
     unfold s0
     split
     ·rename_i s hs;exact h.A6 t s hs
     ·trivial
    ·rw[FJ (i:=0) l.length (Nat.zero_le _) (fun _ _ _ _ _ _=>rfl)]at hk;exact hk
  ·cases k1
 ·cases hd
end
end Go.GV
namespace Go.GV
open Go Go.GK
section
variable {N : Cw}
def Ht(k:Nat)(t:Ty)(l:List (t.den N.T))(st:St N.T):St N.T:=⟨st.L.map fun p=>(p.1,E3 k t l p.2),(k, .gone)::st.O.map fun p=>(p.1,hU k t l p.2),st.nk⟩
variable {C : List (SV N.T)} {CR : List (SR N.T)} {n : Nat} {Of : Fm} {bs : List (Nat × Value)} {st : St N.T} {η : Nat -> Value} {H : Hp} {a : Act} {w : World}
theorem Vp{k:Nat}{t:Ty}{l:List (t.den N.T)}{s1:SR N.T}(h:Sat C CR n Of bs st η H a w)(hw:WF C CR bs st)(hk:Ai CR st.O k=some s1)
  (hfr:∀Y:List (Nat×Ao),(keys Y).Nodup->SH w H (Y.map (·.2)++Of.O)->(s1= .gone\/∃X,An Y k=some X/\s1.is C η H k X)->∃H',H.le H'/\SH w H' ((EK Y k).map (·.2)++Of.O)/\Fa (N.c t) H' l (η k)):∃H',H.le H'/\Sat C CR n Of bs (Ht k t l st) η H' a w/\WF C CR bs (Ht k t l st):=by
 obtain⟨Y,hn,hsh,hlt,hres⟩:=h.own
 obtain⟨H',g1,g2,hsd⟩:=hfr Y hn hsh (hres k _ hk)
 have hlkO:An st.O k≠none:=fun e=>by unfold Ai at hk;rw[e]at hk;cases hk
 have hkn:k<st.nk:=Nat.lt_of_not_le fun hle=>hlkO (hw.ok k hle)
 have rr:∀j sr,Ai CR (Ht k t l st).O j=some sr->sr= .gone\/(j≠k/\∃s0,Ai CR st.O j=some s0/\(sr=hU k t l s0\/sr=s0)):=fun j sr hj=>by
  unfold Ai Ht at hj
  simp only[An]at hj
  cases hb:Nat.beq k j with
  |true=>rw[hb]at hj;cases hj;exact .inl rfl
  |false=>
   rw[hb]at hj
   simp only[CU (hU k t l)]at hj
   refine .inr ⟨fun e=>by subst e;simp at hb,?_⟩
   unfold Ai
   cases hl:An st.O j with
   |none=>rw[hl]at hj;cases hj
   |some s=>
    rw[hl]at hj
    simp only[Option.map_some]at hj
    cases hj
    refine⟨_,rf,?_⟩
    cases s with
    |Af g' r=>exact .inl rfl
    |row g' t' l'=>exact .inl rfl
    |gone=>exact .inl rfl
    |map g' kt vt l'=>exact .inl rfl
    |DB _ _ _ _ _=>exact .inl rfl
    |BO q=>exact .inr rfl
 refine⟨H',g1,⟨N.BW g1 h.inv,h.defers,h.size,fun q sv hq=>?_,h.base,EK Y k,Hw hn,g2,fun j hj=>hlt j (De hj),fun j sr hj=>?_⟩,⟨hw.lo,fun j hj=>?_,?_,hw.mC,hw.cP⟩⟩
 ·have hq:An (st.L.map fun p=>(p.1,E3 k t l p.2)) q=some sv:=hq
  rw[CU (E3 k t l)]at hq
  obtain⟨s,hs,rfl⟩:=Option.map_eq_some_iff.1 hq
  exact Cf hsd ((h.A6 q s hs).mono g1)
 ·rcases rr j sr hj with e|⟨hne,s0,e1,e2⟩
  ·exact .inl e
  ·rcases hres j s0 e1 with e|⟨y,y1,y2⟩
   ·subst e
    rcases e2 with e|e<;>exact .inl e
   ·refine .inr ⟨y,by rw[Ei hne];exact y1,?_⟩
    rcases e2 with rfl|rfl
    ·cases s0 with
     |Af g' r=>
      obtain⟨B,cs,b1,b2,b3⟩:=y2.mono g1
      exact⟨B,cs,b1,b2,Cf hsd b3⟩
     |_=>exact y2.mono g1
    ·exact y2.mono g1
 ·show An ((k,SR.gone)::st.O.map fun p=>(p.1,hU k t l p.2)) j=none
  have hj:st.nk<=j:=hj
  rw[AR (by omega),CU (hU k t l),hw.ok j hj];rfl
 ·obtain⟨
      τ,hτ⟩:=hw.wf
  refine⟨τ,fun q=>?_⟩
  have h2:=hτ q
  show CD τ (Ai CR (Ht k t l st).O) (Bx C (st.L.map fun p=>(p.1,E3 k t l p.2)) q)
  unfold Bx at h2⊢
  rw[CU (E3 k t l)]
  cases hx:An st.L q with
  |none=>trivial
  |some x=>
   rw[hx]at h2
   simp only[Option.map_some]at h2⊢
   have Di:∀j i off te y,j≠k->CD τ (Ai CR st.O) (.Di j i off te y)->CD τ (Ai CR (Ht k t l st).O) (.Di j i off te y):=fun j i off te y hne hp g' t' l' hl'=>by
    rcases rr j _ hl' with e|⟨_,s0,e1,e2⟩
    ·cases e
    ·refine hp g' t' l' ?_
     rw[e1]
     rcases e2 with e|e
     ·cases s0 with
      |row g2 t2 l2=>exact congrArg some e.symm
      |Af g2 r=>cases e
      |BO q=>cases e
      |gone=>cases e
      |map g2 kt vt l2=>cases e
      |DB _ _ _ _ _=>cases e
     ·exact congrArg some e.symm
   cases x with
   |Az j=>unfold E3;split<;>trivial
   |Di j i off te y=>
    unfold E3
    split
    ·trivial
    ·rename_i hb
     exact Di j i off te y (fun e=>by subst e;simp at hb) h2
   |BO j=>
    simp only[E3,res]at h2⊢
    rw[List.getD_eq_getElem?_getD]at h2⊢
    cases hc:C[j]? with
    |none=>trivial
    |some s0=>
     have hp:=hw.cP s0 (List.mem_of_getElem? hc)
     rw[hc]at h2
     simp only[Option.getD_some]at h2⊢
     cases s0<;>first|exact h2|cases hp
   |_=>exact h2
theorem eL{q:Nat}{g:TypeId}{t:Ty}(h:Sat C CR n Of bs st η H a w)(hw:WF C CR bs st)(hf:Cp CR st st.nk=true)(hq:Bx C st.L q= .raw (.slice none 0 0)):
  ∃η',Sat C CR n Of bs ⟨(q, .Az st.nk)::st.L,(st.nk, .row g t [])::st.O,st.nk+1⟩ η' H a w/\WF C CR bs ⟨(q, .Az st.nk)::st.L,(st.nk, .row g t [])::st.O,st.nk+1⟩:=by
 obtain⟨Y,hn,hsh,hlt,hres⟩:=h.own
 have hfr:=hf
 unfold Cp at hfr
 rw[Bool.and_eq_true]at hfr
 have Ea:∀k,k<st.nk->DF η st.nk (.slice none 0 0) k=η k:=fun k hk=>E4 (by omega)
 have mC:∀k∈Co C,DF η st.nk (.slice none 0 0) k=η k:=fun k hk=>Ea k (hw.mC k hk)
 have hval:a.tmps.getD q undef= .slice none 0 0:=by have:=h.lk q;rw[hq]at this;exact this
 refine⟨DF η st.nk (.slice none 0 0),⟨h.inv,h.defers,h.size,fun p sv hp=>?_,fun p hp=>by rw[Ea p.1 (hw.lo p hp)];exact h.base p hp,(st.nk, .row (.slice none 0 0) g (t.sz N) 0 [])::Y,?_,hsh.Fx g (t.sz N),fun k hk=>?_,fun k sr hk=>?_⟩,⟨fun p hp=>Nat.lt_succ_of_lt (hw.lo p hp),fun j hj=>?_,?_,fun k hk=>Nat.lt_succ_of_lt (hw.mC k hk),hw.cP⟩⟩
 ·have hp:An ((q,SV.Az st.nk)::st.L) p=some sv:=hp
  simp only[An]at hp
  cases hb:Nat.beq q p with
  |true=>
   rw[hb]at hp;cases hp
   have:=Nat.eq_of_beq_eq_true hb;subst this
   exact⟨by rw[hval,Ar],by rw[hval];rfl⟩
  |false=>
   rw[hb]at hp
   refine(h.A6 p sv hp).env mC fun k hk=>Ea k ?_
   have:=List.all_eq_true.1 (List.all_eq_true.1 hfr.1 _ (AQ hp)) k hk
   simpa using this
 ·exact List.nodup_cons.2 ⟨fun hm=>absurd (hlt _ hm) (Nat.lt_irrefl _),hn⟩
 ·simp only[keys,List.map_cons,List.mem_cons]at hk
  rcases hk with e|hk
  ·subst e;exact Nat.lt_succ_self _
  ·exact Nat.lt_succ_of_lt (hlt k hk)
 ·unfold Ai at hk
  simp only[An]at hk
  cases hb:Nat.beq st.nk k with
  |true=>
   rw[hb]at hk;cases hk
   have:=Nat.eq_of_beq_eq_true hb;subst this
   exact .inr ⟨_,Dj _ _ _,[],by rw[Ar];rfl,rf⟩
  |false=>
   rw[hb]at hk
   have hk:Ai CR st.O k=some sr:=hk
   rcases hres k sr hk with e|⟨y,y1,y2⟩
   ·exact .inl e
   ·have hlk:An st.O k≠none:=fun e=>by unfold Ai at hk;rw[e]at hk;cases hk
    have hkn:k<st.nk:=Nat.lt_of_not_le fun hle=>hlk (hw.ok k hle)
    exact .inr ⟨y,by rw[AR (by omega)];exact y1,SR.is.env (Ea k hkn) mC (fun j hj=>Ea j (Da hk hf j hj)) y2⟩
 ·show An ((st.nk,SR.row g t [])::st.O) j=none
  have hj:st.nk+1<=j:=hj
  rw[AR (by omega)];exact hw.ok j (by omega)
 ·obtain⟨
      τ,hτ⟩:=hw.wf
  refine⟨τ,fun p=>?_⟩
  have h2:=hτ p
  show CD τ (Ai CR ((st.nk,SR.row g t [])::st.O)) (Bx C ((q,SV.Az st.nk)::st.L) p)
  have key:∀s:SV N.T,(∀j i off te y,s= .Di j i off te y->j<st.nk)->CD τ (Ai CR st.O) s->CD τ (Ai CR ((st.nk,SR.row g t [])::st.O)) s:=fun s hs hv=>by
   cases s with
   |Di j i off te y=>
    intro g' t' l' hl'
    have:=hs j i off te y rfl
    unfold Ai at hl'
    rw[AR (by omega)]at hl'
    exact hv g' t' l' hl'
   |_=>exact hv
  unfold Bx at h2⊢
  simp only[An]
  cases hb:Nat.beq q p with
  |true=>trivial
  |false=>
   cases hx:An st.L p with
   |none=>simp only[hx];trivial
   |some x=>
    rw[hx]at h2
    simp only[hx]at h2⊢
    refine key _ (fun j i off te y e=>?_) h2
    have hm:∀k∈x.Ay,k<st.nk:=fun k hk=>by
     have:=List.all_eq_true.1 (List.all_eq_true.1 hfr.1 _ (AQ hx)) k hk
     simpa using this
    cases x with
    |BO q=>
     simp only[res]at e
     rw[List.getD_eq_getElem?_getD]at e
     cases hc:C[q]? with
     |none=>rw[hc]at e;cases e
     |some s0=>
      rw[hc]at e
      have:=hw.cP s0 (List.mem_of_getElem? hc)
      have e:s0=_:=e
      subst e;cases this
    |_=>cases e<;>exact hm _ (by simp[SV.Ay])
theorem Vo{k:Nat}{g:TypeId}{t:Ty}{l:List (t.den N.T)}(h:Sat C CR n Of bs st η H a w)(hw:WF C CR bs st)(hk:Ai CR st.O k=some (.row g t l)):∃H',H.le H'/\Sat C CR n Of bs (Ht k t l st) η H' a w/\WF C CR bs (Ht k t l st):=by
 refine Vp h hw hk fun Y hn hsh hr=>?_
 rcases hr with e|⟨x,h1,xs,rfl,hL⟩
 ·cases e
 obtain⟨i,h2,h3⟩:=SM Of.O hn h1
 obtain⟨H',g1,g2,g3⟩:=hsh.freeze h2
 rw[h3]at g2
 exact⟨H',g1,g2,Fa.of (by rw[A5];exact g3) rf (hL.mono g1) (hsh.JW h2)⟩
theorem SH.Oa{α:Type}{c:Cd α}{e:TypeId}{A:List Ao} :∀ {l0:List (Bool×List α)} {xs:List Value} {rs:List (Option (Nat×List Value))} {H:Hp},P7 c H l0 xs rs->(∀p∈l0,p.1=true)->SH w H (A++Od e c.sz xs rs)->∃H',H.le H'/\SH w H' A/\AM (cL c) H' (l0.map (·.2)) xs
 | [],xs,rs,H,hF,_,h=>by
  have e1:=List.eq_nil_of_length_eq_zero hF.len
  have e2:=List.eq_nil_of_length_eq_zero hF.Xu
  subst e1;subst e2
  exact⟨H,Hp.le.refl H,by simpa [Od]using h,rf⟩
 |(b,d)::l0,[],rs,H,hF,_,h=>by have:=hF.len;simp at this
 |(b,d)::l0,_::_,[],H,hF,_,h=>by have:=hF.Xu;simp at this
 |(b,d)::l0,u::xs,r::rs,H,hF,ht,h=>by
  have hb:b=true:=ht (b,d) (by simp)
  subst hb
  obtain⟨ys,h1,h2⟩:=hF.own 0 d rfl
  have h1:r=some (d.length,ys):=by simpa using h1
  subst h1
  have hi:(A++Od e c.sz (u::xs) (some (d.length,ys)::rs))[A.length]?=some (.row u e c.sz d.length ys):=by simp[Od]
  have hle:=h.JW hi
  obtain⟨H1,g1,g2,g3⟩:=h.freeze hi
  have he:(A++Od e c.sz (u::xs) (some (d.length,ys)::rs)).eraseIdx A.length=A++Od e c.sz xs rs:=by
   rw[List.eraseIdx_append_of_length_le (Nat.le_refl _),Nat.sub_self];rfl
  rw[he]at g2
  have hF2:P7 c H1 l0 xs rs:=⟨by simpa using hF.len,by simpa using hF.Xu,fun i d hi=>by
   obtain⟨ys,k1,k2⟩:=hF.own (i+1) d (by simpa using hi)
   exact⟨ys,by simpa using k1,k2.mono g1⟩,fun i d hi=>by simpa using hF.not (i+1) d (by simpa using hi)⟩
  obtain⟨H2,k1,k2,k3⟩:=SH.Oa hF2 (fun p hp=>ht p (by simp[hp])) g2
  exact⟨H2,g1.trans k1,k2,[u],xs,rf,⟨u,rf,(Fa.of g3 rf (h2.mono g1) hle).mono k1⟩,k3⟩
theorem hH{k hh:Nat}{g e:TypeId}{t:Ty}{l:List (Bool×List (t.den N.T))}(h:Sat C CR n Of bs st η H a w)(hw:WF C CR bs st)(hk:Ai CR st.O k=some (.DB g e t hh l))(ht:l.all (·.1)=true):∃H',H.le H'/\Sat C CR n Of bs (Ht k (.sl t) (l.map (·.2)) st) η H' a w/\WF C CR bs (Ht k (.sl t) (l.map (·.2)) st):=by
 refine Vp h hw hk fun Y hn hsh hr=>?_
 rcases hr with e|⟨x,h1,xs,rs,rfl,_,hF⟩
 ·cases e
 obtain⟨i,h2,h3⟩:=SM Of.O hn h1
 have hfl:=hsh.flat h2
 obtain⟨H1,g1,g2,g3⟩:=SH.Oa (c:=N.c t) hF (fun p hp=>List.all_eq_true.1 ht p hp) (by rw[A5];exact hfl)
 have hl:=(List.getElem?_eq_some_iff.1 h2).1
 have htop:((Y.map (·.2)++Of.O).set i (.row (η k) g 1 l.length xs))[i]?=some (.row (η k) g 1 l.length xs):=by rw[List.getElem?_set,if_pos rfl,if_pos hl]
 have hle:=g2.JW htop
 obtain⟨H2,k1,k2,k3⟩:=g2.freeze htop
 have he:((Y.map (·.2)++Of.O).set i (.row (η k) g 1 l.length xs)).eraseIdx i=(Y.map (·.2)++Of.O).eraseIdx i:=by
  rw[List.eraseIdx_set_eq]
 rw[he,h3]at k2
 have hx:(l.map (·.2)).length=l.length:=List.length_map ..
 refine⟨H2,g1.trans k1,k2,?_⟩
 show Fa (cL (N.c t)) H2 (l.map (·.2)) (η k)
 exact⟨⟨xs,by rw[hx];exact k3,g3.mono k1⟩,by rw[hx];exact hle⟩
theorem im{α:Type}{c:Cd α}{H:Hp}(xs:List Value){m:Nat}(hm:xs.length=m):P7 c H (List.replicate m (false,([]:List α))) xs (List.replicate m none):=
 ⟨by simp[hm],by simp,fun i d hi=>by simp[List.getElem?_replicate]at hi,fun i d hi=>by
  simp only[List.getElem?_replicate]at hi⊢
  split at hi
  ·rename_i h;rw[if_pos h]
  ·cases hi⟩
theorem ig{w:World}{v:Value}{e e':TypeId}{n sz m:Nat}{xs:List Value}(h:w.ownsRow 0 e 1 v n xs):GA w v e n xs e' sz (List.replicate m none):=
 ⟨h,fun i u m ys _ hi=>by simp[List.getElem?_replicate]at hi,fun i j u u' m m' ys ys' b _ hi=>by simp[List.getElem?_replicate]at hi,fun i u m ys b _ hi=>by simp[List.getElem?_replicate]at hi⟩
theorem oB{b:Nat}{g e:TypeId}{t:Ty}{l:List (List (t.den N.T))}(h:Sat C CR n Of bs st η H a w)(hw:WF C CR bs st)(hf:Cp CR st st.nk=true)(hb:Ai CR st.O b=some (.row g (.sl t) l)):
  ∃η',Sat C CR n Of bs ⟨st.L,(b, .DB g e t st.nk (List.replicate l.length (false,[])))::(st.nk, .gone)::st.O,st.nk+1⟩ η' H a w/\WF C CR bs ⟨st.L,(b, .DB g e t st.nk (List.replicate l.length (false,[])))::(st.nk, .gone)::st.O,st.nk+1⟩:=by
 obtain⟨Y,hn,hsh,hlt,hres⟩:=h.own
 have hfr:=hf
 unfold Cp at hfr
 rw[Bool.and_eq_true]at hfr
 rcases hres b _ hb with q|⟨x,h1,xs,rfl,hL⟩
 ·cases q
 have Ea:∀k,k<st.nk->DF η st.nk (.tuple xs.toArray) k=η k:=fun k hk=>E4 (by omega)
 have mC:∀k∈Co C,DF η st.nk (.tuple xs.toArray) k=η k:=fun k hk=>Ea k (hw.mC k hk)
 have hlkb:An st.O b≠none:=fun q=>by unfold Ai at hb;rw[q]at hb;cases hb
 have hbn:b<st.nk:=Nat.lt_of_not_le fun hle=>hlkb (hw.ok b hle)
 obtain⟨i,h2,h3⟩:=GJ Of.O hn h1
 have hok:w.ownsRow 0 g 1 (η b) l.length xs:=hsh.ok i _ h2
 have hxl:xs.length=l.length:=by have:xs.length=l.length*1:=hL.len;omega
 have hsh2:SH w H ((Gj Y b (.DB (η b) g l.length xs e (t.sz N) (List.replicate l.length none))).map (·.2)++Of.O):=by
  rw[<-h3]
  refine hsh.nv h2 (row:=none) (fun _ q=>by cases q) (World.grownBy.refl w none) (ig hok) fun c hc=> .inl ?_
  rcases hc with hc|⟨i,u,m,ys,_,q,_⟩
  ·exact hc
  ·simp[List.getElem?_replicate]at q
 refine⟨DF η st.nk (.tuple xs.toArray),⟨h.inv,h.defers,h.size,fun p sv hp=>?_,fun p hp=>by rw[Ea p.1 (hw.lo p hp)];exact h.base p hp,Gj Y b (.DB (η b) g l.length xs e (t.sz N) (List.replicate l.length none)),by rw[DJ];exact hn,hsh2,fun k hk=>?_,fun k sr hk=>?_⟩,⟨fun p hp=>Nat.lt_succ_of_lt (hw.lo p hp),fun j hj=>?_,?_,fun k hk=>Nat.lt_succ_of_lt (hw.mC k hk),hw.cP⟩⟩
 ·refine(h.A6 p sv hp).env mC fun k hk=>Ea k ?_
  have:=List.all_eq_true.1 (List.all_eq_true.1 hfr.1 _ (AQ hp)) k hk
  simpa using this
 ·rw[DJ]at hk;exact Nat.lt_succ_of_lt (hlt k hk)
 ·unfold Ai at hk
  simp only[An]at hk
  cases hb1:Nat.beq b k with
  |true=>
   rw[hb1]at hk
   have:=Nat.eq_of_beq_eq_true hb1;subst this
   cases hk
   refine .inr ⟨_,Nn h1,xs,List.replicate l.length none,?_,Ar _ _ _,im xs hxl⟩
   rw[Ea b hbn,List.length_replicate]
  |false=>
   rw[hb1]at hk
   simp only at hk
   have hkb:k≠b:=fun q=>by subst q;simp at hb1
   cases hbk:Nat.beq st.nk k with
   |true=>rw[hbk]at hk;cases hk;exact .inl rfl
   |false=>
    rw[hbk]at hk
    have hk:Ai CR st.O k=some sr:=hk
    rcases hres k sr hk with q|⟨y,y1,y2⟩
    ·exact .inl q
    ·have hlk:An st.O k≠none:=fun q=>by unfold Ai at hk;rw[q]at hk;cases hk
     have hkn:k<st.nk:=Nat.lt_of_not_le fun hle=>hlk (hw.ok k hle)
     exact .inr ⟨y,by rw[L9 hkb];exact y1,SR.is.env (Ea k hkn) mC (fun j hj=>Ea j (Da hk hf j hj)) y2⟩
 ·show An ((b,SR.DB g e t st.nk _)::(st.nk,SR.gone)::st.O) j=none
  have hj:st.nk+1<=j:=hj
  rw[AR (by omega),AR (by omega)];exact hw.ok j (by omega)
 ·obtain⟨τ,hτ⟩:=hw.wf
  refine⟨τ,fun p=>?_⟩
  have h2:=hτ p
  show CD τ (Ai CR ((b,SR.DB g e t st.nk _)::(st.nk,SR.gone)::st.O)) (Bx C st.L p)
  have h2:CD τ (Ai CR st.O) (Bx C st.L p):=h2
  cases hs:Bx C st.L p with
  |Di j i off te y=>
   rw[hs]at h2
   intro g' t' l' hl'
   unfold Ai at hl'
   simp only[An]at hl'
   cases hb1:Nat.beq b j with
   |true=>rw[hb1]at hl';cases hl'
   |false=>
    rw[hb1]at hl'
    simp only at hl'
    cases hbk:Nat.beq st.nk j with
    |true=>rw[hbk]at hl';cases hl'
    |false=>rw[hbk]at hl';exact h2 g' t' l' hl'
  |_=>rw[hs]at h2;exact h2
theorem XF{b off:Nat}{g g':TypeId}{t:Ty}{l l':SV N.T}(h:Sat C CR n Of bs st η H a w)(hw:WF C CR bs st)(hf:Cp CR st st.nk=true)(hb:Ai CR st.O b=some (.Af g' l))(hl:DR N C l off none=some (.raw (.slice none 0 0)))(hs:WZ N C 64 l off 1 (.Az st.nk)=some l')(hno:Lr (.Af g' l':SR N.T)=true):
  ∃η',Sat C CR n Of bs ⟨st.L,(b, .Af g' l')::(st.nk, .row g t [])::st.O,st.nk+1⟩ η' H a w/\WF C CR bs ⟨st.L,(b, .Af g' l')::(st.nk, .row g t [])::st.O,st.nk+1⟩:=by
 obtain⟨Y,hn,hsh,hlt,hres⟩:=h.own
 have hfr:=hf
 unfold Cp at hfr
 rw[Bool.and_eq_true]at hfr
 have Ea:∀k,k<st.nk->DF η st.nk (.slice none 0 0) k=η k:=fun k hk=>E4 (by omega)
 have mC:∀k∈Co C,DF η st.nk (.slice none 0 0) k=η k:=fun k hk=>Ea k (hw.mC k hk)
 have hlkb:An st.O b≠none:=fun e=>by unfold Ai at hb;rw[e]at hb;cases hb
 have hbn:b<st.nk:=Nat.lt_of_not_le fun hle=>hlkb (hw.ok b hle)
 refine⟨DF η st.nk (.slice none 0 0),⟨h.inv,h.defers,h.size,fun p sv hp=>?_,fun p hp=>by rw[Ea p.1 (hw.lo p hp)];exact h.base p hp,(st.nk, .row (.slice none 0 0) g (t.sz N) 0 [])::Y,?_,hsh.Fx g (t.sz N),fun k hk=>?_,fun k sr hk=>?_⟩,⟨fun p hp=>Nat.lt_succ_of_lt (hw.lo p hp),fun j hj=>?_,?_,fun k hk=>Nat.lt_succ_of_lt (hw.mC k hk),hw.cP⟩⟩
 ·refine(h.A6 p sv hp).env mC fun k hk=>Ea k ?_
  have:=List.all_eq_true.1 (List.all_eq_true.1 hfr.1 _ (AQ hp)) k hk
  simpa using this
 ·exact List.nodup_cons.2 ⟨fun hm=>absurd (hlt _ hm) (Nat.lt_irrefl _),hn⟩
 ·simp only[keys,List.map_cons,List.mem_cons]at hk
  rcases hk with e|hk
  ·subst e;exact Nat.lt_succ_self _
  ·exact Nat.lt_succ_of_lt (hlt k hk)
 ·unfold Ai at hk
  simp only[An]at hk
  cases hb1:Nat.beq b k with
  |true=>
   rw[hb1]at hk
   have:=Nat.eq_of_beq_eq_true hb1;subst this
   simp only[E0 hno]at hk
   cases hk
   rcases hres b _ hb with e|⟨x,h1,B,cs,e1,rfl,h2⟩
   ·cases e
   refine .inr ⟨_,by rw[AR (by omega)];exact h1,B,cs,by rw[Ea b hbn];exact e1,rf,?_⟩
   have h3:l.is C (DF η st.nk (.slice none 0 0)) H (.agg cs.toList.toArray):=by
    have h2':l.is C (DF η st.nk (.slice none 0 0)) H (.agg cs):=SV.is.env mC (fun j hj=>Ea j (Da hb hf j hj)) h2
    simpa using h2'
   obtain⟨c,⟨u,k1,k2,_⟩,k4⟩:=CJ (cs:=cs.toList) hl h3
   have k1:u= .slice none 0 0:=k1
   subst k1
   have k2:c=[.slice none 0 0]:=by rw[<-k2];exact AU rfl
   subst k2
   have hhd:(SV.Az st.nk:SV N.T).is C (DF η st.nk (.slice none 0 0)) H (.slice none 0 0):=⟨by rw[Ar],rfl⟩
   have hone:∀x∈(Value.slice none 0 0).cells.toList,x.oneCell'=true:=by rw[AU rfl];intro x hx;simp at hx;subst hx;rfl
   obtain⟨q1,q2⟩:=GH (v:= .slice none 0 0) hhd hone (by rw[AU rfl];exact hs) h3
   have e2:BZ cs.toList off (Value.slice none 0 0).cells.toList=cs.toList:=by
    rw[AU rfl]at q2⊢
    have hlt:off<cs.toList.length:=by simp only[List.length_cons,List.length_nil]at q2;omega
    rw[Qs _ _ _ hlt]
    have h0:cs.toList[off]?=some (.slice none 0 0):=drop_one k4
    refine List.ext_getElem? fun j=>?_
    rw[List.getElem?_set]
    split
    ·rename_i e;subst e;exact h0.symm
    ·rfl
   rw[e2]at q1
   simpa using q1
  |false=>
   rw[hb1]at hk
   simp only at hk
   cases hb:Nat.beq st.nk k with
   |true=>
    rw[hb]at hk;cases hk
    have:=Nat.eq_of_beq_eq_true hb;subst this
    exact .inr ⟨_,Dj _ _ _,[],by rw[Ar];rfl,rf⟩
   |false=>
    rw[hb]at hk
    have hk:Ai CR st.O k=some sr:=hk
    rcases hres k sr hk with e|⟨y,y1,y2⟩
    ·exact .inl e
    ·have hlk:An st.O k≠none:=fun e=>by unfold Ai at hk;rw[e]at hk;cases hk
     have hkn:k<st.nk:=Nat.lt_of_not_le fun hle=>hlk (hw.ok k hle)
     exact .inr ⟨y,by rw[AR (by omega)];exact y1,SR.is.env (Ea k hkn) mC (fun j hj=>Ea j (Da hk hf j hj)) y2⟩
 ·show An ((b,SR.Af g' l')::(st.nk,SR.row g t [])::st.O) j=none
  have hj:st.nk+1<=j:=hj
  rw[AR (by omega),AR (by omega)];exact hw.ok j (by omega)
 ·obtain⟨
      τ,hτ⟩:=hw.wf
  refine⟨τ,fun p=>?_⟩
  have h2:=hτ p
  show CD τ (Ai CR ((b,SR.Af g' l')::(st.nk,SR.row g t [])::st.O)) (Bx C st.L p)
  have key:∀s:SV N.T,(∀j i off te y,s= .Di j i off te y->j<st.nk)->CD τ (Ai CR st.O) s->CD τ (Ai CR ((b,SR.Af g' l')::(st.nk,SR.row g t [])::st.O)) s:=fun s hs hv=>by
   cases s with
   |Di j i off te y=>
    intro g2 t' l2 hl2
    have:=hs j i off te y rfl
    unfold Ai at hl2
    simp only[An]at hl2
    cases hb1:Nat.beq b j with
    |true=>rw[hb1]at hl2;simp only[E0 hno]at hl2;cases hl2
    |false=>
     rw[hb1]at hl2
     have e:Nat.beq st.nk j=false:=by
      cases hb3:Nat.beq st.nk j with
      |true=>have:=Nat.eq_of_beq_eq_true hb3;omega
      |false=>rfl
     rw[e]at hl2
     exact hv g2 t' l2 hl2
   |_=>exact hv
  refine key _ (fun j i off te y e=>?_) h2
  unfold Bx at e
  cases hx:An st.L p with
  |none=>rw[hx]at e;cases e
  |some x=>
   rw[hx]at e
   have hm:∀k∈x.Ay,k<st.nk:=fun k hk=>by
    have:=List.all_eq_true.1 (List.all_eq_true.1 hfr.1 _ (AQ hx)) k hk
    simpa using this
   cases x with
   |BO q=>
    simp only[res]at e
    rw[List.getD_eq_getElem?_getD]at e
    cases hc:C[q]? with
    |none=>rw[hc]at e;cases e
    |some s0=>
     rw[hc]at e
     have:=hw.cP s0 (List.mem_of_getElem? hc)
     have e:s0=_:=e
     subst e;cases this
   |_=>cases e<;>exact hm _ (by simp[SV.Ay])
end
end Go.GV
namespace Go.GV
open Go Go.GK
theorem Sm{l:List Nat}(h:l.Nodup):BF l=true:=by
 induction l with
 |nil=>rfl
 |cons k l ih=>
  rw[List.nodup_cons]at h
  simp only[BF,Bool.and_eq_true,Bool.not_eq_true',ih h.2,and_true]
  cases hb:Bw l k with
  |false=>rfl
  |true=>exact absurd (AB.1 hb) h.1
def PN:List Nat->List Nat
 | []=>[]
 |k::l=>if k∈l then PN l else k::PN l
theorem FI{k:Nat} :∀ {l:List Nat},k∈PN l↔k∈l
 | []=>Iff.rfl
 |j::l=>by
  unfold PN
  split
  ·rename_i h
   rw[FI,List.mem_cons]
   exact⟨.inr,fun e=>e.elim (fun e=>e▸h) id⟩
  ·rw[List.mem_cons,List.mem_cons,FI]
theorem MR:∀l:List Nat,(PN l).Nodup
 | []=>List.nodup_nil
 |j::l=>by
  unfold PN
  split
  ·exact MR l
  ·rename_i h
   exact List.nodup_cons.2 ⟨fun hm=>h (FI.1 hm),MR l⟩
section
variable {N : Cw} {C : List (SV N.T)} {CR : List (SR N.T)} {n : Nat} {Of : Fm} {bs : List (Nat × Value)} {st : St N.T} {η : Nat -> Value} {H : Hp} {a : Act} {w : World}
theorem Sat.conv{C2:List (SV N.T)}{CR2:List (SR N.T)}{st2:St N.T}(ρ:Nat->Nat)(h:Sat C CR n Of bs st η H a w)(hs:∀t sv,An st2.L t=some sv->sv.is C2 (fun c=>η (ρ c)) H (a.tmps.getD t undef))(hb:∀p∈bs,ρ p.1=p.1)
  (hr:∀c sr,Ai CR2 st2.O c=some sr->sr= .gone\/∃sr0,Ai CR st.O (ρ c)=some sr0/\sr0≠ .gone/\∀x,sr0.is C η H (ρ c) x->sr.is C2 (fun c=>η (ρ c)) H c x)
  (hinj:∀c c',c∈keys st2.O->c'∈keys st2.O->ρ c=ρ c'->c=c') (hk:∀c∈keys st2.O,c<st2.nk):Sat C2 CR2 n Of bs st2 (fun c=>η (ρ c)) H a w:=by
 obtain⟨Y,hn,hsh,hlt,hres⟩:=h.own
 let ks:=(PN (keys st2.O)).filter fun c=>(An Y (ρ c)).isSome
 have hksm:∀c∈ks,c∈keys st2.O:=fun c hc=>FI.1 (List.mem_filter.1 hc).1
 have hksn:ks.Nodup:=List.filter_sublist.nodup (MR _)
 let Y2:List (Nat×Ao):=ks.map fun c=>(c,(An Y (ρ c)).getD .emp)
 have hkY:keys Y2=ks:=by
  show(ks.map _).map _=ks
  rw[List.map_map]
  exact List.map_id _
 have hlk:∀c,c∈ks->∃x,An Y (ρ c)=some x/\An Y2 c=some x:=fun c hc=>by
  obtain⟨x,hx⟩:=Option.isSome_iff_exists.1 (List.mem_filter.1 hc).2
  refine⟨x,hx,Cc (by rw[hkY];exact hksn) (List.mem_map.2 ⟨c,hc,by rw[hx];rfl⟩)⟩
 let js:=ks.map fun c=>(keys Y).idxOf (ρ c)
 have hjs:∀l:List Nat,(∀c∈l,c∈ks)->(l.map fun c=>(keys Y).idxOf (ρ c)).filterMap ((Y.map (·.2)++Of.O)[·]?)=l.map fun c=>(An Y (ρ c)).getD .emp:=by
  intro l
  induction l with
  |nil=>intro _;rfl
  |cons c l ih=>
   intro hl
   obtain⟨x,hx,_⟩:=hlk c (hl c (by simp))
   rw[List.map_cons,List.filterMap_cons,(Jm Of.O hx).1,ih fun d hd=>hl d (by simp[hd]),List.map_cons,hx];rfl
 have inj:∀c∈ks,∀d∈ks,(keys Y).idxOf (ρ c)=(keys Y).idxOf (ρ d)->c=d:=fun c hc d hd e=>by
  obtain⟨x,hx,_⟩:=hlk c hc
  obtain⟨y,hy,_⟩:=hlk d hd
  have e1:=(Ce hx)
  have e2:=(Ce hy)
  have g1:(keys Y)[(keys Y).idxOf (ρ c)]?=some (ρ c):=by
   rw[List.getElem?_eq_getElem (List.idxOf_lt_length_iff.2 e1),List.getElem_idxOf]
  have g2:(keys Y)[(keys Y).idxOf (ρ d)]?=some (ρ d):=by
   rw[List.getElem?_eq_getElem (List.idxOf_lt_length_iff.2 e2),List.getElem_idxOf]
  rw[e,g2]at g1
  exact hinj c d (hksm c hc) (hksm d hd) (Option.some.inj g1).symm
 have hjn:js.Nodup:=by
  have key:∀l:List Nat,l.Nodup->(∀c∈l,c∈ks)->(l.map fun c=>(keys Y).idxOf (ρ c)).Nodup:=by
   intro l
   induction l with
   |nil=>intro _ _;exact List.nodup_nil
   |cons c l ih=>
    intro hn' hl
    rw[List.nodup_cons]at hn'
    rw[List.map_cons,List.nodup_cons]
    refine⟨fun hm=>?_,ih hn'.2 fun d hd=>hl d (by simp[hd])⟩
    obtain⟨d,hd,e⟩:=List.mem_map.1 hm
    have:=inj d (hl d (by simp[hd])) c (hl c (by simp)) e
    subst this;exact hn'.1 hd
  exact key ks hksn fun c hc=>hc
 have hsh2:SH w H (Y2.map (·.2)++Of.O):=by
  have:=SH.NN js Y.length (List.all_eq_true.2 fun j hj=>by
   obtain⟨c,hc,rfl⟩:=List.mem_map.1 hj
   obtain⟨x,hx,_⟩:=hlk c hc
   simpa using(Jm Of.O hx).2) (Sm hjn) (by simp) hsh
  unfold GK.NN at this
  rw[hjs ks (fun c hc=>hc),List.drop_append_of_le_length (by simp),List.drop_of_length_le (by simp),List.nil_append]at this
  have e:Y2.map (·.2)=ks.map fun c=>(An Y (ρ c)).getD .emp:=by
   show(ks.map _).map _=_
   rw[List.map_map];rfl
  rw[e];exact this
 refine⟨h.inv,h.defers,h.size,hs,fun p hp=>by show η (ρ p.1)=p.2;rw[hb p hp];exact h.base p hp,Y2,by rw[hkY];exact hksn,hsh2,fun k hk'=>hk k (hksm k (by rw[<-hkY];exact hk')),fun c sr hc=>?_⟩
 rcases hr c sr hc with e|⟨sr0,e1,e2,e3⟩
 ·exact .inl e
 ·rcases hres (ρ c) sr0 e1 with e|⟨x,g1,g2⟩
  ·exact absurd e e2
  ·have hck:c∈keys st2.O:=by
    unfold Ai at hc
    cases hl:An st2.O c with
    |none=>rw[hl]at hc;cases hc
    |some y=>exact Ce hl
   have hcks:c∈ks:=List.mem_filter.2 ⟨FI.2 hck,by rw[g1];rfl⟩
   obtain⟨x',g3,g4⟩:=hlk c hcks
   rw[g1]at g3;cases g3
   exact .inr ⟨x,g4,e3 x g2⟩
end
end Go.GV
namespace Go.GV
open Go Go.GK
section
variable (N : Cw)
def uH(C:List (SV N.T))(L:List (Nat×SV N.T))(l:List (Nat×SP)):List (Nat×Nat):=l.flatMap fun q=>match q.2,Bx C L q.1 with
 | .Az c, .Az k=>[(c,k)]
 | .loc c _, .loc k _=>[(c,k)]
 |_,_=>[]
def za(C:List (SV N.T))(CR:List (SR N.T))(O:List (Nat×SR N.T))(m:List (Nat×Nat))(l:List (Nat×RP)):List (Nat×Nat):=l.flatMap fun q=>match q.2,Ai CR O (AJ m q.1)with
 | .Af _ ls,some (.Af _ b)=>zb N C b ls
 | .DB _ _ h _,some (.DB _ _ _ h' _)=>[(h,h')]
 |_,_=>[]
def sn(C:List (SV N.T))(L:List (Nat×SV N.T))(l:List (Nat×SP)):List (Nat×SV N.T):=l.flatMap fun q=>match q.2 with
 | .v j _=>[(j,Bx C L q.1)]
 | .AK j _=>[(j,Bx C L q.1)]
 | .nat j=>[(j,Bx C L q.1)]
 |_=>[]
def gX(C:List (SV N.T))(CR:List (SR N.T))(O:List (Nat×SR N.T))(m:List (Nat×Nat))(l:List (Nat×RP)):List (Nat×SV N.T):=l.flatMap fun q=>match q.2,Ai CR O (AJ m q.1)with
 | .row _ j,some (.row _ t x)=>[(j, .d (.sl t) x)]
 | .map _ j,some (.map _ kt vt x)=>[(j, .d (.sl (.st (.pr kt vt))) x)]
 | .DB _ _ _ j,some (.DB _ _ t _ x)=>[(j, .d (.sl (.pr .bool (.sl t))) x)]
 | .Af _ ls,some (.Af _ b)=>gY N C b ls
 |_,_=>[]
def uX(C:List (SV N.T))(L:List (Nat×SV N.T))(m:List (Nat×Nat))(q:Nat×SP):Bool:=match q.2 with
 | .v _ _=>true
 | .AK _ _=>true
 | .nat _=>true
 | .c j=>match An L q.1 with
  |some (.BO i)=>Nat.beq i j
  |_=>false
 | .Az c=>match Bx C L q.1 with
  | .Az k=>Nat.beq (AJ m c) k
  |_=>false
 | .loc c off=>match Bx C L q.1 with
  | .loc k o=>Nat.beq (AJ m c) k&&Nat.beq off o
  |_=>false
 |_=>false
def uY(C:List (SV N.T))(b:SV N.T)(m:List (Nat×Nat))(q:Nat×Nat×SP):Bool:=match q.2.2 with
 | .v _ t=>match DR N C b q.1 (some t)with
  |some sv=>Nat.beq (RX N sv) q.2.1
  |none=>false
 | .nat _=>match DR N C b q.1 none with
  |some sv=>Nat.beq (RX N sv) q.2.1
  |none=>false
 | .c j=>match N4 N b q.1 q.2.1 with
  |some (.BO i)=>Nat.beq i j
  |_=>false
 | .Az c=>match DR N C b q.1 none with
  |some (.Az k)=>Nat.beq (AJ m c) k&&Nat.beq q.2.1 1
  |_=>false
 | .mp c=>match DR N C b q.1 none with
  |some (.mp k)=>Nat.beq (AJ m c) k&&Nat.beq q.2.1 1
  |_=>false
 | .AA f [] []=>match DR N C b q.1 none with
  |some (.AA g .vn [])=>Nat.beq f g&&Nat.beq q.2.1 1
  |_=>false
 | .px [c] .sf=>rT N (AJ m) c (DR N C b q.1 none)&&Nat.beq q.2.1 1
 |_=>false
def zk(C:List (SV N.T))(CR:List (SR N.T))(O:List (Nat×SR N.T))(m:List (Nat×Nat))(q:Nat×RP):Bool:=match q.2 with
 | .row g _=>match Ai CR O (AJ m q.1)with
  |some (.row g' _ _)=>Nat.beq g g'
  |_=>false
 | .Af g ls=>match Ai CR O (AJ m q.1)with
  |some (.Af g' b)=>Nat.beq g g'&&(whole b&&Nat.beq (Mc ls) (O8 N b)&&(K8 0 ls).all (uY N C b m))
  |_=>false
 | .c j=>match An O q.1 with
  |some (.BO i)=>Nat.beq i j&&Nat.beq (AJ m q.1) q.1
  |_=>false
 | .map g _=>match Ai CR O (AJ m q.1)with
  |some (.map g' _ _ _)=>Nat.beq g g'
  |_=>false
 | .DB g e h _=>match Ai CR O (AJ m q.1)with
  |some (.DB g' e' _ h' _)=>Nat.beq g g'&&(Nat.beq e e'&&Nat.beq (AJ m h) h')
  |_=>false
def om(C:List (SV N.T)):List Nat:=C.flatMap fun s=>match s with
 | .ct i _=>[i]
 | .cb i _=>[i]
 | .lt i _ _=>[i]
 |_=>[]
def MD(l:List (Nat×SP)):List (Nat×Nat):=l.flatMap fun q=>match q.2 with
 | .AK j i=>[(i,j)]
 |_=>[]
def zl(C:List (SV N.T))(CR:List (SR N.T))(kb:Nat)(p:AY)(m:List (Nat×Nat)):Bool:=(((p.ro.map (·.1)).all fun k=>Nat.blt k p.nk)&&((Co C).all fun k=>Nat.blt k p.nk&&Nat.beq (AJ m k) k))&&((Nat.ble kb p.nk&&((List.range kb).all fun k=>Nat.beq (AJ m k) k))&&(BF (p.ro.map fun q=>AJ m q.1)&&(BF (keys (MD p.sl))&&(!E8 (keys (MD p.sl)) (om N C)&&CR.all fun r=>r.Ay.all fun k=>Nat.blt k p.nk&&Nat.beq (AJ m k) k))))
def Oi(C:List (SV N.T))(CR:List (SR N.T))(kb:Nat)(p:AY)(st:St N.T):Option (Bu N p.hs):=
 let m1:=uH N C st.L p.sl
 let m:=m1++za N C CR st.O m1 p.ro
 match(zl N C CR kb p m&&(p.sl.all (uX N C st.L m)&&(p.ro.all (zk N C CR st.O m)&&BF ((sn N C st.L p.sl++gX N C CR st.O m p.ro).map (·.1)))))with
 |true=>oy N C (fun j=>(An (sn N C st.L p.sl++gX N C CR st.O m p.ro) j).getD .no) 0 p.hs
 |false=>none
end
end Go.GV
namespace Go.GV
open Go Go.GK
section
variable {N : Cw} {C : List (SV N.T)} {CR : List (SR N.T)} {n : Nat} {Of : Fm} {bs : List (Nat × Value)} {st : St N.T} {η : Nat -> Value} {H : Hp} {a : Act} {w : World}
theorem Yk{L:List (Nat×SV N.T)}{q:Nat×SP}{j:Nat}{l:List (Nat×SP)}(h:q∈l)(e:q.2= .nat j\/(∃t,q.2= .v j t)\/∃i,q.2= .AK j i):(j,Bx C L q.1)∈sn N C L l:=by
 refine List.mem_flatMap.2 ⟨q,h,?_⟩
 rcases e with e|⟨t,e⟩|⟨i,e⟩<;>(rw[e];simp)
theorem Yl{O:List (Nat×SR N.T)}{m:List (Nat×Nat)}{c:Nat}{g g':TypeId}{j:Nat}{t:Ty}{x:List (t.den N.T)}{l:List (Nat×RP)}(h:(c,RP.row g j)∈l)(hr:Ai CR O (AJ m c)=some (.row g' t x)):(j,SV.d (.sl t) x)∈gX N C CR O m l:=
 List.mem_flatMap.2 ⟨_,h,by simp[hr]⟩
theorem Ym{O:List (Nat×SR N.T)}{m:List (Nat×Nat)}{c:Nat}{g g':TypeId}{j:Nat}{kt vt:Ty}{x:List (kt.den N.T×vt.den N.T)}{l:List (Nat×RP)}(h:(c,RP.map g j)∈l)(hr:Ai CR O (AJ m c)=some (.map g' kt vt x)):(j,SV.d (.sl (.st (.pr kt vt))) x)∈gX N C CR O m l:=
 List.mem_flatMap.2 ⟨_,h,by simp[hr]⟩
theorem Yn{O:List (Nat×SR N.T)}{m:List (Nat×Nat)}{c:Nat}{g e g' e' h h':Nat}{j:Nat}{t:Ty}{x:List (Bool×List (t.den N.T))}{l:List (Nat×RP)}(hm:(c,RP.DB g e h j)∈l)(hr:Ai CR O (AJ m c)=some (.DB g' e' t h' x)):(j,SV.d (.sl (.pr .bool (.sl t))) x)∈gX N C CR O m l:=
 List.mem_flatMap.2 ⟨_,hm,by simp[hr]⟩
theorem Q7{O:List (Nat×SR N.T)}{m:List (Nat×Nat)}{c:Nat}{g g':TypeId}{ls:List (Nat×SP)}{b:SV N.T}{l:List (Nat×RP)}(h:(c,RP.Af g ls)∈l)(hr:Ai CR O (AJ m c)=some (.Af g' b)){z:Nat×SV N.T}(hz:z∈gY N C b ls):z∈gX N C CR O m l:=
 List.mem_flatMap.2 ⟨_,h,by simp[hr,hz]⟩
theorem Mf{m:List (Nat×Nat)}{k:Nat}(h:Nat.beq (AJ m k) k=true):AJ m k=k:=Nat.eq_of_beq_eq_true h
theorem instL_ok{hs:List HT}{x:Bu N hs}{b:SV N.T}{m:List (Nat×Nat)}{Hs:List (Nat×SV N.T)}{cs:List Value}(hP:Wj C Hs (BP N hs x))(hb:b.is C η H (.agg cs.toArray))(hone:∀y∈cs,y.oneCell'=true)(hm:∀k∈Co C,AJ m k=k):
  ∀(ls:List (Nat×SP)) (off:Nat),(∀q∈K8 off ls,uY N C b m q=true/\(∀j t,q.2.2= .v j t->(j,(DR N C b q.1 (some t)).getD .no)∈Hs)/\∀j,q.2.2= .nat j->(j,(DR N C b q.1 none).getD .no)∈Hs)->off+Mc ls=cs.length->
   (instL N hs x ls).is C (fun c=>η (AJ m c)) H (.agg (cs.drop off).toArray)
 | [],off,_,hl=>by
  have:cs.drop off=[]:=List.drop_of_length_le (by simp[Mc]at hl;omega)
  rw[this];exact Ls
 |(s,p)::ls,off,hq,hl=>by
  have hl:off+(s+Mc ls)=cs.length:=hl
  have ih:=instL_ok hP hb hone hm ls (off+s) (fun q hq'=>hq q (List.mem_cons_of_mem _ hq')) (by omega)
  obtain⟨hck,hv,hnat⟩:=hq (off,s,p) (List.mem_cons_self ..)
  have fin:∀ {u:Value},(inst N hs x p).is C (fun c=>η (AJ m c)) H u->u.cells.toList=(cs.drop off).take s->u.cells.toList.length=s->(instL N hs x ((s,p)::ls)).is C (fun c=>η (AJ m c)) H (.agg (cs.drop off).toArray):=fun{u} h1 h2 h3=>by
   have h4:=IG (s:=s) h1 h3 (fun y hy=>hone y (by rw[h2]at hy;exact List.mem_of_mem_drop (List.mem_of_mem_take hy))) ih
   rw[h2]at h3 h4
   rw[<-TY rfl h3]at h4
   exact h4
  unfold uY at hck
  simp only at hck hv hnat
  cases p with
  |v j t=>
   simp only at hck
   split at hck
   ·rename_i sv hsv
    have hsz:=Nat.eq_of_beq_eq_true hck
    obtain⟨c,hr,hc⟩:=CJ hsv hb
    have hlen:=BR hr
    obtain⟨u,h1,h2,_⟩:=hr
    have hmem:=hv j t rfl
    rw[hsv]at hmem
    have hlen:c.length=s:=by rw[hlen];exact hsz
    rw[hlen]at hc
    exact fin (hP.is hmem h1) (by rw[h2,hc]) (by rw[h2];exact hlen)
   ·cases hck
  |nat j=>
   simp only at hck
   split at hck
   ·rename_i sv hsv
    have hsz:=Nat.eq_of_beq_eq_true hck
    obtain⟨c,hr,hc⟩:=CJ hsv hb
    have hlen:=BR hr
    obtain⟨u,h1,h2,_⟩:=hr
    have hmem:=hnat j rfl
    rw[hsv]at hmem
    have hlen:c.length=s:=by rw[hlen];exact hsz
    rw[hlen]at hc
    exact fin (hP.is hmem h1) (by rw[h2,hc]) (by rw[h2];exact hlen)
   ·cases hck
  |c j=>
   simp only at hck
   split at hck
   ·rename_i i hi
    have:=Nat.eq_of_beq_eq_true hck
    subst this
    obtain⟨u,h1,h2,h3⟩:=UY hi hb
    exact fin (h1.env (fun k hk=>by rw[hm k hk]) (fun k hk=>by cases hk)) h2 h3
   ·cases hck
  |Az c=>
   simp only at hck
   split at hck
   ·rename_i k hk
    rw[Bool.and_eq_true]at hck
    have e1:=Nat.eq_of_beq_eq_true hck.1
    have e2:=Nat.eq_of_beq_eq_true hck.2
    subst e2
    obtain⟨cc,hr,hc⟩:=CJ hk hb
    have hlen:=BR hr
    obtain⟨u,h1,h2,_⟩:=hr
    have hlen:cc.length=1:=hlen
    rw[hlen]at hc
    exact fin (u:=u) ⟨by show u=η (AJ m c);rw[e1];exact h1.1,h1.2⟩ (by rw[h2,hc]) (by rw[h2];exact hlen)
   ·cases hck
  |mp c=>
   simp only at hck
   split at hck
   ·rename_i k hk
    rw[Bool.and_eq_true]at hck
    have e1:=Nat.eq_of_beq_eq_true hck.1
    have e2:=Nat.eq_of_beq_eq_true hck.2
    subst e2
    obtain⟨cc,hr,hc⟩:=CJ hk hb
    have hlen:=BR hr
    obtain⟨u,h1,h2,_⟩:=hr
    have hlen:cc.length=1:=hlen
    rw[hlen]at hc
    exact fin (u:=u) ⟨by show u=η (AJ m c);rw[e1];exact h1.1,h1.2⟩ (by rw[h2,hc]) (by rw[h2];exact hlen)
   ·cases hck
  |AA f fs cs=>
   cases fs with
   |cons _ _=>cases hck
   |nil=>
    cases cs with
    |cons _ _=>cases hck
    |nil=>
     simp only at hck
     split at hck
     ·rename_i g hk
      rw[Bool.and_eq_true]at hck
      have e1:=Nat.eq_of_beq_eq_true hck.1
      have e2:=Nat.eq_of_beq_eq_true hck.2
      subst e1;subst e2
      obtain⟨cc,hr,hc⟩:=CJ hk hb
      have hlen:=BR hr
      obtain⟨u,h1,h2,_⟩:=hr
      have hlen:cc.length=1:=hlen
      rw[hlen]at hc
      obtain⟨us,a1,a2⟩:=h1
      exact fin (u:=u) ⟨us,a1,a2⟩ (by rw[h2,hc]) (by rw[h2];exact hlen)
     ·cases hck
  |px cs z=>
   cases z with
   |sub _ _ _=>cases cs with
    |nil=>cases hck
    |cons c cs=>cases cs<;>cases hck
   |hc _=>cases cs with
    |nil=>cases hck
    |cons c cs=>cases cs<;>cases hck
   |sf=>
    match cs,hck with
    | [],hck=>cases hck
    | [c],hck=>
     simp only at hck
     rw[Bool.and_eq_true]at hck
     cases hk:DR N C b off none with
     |none=>rw[hk]at hck;cases hck.1
     |some s0=>
      rw[hk]at hck
      have e2:=Nat.eq_of_beq_eq_true hck.2
      subst e2
      obtain⟨cc,hr,hc⟩:=CJ hk hb
      have hlen:=BR hr
      obtain⟨u,h1,h2,_⟩:=hr
      obtain⟨h3,h4⟩:=T4 hck.1 h1
      rw[h4]at hlen
      rw[hlen]at hc
      exact fin (u:=u) h3 (by rw[h2,hc]) (by rw[h2];exact hlen)
    |_::_::_,hck=>cases hck
  |_=>cases hck
theorem CX{p:AY}{x:Bu N p.hs}{t:Nat}{sv:SV N.T}(h:An (Ep N p x).L t=some sv):∃q∈p.sl,q.1=t/\sv=inst N p.hs x q.2:=by
 obtain⟨q,hq,e⟩:=List.mem_map.1 (AQ h)
 cases e
 exact⟨q,hq,rf,rf⟩
theorem Kv{kb:Nat}{p:AY}{x:Bu N p.hs}(h:Sat C CR n Of bs st η H a w)(hw:WF C CR bs st)(hkb:∀q∈bs,q.1<kb)(hx:Oi N C CR kb p st=some x):∃η',Sat C CR n Of bs (Ep N p x) η' H a w/\WF C CR bs (Ep N p x):=by
 unfold Oi at hx
 simp only at hx
 generalize hm:uH N C st.L p.sl++za N C CR st.O (uH N C st.L p.sl) p.ro=m at hx
 split at hx
 ·rename_i hck
  simp only[Bool.and_eq_true]at hck
  obtain⟨hP,hS,hR,hN⟩:=hck
  unfold zl at hP
  simp only[Bool.and_eq_true,Bool.not_eq_true']at hP
  obtain⟨⟨p1,p2⟩,⟨p3,p4⟩,p5,p6,p7,p8⟩:=hP
  have hro:∀q∈p.ro,q.1<p.nk:=fun q hq=>by simpa using List.all_eq_true.1 p1 q.1 (List.mem_map.2 ⟨q,hq,rfl⟩)
  have hmC:∀k∈Co C,k<p.nk/\AJ m k=k:=fun k hk=>by
   have:=List.all_eq_true.1 p2 k hk
   rw[Bool.and_eq_true]at this
   exact⟨by simpa using this.1,Mf this.2⟩
  have hkbp:=Nat.le_of_ble_eq_true p3
  have hbase:∀k,k<kb->AJ m k=k:=fun k hk=>Mf (List.all_eq_true.1 p4 k (List.mem_range.2 hk))
  have hnd:=Ba hN
  have hol:Wj C (sn N C st.L p.sl++gX N C CR st.O m p.ro) (BP N p.hs x):=⟨fun j s hj=>by
   rcases Ho p.hs 0 x hx j with e|⟨h',y,e1,e2⟩
   ·exact .inl e
   ·refine .inr ⟨h',y,?_,e2⟩
    rw[Nat.zero_add,Cc hnd hj]at e1
    exact e1⟩
  have slot:∀q∈p.sl,∀ {C':List (SV N.T)} {η':Nat->Value} j,(q.2= .nat j\/(∃t,q.2= .v j t)\/∃i,q.2= .AK j i)->(BP N p.hs x j).is C' η' H (a.tmps.getD q.1 undef):=fun q hq {_ _} j e=>
   hol.is (List.mem_append.2 (.inl (Yk hq e))) (h.lk q.1)
  refine⟨fun c=>η (AJ m c),h.conv (AJ m) (fun t sv ht=>?_) (fun q hq=>hbase q.1 (hkb q hq)) (fun c sr hc=>?_) (fun c c' hc hc' e=>?_) (fun c hc=>?_),⟨fun q hq=>Nat.lt_of_lt_of_le (hkb q hq) hkbp,fun j hj=>?_,?_,fun k hk=>(hmC k hk).1,hw.cP⟩⟩
  ·obtain⟨q,hq,rfl,rfl⟩:=CX ht
   have hckS:=List.all_eq_true.1 hS q hq
   unfold uX at hckS
   cases hp:q.2 with
   |v j t=>exact slot q hq j (.inr (.inl ⟨t,hp⟩))
   |nat j=>exact slot q hq j (.inl hp)
   |AK j i=>
    have h1:=slot q hq (C':=C) (η':=fun c=>η (AJ m c)) j (.inr (.inr ⟨i,hp⟩))
    show(match BP N p.hs x j with| .na n=>SV.ct i n|s=>s).is C _ H _
    split
    ·rename_i n' e;rw[e]at h1;exact h1
    ·exact h1
   |c j=>
    rw[hp]at hckS
    simp only at hckS
    split at hckS
    ·rename_i i hi
     have:=Nat.eq_of_beq_eq_true hckS
     subst this
     exact(h.A6 q.1 _ hi).env (fun k hk=>by rw[(hmC k hk).2]) (fun k hk=>by cases hk)
    ·cases hckS
   |Az c=>
    rw[hp]at hckS
    simp only at hckS
    split at hckS
    ·rename_i k hk
     have e:=Nat.eq_of_beq_eq_true hckS
     have h1:=h.lk q.1
     rw[hk]at h1
     exact⟨by show _=η (AJ m c);rw[e];exact h1.1,h1.2⟩
    ·cases hckS
   |loc c off=>
    rw[hp]at hckS
    simp only at hckS
    split at hckS
    ·rename_i k o hk
     rw[Bool.and_eq_true]at hckS
     have e:=Nat.eq_of_beq_eq_true hckS.1
     have e2:=Nat.eq_of_beq_eq_true hckS.2
     subst e2
     have h1:=h.lk q.1
     rw[hk]at h1
     obtain⟨B,b1,b2⟩:=h1
     exact⟨B,by show η (AJ m c)=_;rw[e];exact b1,b2⟩
    ·cases hckS
   |_=>rw[hp]at hckS;cases hckS
  ·unfold Ai at hc
   cases hl:An (Ep N p x).O c with
   |none=>rw[hl]at hc;cases hc
   |some s0=>
    rw[hl]at hc;cases hc
    obtain⟨q,hq,e⟩:=List.mem_map.1 (AQ hl)
    obtain⟨q1,q2⟩:=q
    cases e
    have hckR:=List.all_eq_true.1 hR _ hq
    unfold zk at hckR
    cases q2 with
    |row g j=>
     simp only at hckR
     split at hckR
     ·rename_i g' t l hr
      have e:=Nat.eq_of_beq_eq_true hckR
      subst e
      have hmem:=Yl (C:=C) (CR:=CR) (O:=st.O) (m:=m) hq hr
      rcases hol.ok j _ (List.mem_append.2 (.inr hmem))with e|⟨h',y,e1,e2⟩
      ·left;show Ck CR (match BP N p.hs x j with| .d (.sl t) l=>SR.row g t l|_=> .gone)=_
       rw[e];rfl
      ·right
       refine⟨_,hr,by simp,fun X hX=>?_⟩
       show(Ck CR (match BP N p.hs x j with| .d (.sl t) l=>SR.row g t l|_=> .gone)).is C _ H _ X
       rw[e2]
       cases h' with
       |nat=>cases e1
       |Ae th=>
        obtain⟨f,hf,e3⟩:=Option.map_eq_some_iff.1 (show(LP N.T (.sl t) th).map (· l)=some y from e1)
        obtain⟨he,rfl⟩:=Bg hf
        have:=Ty.Bc he
        subst this
        cases e3
        exact hX
     ·cases hckR
    |map g j=>
     simp only at hckR
     split at hckR
     ·rename_i g' kt vt l hr
      have e:=Nat.eq_of_beq_eq_true hckR
      subst e
      have hmem:=Ym (C:=C) (CR:=CR) (O:=st.O) (m:=m) hq hr
      rcases hol.ok j _ (List.mem_append.2 (.inr hmem))with e|⟨h',y,e1,e2⟩
      ·left;show Ck CR (match BP N p.hs x j with| .d (.sl (.st (.pr kt vt))) l=>SR.map g kt vt l|_=> .gone)=_
       rw[e];rfl
      ·right
       refine⟨_,hr,by simp,fun X hX=>?_⟩
       show(Ck CR (match BP N p.hs x j with| .d (.sl (.st (.pr kt vt))) l=>SR.map g kt vt l|_=> .gone)).is C _ H _ X
       rw[e2]
       cases h' with
       |nat=>cases e1
       |Ae th=>
        obtain⟨f,hf,e3⟩:=Option.map_eq_some_iff.1 (show(LP N.T (.sl (.st (.pr kt vt))) th).map (· l)=some y from e1)
        obtain⟨he,rfl⟩:=Bg hf
        have:=Ty.Bc he
        subst this
        cases e3
        exact hX
     ·cases hckR
    |DB g e0 h0 j=>
     simp only at hckR
     split at hckR
     ·rename_i g' e' t h' l hr
      simp only[Bool.and_eq_true]at hckR
      have e1:=Nat.eq_of_beq_eq_true hckR.1
      have e2:=Nat.eq_of_beq_eq_true hckR.2.1
      have e3:=Nat.eq_of_beq_eq_true hckR.2.2
      subst e1;subst e2
      have hmem:=Yn (C:=C) (CR:=CR) (O:=st.O) (m:=m) hq hr
      rcases hol.ok j _ (List.mem_append.2 (.inr hmem))with e|⟨hh,y,k1,k2⟩
      ·left;show Ck CR (match BP N p.hs x j with| .d (.sl (.pr .bool (.sl t))) l=>SR.DB g e0 t h0 l|_=> .gone)=_
       rw[e];rfl
      ·right
       refine⟨_,hr,by simp,fun X hX=>?_⟩
       show(Ck CR (match BP N p.hs x j with| .d (.sl (.pr .bool (.sl t))) l=>SR.DB g e0 t h0 l|_=> .gone)).is C _ H _ X
       rw[k2]
       cases hh with
       |nat=>cases k1
       |Ae th=>
        obtain⟨f,hf,e3'⟩:=Option.map_eq_some_iff.1 (show(LP N.T (.sl (.pr .bool (.sl t))) th).map (· l)=some y from k1)
        obtain⟨he,rfl⟩:=Bg hf
        have:=Ty.Bc he
        subst this
        cases e3'
        obtain⟨xs,rs,z1,z2,z3⟩:=hX
        exact⟨xs,rs,z1,by show η (AJ m h0)=_;rw[e3];exact z2,z3⟩
     ·cases hckR
    |Af g ls=>
     simp only at hckR
     split at hckR
     ·rename_i g' b hr
      simp only[Bool.and_eq_true]at hckR
      have e:=Nat.eq_of_beq_eq_true hckR.1
      subst e
      right
      refine⟨_,hr,by simp,fun X hX=>?_⟩
      obtain⟨B,cs,b1,b2,b3⟩:=hX
      refine⟨B,cs,b1,b2,?_⟩
      have hlen:=FU (cs:=cs.toList) hckR.2.1.1 b3
      have:=instL_ok (η:=η) (cs:=cs.toList) hol b3 (HK hckR.2.1.1 b3) (fun k hk=>(hmC k hk).2) ls 0 (fun z hz=>⟨List.all_eq_true.1 hckR.2.2 z hz,fun j t e=>List.mem_append.2 (.inr (Q7 hq hr ((E2 hz).1 j t e))),fun j e=>List.mem_append.2 (.inr (Q7 hq hr ((E2 hz).2 j e)))⟩)
       (by rw[Nat.zero_add,Nat.eq_of_beq_eq_true hckR.2.1.2,hlen])
      simpa using this
     ·cases hckR
    |c j=>
     simp only at hckR
     split at hckR
     ·rename_i i hi
      rw[Bool.and_eq_true]at hckR
      have e:=Nat.eq_of_beq_eq_true hckR.1
      have e2:=Mf hckR.2
      subst e
      show CR.getD i .gone= .gone\/_
      cases hg:CR[i]? with
      |none=>left;rw[List.getD_eq_getElem?_getD,hg];rfl
      |some s0=>
       by_cases hs0:s0= .gone
       ·left;rw[List.getD_eq_getElem?_getD,hg];exact hs0
       ·right
        have hr:Ai CR st.O q1=some s0:=by unfold Ai;rw[hi];simp[Ck,List.getD_eq_getElem?_getD,hg]
        refine⟨s0,by rw[e2];exact hr,hs0,fun X hX=>?_⟩
        show(CR.getD i .gone).is C _ H _ X
        rw[List.getD_eq_getElem?_getD,hg]
        have hX:s0.is C η H q1 X:=by rw[e2]at hX;exact hX
        refine SR.is.env (by show η (AJ m q1)=η q1;rw[e2]) (fun k hk=>by show η (AJ m k)=η k;rw[(hmC k hk).2]) (fun k hk=>?_) hX
        have:=List.all_eq_true.1 (List.all_eq_true.1 p8 s0 (List.mem_of_getElem? hg)) k hk
        rw[Bool.and_eq_true]at this
        show η (AJ m k)=η k
        rw[Mf this.2]
     ·cases hckR
  ·have h1:=Ba p5
   obtain⟨q,hq,rfl⟩:=List.mem_map.1 hc
   obtain⟨q',hq',rfl⟩:=List.mem_map.1 hc'
   obtain⟨z,hz,rfl⟩:=List.mem_map.1 hq
   obtain⟨z',hz',rfl⟩:=List.mem_map.1 hq'
   have:=MB (f:=fun q:Nat×RP=>AJ m q.1) h1 hz hz' e
   subst this;rfl
  ·obtain⟨q,hq,rfl⟩:=List.mem_map.1 hc
   obtain⟨z,hz,rfl⟩:=List.mem_map.1 hq
   exact hro z hz
  ·have hj:p.nk<=j:=hj
   refine BV fun hm=>?_
   obtain⟨q,hq,rfl⟩:=List.mem_map.1 hm
   obtain⟨z,hz,rfl⟩:=List.mem_map.1 hq
   have:=hro z hz
   simp only at hj
   omega
  ·obtain⟨
       τ,hτ⟩:=hw.wf
   refine⟨fun i=>match An (MD p.sl) i with
    |some j=>(match BP N p.hs x j with| .na n=>n|_=>0)
    |none=>τ i,fun t=>?_⟩
   unfold Bx
   cases ht:An (Ep N p x).L t with
   |none=>trivial
   |some sv=>
    simp only
    obtain⟨q,hq,rfl,rfl⟩:=CX ht
    have plainP:∀j,DO (BP N p.hs x j)=true/\NU (BP N p.hs x j)=true:=fun j=>by
     rcases Ho p.hs 0 x hx j with e|⟨h',y,_,e2⟩
     ·rw[e];exact⟨rfl,rfl⟩
     ·rw[e2];cases h'<;>exact⟨rfl,rfl⟩
    have Gk:∀ {s:SV N.T},NU s=true->res C s=s:=fun{s} hs=>by cases s<;>first|rfl|cases hs
    cases hp:q.2 with
    |v j t=>show CD _ _ (res C (BP N p.hs x j));rw[Gk (plainP j).2];exact CT (plainP j).1
    |nat j=>show CD _ _ (res C (BP N p.hs x j));rw[Gk (plainP j).2];exact CT (plainP j).1
    |AK j i=>
     show CD _ _ (res C (match BP N p.hs x j with| .na n=>SV.ct i n|s=>s))
     have hid:An (MD p.sl) i=some j:=Cc (Ba p6) (List.mem_flatMap.2 ⟨q,hq,by rw[hp];simp⟩)
     split
     ·rename_i n' e
      show(match An (MD p.sl) i with|some j=>(match BP N p.hs x j with| .na n=>n|_=>0)|none=>τ i)=n'
      rw[hid];simp only[e]
     ·rename_i hne
      rw[Gk (plainP j).2];exact CT (plainP j).1
    |c j=>
     have hckS:=List.all_eq_true.1 hS q hq
     unfold uX at hckS
     rw[hp]at hckS
     simp only at hckS
     split at hckS
     ·rename_i i hi
      have:=Nat.eq_of_beq_eq_true hckS
      subst this
      have h2:=hτ q.1
      unfold Bx at h2
      rw[hi]at h2
      show CD _ _ (C.getD i .no)
      have h2:CD τ (Ai CR st.O) (C.getD i .no):=h2
      rw[List.getD_eq_getElem?_getD]at h2⊢
      cases hg:C[i]? with
      |none=>trivial
      |some s0=>
       rw[hg]at h2
       have hcm:=List.mem_of_getElem? hg
       have hp0:=hw.cP s0 hcm
       have nid:∀i',i'∈om N C->An (MD p.sl) i'=none:=fun i' hi'=>BV fun hm=>NW p7 hm hi'
       simp only[Option.getD_some]at h2⊢
       cases s0 with
       |ct i' n'=>show(match An (MD p.sl) i' with|some j=>_|none=>τ i')=n';rw[nid i' (List.mem_flatMap.2 ⟨_,hcm,by simp⟩)];exact h2
       |cb i' n'=>show(match An (MD p.sl) i' with|some j=>_|none=>τ i')=n';rw[nid i' (List.mem_flatMap.2 ⟨_,hcm,by simp⟩)];exact h2
       |lt i' n' m'=>show(match An (MD p.sl) i' with|some j=>_|none=>τ i')=n';rw[nid i' (List.mem_flatMap.2 ⟨_,hcm,by simp⟩)];exact h2
       |Di k i off t y=>cases hp0
       |_=>trivial
     ·cases hckS
    |sv ls=>cases ls<;>trivial
    |pd j t off=>
     show CD _ _ (res C (match BP N p.hs x j with| .d t x=>SV.pd t x off|_=> .no))
     split<;>trivial
    |px ks z=>cases z with
     |sf=>trivial
     |hc _=>trivial
     |sub j n t=>
      show CD _ _ (res C (match BP N p.hs x j,BP N p.hs x n with| .na i, .na m=>SV.px ks (.sub i m t)|_,_=> .px ks .any))
      split<;>trivial
    |_=>trivial
 ·cases hx
end
end Go.GV
namespace Go.GV
open Go Go.GK
def clean{T:Nat->Type} :SV T->Bool
 | .BO _=>false
 | .Di _ _ _ _ _=>false
 | .lf _ a l=>clean a&&clean l
 | .t2 a b=>clean a&&clean b
 | .t3 a b c=>clean a&&(clean b&&clean c)
 | .AA _ l _=>clean l
 | .vc a l=>clean a&&clean l
 |_=>true
section
variable {N : Cw} {C : List (SV N.T)} {CR : List (SR N.T)} {n : Nat} {Of : Fm} {bs : List (Nat × Value)} {st : St N.T} {η : Nat -> Value} {H : Hp} {a : Act} {w : World}
theorem BX{g g':Nat->Value->Prop} :∀ {s:SV N.T} {v:Value},clean s=true->s.Bo g η H v->s.Bo g' η H v
 | .lf s a l,v,hc,⟨c1,c2,u,h1,h2,h3,h4,h5,h6⟩=>by
  simp only[clean,Bool.and_eq_true]at hc
  exact⟨c1,c2,u,h1,h2,BX hc.1 h3,h4,h5,BX hc.2 h6⟩
 | .t2 a b,v,hc,⟨x,y,h1,h2,h3⟩=>by
  simp only[clean,Bool.and_eq_true]at hc
  exact⟨x,y,h1,BX hc.1 h2,BX hc.2 h3⟩
 | .t3 a b c,v,hc,⟨x,y,z,h1,h2,h3,h4⟩=>by
  simp only[clean,Bool.and_eq_true]at hc
  exact⟨x,y,z,h1,BX hc.1 h2,BX hc.2.1 h3,BX hc.2.2 h4⟩
 | .AA f r cs,v,hc,⟨us,h1,h2⟩=>⟨us,h1,BX (by simpa [clean]using hc) h2⟩
 | .vn,_,_,h=>h
 | .vc a r,v,hc,⟨u,us,h1,h2,h3⟩=>by
  simp only[clean,Bool.and_eq_true]at hc
  exact⟨u,us,h1,BX hc.1 h2,BX hc.2 h3⟩
 | .d _ _,_,_,h=>h
 | .na _,_,_,h=>h
 | .ct _ _,_,_,h=>h
 | .cb _ _,_,_,h=>h
 | .lt _ _ _,_,_,h=>h
 | .lb _,_,_,h=>h
 | .raw _,_,_,h=>h
 | .ud,_,_,h=>h
 | .no,_,_,h=>h
 | .loc _ _,_,_,h=>h
 | .Az _,_,_,h=>h
 | .Di _ _ _ _ _,_,hc,_=>by cases hc
 | .pd _ _ _,_,_,h=>h
 | .mp _,_,_,h=>h
 | .nl,_,_,h=>h
 | .px _ _,_,_,h=>h
 | .BO _,_,hc,_=>by cases hc
theorem IU{s:SV N.T}(h:clean s=true):NS s=true:=by cases s<;>first|rfl|cases h
theorem H6{X:List (SV N.T)}{s:SV N.T}{v:Value}(h:s.is C η H v):s.is (C++X) η H v:=
 SV.Bo.imp (fun j v ⟨s,e,h⟩=>⟨s,by rw[List.getElem?_append_left (List.getElem?_eq_some_iff.1 e).1];exact e,h⟩) h
theorem Q5{X:List (SV N.T)}{s:SR N.T}{k:Nat}{r:Ao}(h:s.is C η H k r):s.is (C++X) η H k r:=by
 cases s with
 |Af g l=>obtain⟨B,cs,h1,h2,h3⟩:=h;exact⟨B,cs,h1,h2,H6 h3⟩
 |row g t l=>exact h
 |BO j=>exact h
 |gone=>exact h
 |map g kt vt l=>exact h
 |DB _ _ _ _ _=>exact h
def I4(L:List (Nat×SV N.T)):List (Nat×SP)->List (SV N.T)->List (Nat×SP)×List (SV N.T)
 | [],C=>([],C)
 |q::l,C=>match q.2 with
  | .Aa=>match An L q.1 with
   |none=>I4 L l C
   |some (.BO j)=>((q.1, .c j)::(I4 L l C).1,(I4 L l C).2)
   |some s=>((q.1, .c C.length)::(I4 L l (C++[s])).1,(I4 L l (C++[s])).2)
  |_=>(q::(I4 L l C).1,(I4 L l C).2)
def IP(O:List (Nat×SR N.T)):List (Nat×RP)->List (SR N.T)->List (Nat×RP)×List (SR N.T)
 | [],CR=>([],CR)
 |q::l,CR=>match q.2 with
  | .c _=>match An O q.1 with
   |none=>IP O l CR
   |some (.BO j)=>((q.1, .c j)::(IP O l CR).1,(IP O l CR).2)
   |some s=>((q.1, .c CR.length)::(IP O l (CR++[s])).1,(IP O l (CR++[s])).2)
  |_=>(q::(IP O l CR).1,(IP O l CR).2)
def mK(l:List (Nat×SP)):List (Nat×SV N.T):=l.filterMap fun q=>match q.2 with
 | .c j=>some (q.1, .BO j)
 |_=>none
def YH(l:List (Nat×RP)):List (Nat×SR N.T):=l.filterMap fun q=>match q.2 with
 | .c j=>some (q.1, .BO j)
 |_=>none
theorem Ik{L:List (Nat×SV N.T)} :∀(l:List (Nat×SP)) (C:List (SV N.T)),(∃X,(I4 L l C).2=C++X)/\∀q∈(I4 L l C).1,∀j,q.2= .c j->q∈l\/An L q.1=some (.BO j)\/∃s,An L q.1=some s/\(I4 L l C).2[j]?=some s/\C.length<=j
 | [],C=>⟨⟨[],by simp[I4]⟩,fun q hq=>by cases hq⟩
 |p::l,C=>by
  unfold I4
  split
  ·split
   ·obtain⟨h1,h2⟩:=Ik (L:=L) l C
    exact⟨h1,fun q hq j e=>(h2 q hq j e).imp (List.mem_cons_of_mem _) id⟩
   ·rename_i j' hj
    obtain⟨h1,h2⟩:=Ik (L:=L) l C
    refine⟨h1,fun q hq j e=>?_⟩
    rcases List.mem_cons.1 hq with rfl|hq
    ·cases e;exact .inr (.inl hj)
    ·exact(h2 q hq j e).imp (List.mem_cons_of_mem _) id
   ·rename_i s hs hl
    obtain⟨⟨X,hX⟩,h2⟩:=Ik (L:=L) l (C++[s])
    refine⟨⟨[s]++X,by simp only;rw[hX,List.append_assoc]⟩,fun q hq j e=>?_⟩
    rcases List.mem_cons.1 hq with rfl|hq
    ·cases e
     refine .inr (.inr ⟨s,hl,?_,Nat.le_refl _⟩)
     simp only
     rw[hX,List.append_assoc,List.getElem?_append_right (Nat.le_refl _)];simp
    ·rcases h2 q hq j e with h|h|⟨s',h3,h4,h5⟩
     ·exact .inl (List.mem_cons_of_mem _ h)
     ·exact .inr (.inl h)
     ·exact .inr (.inr ⟨s',h3,h4,by simp at h5;omega⟩)
  ·obtain⟨h1,h2⟩:=Ik (L:=L) l C
   refine⟨h1,fun q hq j e=>?_⟩
   rcases List.mem_cons.1 hq with rfl|hq
   ·exact .inl (List.mem_cons_self ..)
   ·exact(h2 q hq j e).imp (List.mem_cons_of_mem _) id
theorem Il{O:List (Nat×SR N.T)} :∀(l:List (Nat×RP)) (CR:List (SR N.T)),(∀q∈l,∀j,q.2= .c j->j=0\/True)->(∃X,(IP O l CR).2=CR++X)/\∀q∈(IP O l CR).1,∀j,q.2= .c j->An O q.1=some (.BO j)\/∃s,An O q.1=some s/\Lr s=true/\(IP O l CR).2[j]?=some s
 | [],CR,_=>⟨⟨[],by simp[IP]⟩,fun q hq=>by cases hq⟩
 |p::l,CR,hl=>by
  unfold IP
  split
  ·split
   ·exact Il l CR fun _ _ _ _=> .inr trivial
   ·rename_i j' hj
    obtain⟨h1,h2⟩:=Il (O:=O) l CR fun _ _ _ _=> .inr trivial
    refine⟨h1,fun q hq j e=>?_⟩
    rcases List.mem_cons.1 hq with rfl|hq
    ·cases e;exact .inl hj
    ·exact h2 q hq j e
   ·rename_i s hs hl
    obtain⟨⟨X,hX⟩,h2⟩:=Il (O:=O) l (CR++[s]) fun _ _ _ _=> .inr trivial
    refine⟨⟨[s]++X,by simp only;rw[hX,List.append_assoc]⟩,fun q hq j e=>?_⟩
    rcases List.mem_cons.1 hq with rfl|hq
    ·cases e
     refine .inr ⟨s,hl,?_,?_⟩
     ·cases s with
      |BO j=>exact absurd rfl (hs j)
      |_=>rfl
     ·simp only
      rw[hX,List.append_assoc,List.getElem?_append_right (Nat.le_refl _)];simp
    ·exact h2 q hq j e
  ·rename_i hne
   obtain⟨h1,h2⟩:=Il (O:=O) l CR fun _ _ _ _=> .inr trivial
   refine⟨h1,fun q hq j e=>?_⟩
   rcases List.mem_cons.1 hq with rfl|hq
   ·exact absurd e (hne j)
   ·exact h2 q hq j e
def Dk(CR:List (SR N.T)):SR N.T->Bool
 | .BO j=>Nat.blt j CR.length
 |_=>true
def uV(C C':List (SV N.T))(CR:List (SR N.T))(st:St N.T)(kp:List (Nat×SP)):Bool:=((C'.drop C.length).all clean&&(C'.drop C.length).all fun s=>s.Ay.all fun k=>Nat.blt k st.nk)&&((st.O.all fun p=>Dk CR p.2)&&kp.all fun q=>match q.2 with
 | .c _=>false
 |_=>true)
theorem oM{p:AY}(h:Sat C CR n Of bs st η H a w)(hw:WF C CR bs st)(hb:uV C (I4 st.L p.sl C).2 CR st p.sl=true):
  Sat (I4 st.L p.sl C).2 (IP st.O p.ro CR).2 n Of bs ⟨mK (I4 st.L p.sl C).1++st.L,YH (IP st.O p.ro CR).1++st.O,st.nk⟩ η H a w/\WF (I4 st.L p.sl C).2 (IP st.O p.ro CR).2 bs ⟨mK (I4 st.L p.sl C).1++st.L,YH (IP st.O p.ro CR).1++st.O,st.nk⟩:=by
 obtain⟨⟨X,hX⟩,hS⟩:=Ik (L:=st.L) p.sl C
 obtain⟨⟨Z,hZ⟩,hR⟩:=Il (O:=st.O) p.ro CR fun _ _ _ _=> .inr trivial
 unfold uV at hb
 simp only[Bool.and_eq_true]at hb
 obtain⟨⟨b1,b2⟩,b3,b4⟩:=hb
 generalize hC':(I4 st.L p.sl C).2=C' at hX hS b1 b2
 generalize hCR':(IP st.O p.ro CR).2=CR' at hZ hR
 have hsl:∀q∈(I4 st.L p.sl C).1,∀j,q.2= .c j->An st.L q.1=some (.BO j)\/∃s,An st.L q.1=some s/\C'[j]?=some s/\C.length<=j:=fun q hq j e=>by
  rcases hS q hq j e with h|h|h
  ·have:=List.all_eq_true.1 b4 q h
   rw[e]at this;cases this
  ·exact .inl h
  ·exact .inr h
 have hcl:∀j s,C'[j]?=some s->C.length<=j->clean s=true/\∀k∈s.Ay,k<st.nk:=fun j s hj hle=>by
  have hm:s∈C'.drop C.length:=by
   refine List.mem_of_getElem? (i:=j-C.length) ?_
   rw[List.getElem?_drop,show C.length+(j-C.length)=j by omega];exact hj
  exact⟨List.all_eq_true.1 b1 s hm,fun k hk=>by have:=List.all_eq_true.1 (List.all_eq_true.1 b2 s hm) k hk;simpa using this⟩
 have hC'm:∀s∈C',(s∈C)\/(clean s=true/\∀k∈s.Ay,k<st.nk):=fun s hs=>by
  obtain⟨j,hj⟩:=List.mem_iff_getElem?.1 hs
  by_cases hlt:j<C.length
  ·rw[hX,List.getElem?_append_left hlt]at hj
   exact .inl (List.mem_of_getElem? hj)
  ·exact .inr (hcl j s hj (by omega))
 have lkL:∀t sv,An (mK (I4 st.L p.sl C).1++st.L) t=some sv->An st.L t=some sv\/∃j s,sv= .BO j/\An st.L t=some s/\C'[j]?=some s/\C.length<=j:=fun t sv ht=>by
  rw[Bq]at ht
  cases hl:An (mK (I4 st.L p.sl C).1:List (Nat×SV N.T)) t with
  |none=>rw[hl]at ht;exact .inl ht
  |some x=>
   rw[hl]at ht;cases ht
   obtain⟨q,hq,e⟩:=List.mem_filterMap.1 (AQ hl)
   obtain⟨q1,q2⟩:=q
   cases q2 with
   |c j=>
    cases e
    rcases hsl _ hq j rfl with h|⟨s,h1,h2,h3⟩
    ·exact .inl h
    ·exact .inr ⟨j,s,rf,h1,h2,h3⟩
   |_=>cases e
 have rrO:∀k sr,Ai CR' (YH (IP st.O p.ro CR).1++st.O) k=some sr->Ai CR st.O k=some sr:=fun k sr hk=>by
  have Ea:∀s,An st.O k=some s->Ck CR' s=Ck CR s:=fun s hs=>by
   cases s with
   |BO j=>
    have:=List.all_eq_true.1 b3 _ (AQ hs)
    have hj:j<CR.length:=by simpa [Dk]using this
    simp only[Ck]
    rw[List.getD_eq_getElem?_getD,List.getD_eq_getElem?_getD,hZ,List.getElem?_append_left hj]
   |_=>rfl
  unfold Ai at hk⊢
  rw[Bq]at hk
  cases hl:An (YH (IP st.O p.ro CR).1:List (Nat×SR N.T)) k with
  |none=>
   rw[hl]at hk
   cases hs:An st.O k with
   |none=>rw[hs]at hk;cases hk
   |some s=>
    rw[hs]at hk
    show some (Ck CR s)=some sr
    rw[<-Ea s hs];exact hk
  |some x=>
   rw[hl]at hk
   obtain⟨q,hq,e⟩:=List.mem_filterMap.1 (AQ hl)
   obtain⟨q1,q2⟩:=q
   cases q2 with
   |c j=>
    cases e
    rcases hR _ hq j rfl with h|⟨s,h1,h2,h3⟩
    ·have h:An st.O q1=some (.BO j):=h
     rw[h]
     show some (Ck CR (.BO j))=some sr
     rw[<-Ea _ h];exact hk
    ·have h1:An st.O q1=some s:=h1
     rw[h1]
     show some (Ck CR s)=some sr
     rw[E0 h2]
     simp only[Ck,List.getD_eq_getElem?_getD,h3,Option.getD_some]at hk
     exact hk
   |_=>cases e
 refine⟨⟨h.inv,h.defers,h.size,fun t sv ht=>?_,h.base,?_⟩,⟨hw.lo,fun j hj=>?_,?_,fun k hk=>?_,fun s hs=>?_⟩⟩
 ·rcases lkL t sv ht with h1|⟨j,s,rfl,h1,h2,h3⟩
  ·rw[hX];exact H6 (h.A6 t sv h1)
  ·exact⟨s,h2,BX (hcl j s h2 h3).1 (h.A6 t s h1)⟩
 ·obtain⟨Y,g1,g2,g3,g4⟩:=h.own
  refine⟨Y,g1,g2,g3,fun k sr hk=>?_⟩
  rcases g4 k sr (rrO k sr hk)with e|⟨x,g5,g6⟩
  ·exact .inl e
  ·exact .inr ⟨x,g5,by rw[hX];exact Q5 g6⟩
 ·show An (YH (IP st.O p.ro CR).1++st.O) j=none
  rw[Bq,hw.ok j hj]
  cases hl:An (YH (IP st.O p.ro CR).1:List (Nat×SR N.T)) j with
  |none=>rfl
  |some x=>
   obtain⟨q,hq,e⟩:=List.mem_filterMap.1 (AQ hl)
   obtain⟨q1,q2⟩:=q
   cases q2 with
   |c j'=>
    have hn:=hw.ok j hj
    have e1:q1=j:=by cases e;rfl
    subst e1
    rcases hR _ hq j' rfl with h|⟨s,h1,_⟩
    ·exact absurd (h.symm.trans hn) (by simp)
    ·exact absurd (h1.symm.trans hn) (by simp)
   |_=>cases e
 ·obtain⟨τ,hτ⟩:=hw.wf
  refine⟨τ,fun t=>?_⟩
  have key:∀s:SV N.T,NS s=true->CD τ (Ai CR st.O) s->CD τ (Ai CR' (YH (IP st.O p.ro CR).1++st.O)) s:=fun s hs hv=>by
   cases s<;>first|exact hv|cases hs
  have key2:∀s:SV N.T,CD τ (Ai CR st.O) s->CD τ (Ai CR' (YH (IP st.O p.ro CR).1++st.O)) s:=fun s hv=>by
   cases s with
   |Di k i off t y=>intro g t' l hl;exact hv g t' l (rrO k _ hl)
   |_=>exact hv
  unfold Bx
  cases ht:An (mK (I4 st.L p.sl C).1++st.L) t with
  |none=>trivial
  |some sv=>
   simp only
   rcases lkL t sv ht with h1|⟨j,s,rfl,h1,h2,h3⟩
   ·have h4:=hτ t
    unfold Bx at h4
    rw[h1]at h4
    have h4:CD τ (Ai CR st.O) (res C sv):=h4
    cases sv with
    |BO j=>
     simp only[res]at h4⊢
     rw[List.getD_eq_getElem?_getD]at h4⊢
     have hs:=h.A6 t _ h1
     obtain⟨s0,e0,_⟩:=hs
     rw[e0]at h4
     rw[hX,List.getElem?_append_left (List.getElem?_eq_some_iff.1 e0).1,e0]
     exact key2 _ h4
    |_=>exact key2 _ h4
   ·simp only[res]
    rw[List.getD_eq_getElem?_getD,h2]
    have h4:=hτ t
    unfold Bx at h4
    rw[h1]at h4
    have hc:=(hcl j s h2 h3).1
    have:res C s=s:=by cases s<;>first|rfl|cases hc
    have h4:CD τ (Ai CR st.O) (res C s):=h4
    rw[this]at h4
    exact key2 _ h4
 ·obtain⟨s,hs,hk⟩:=List.mem_flatMap.1 hk
  rcases hC'm s hs with h1|⟨_,h1⟩
  ·exact hw.mC k (List.mem_flatMap.2 ⟨s,h1,hk⟩)
  ·exact h1 k hk
 ·rcases hC'm s hs with h1|⟨h1,_⟩
  ·exact hw.cP s h1
  ·exact IU h1
def K1(C:List (SV N.T))(m:Nat):SV N.T->SV N.T
 | .BO j=>match Nat.blt j m with
  |true=> .BO j
  |false=>match C.getD j .no with
   | .BO _=> .no
   |s=>s
 | .lf s a l=> .lf s (K1 C m a) (K1 C m l)
 | .t2 a b=> .t2 (K1 C m a) (K1 C m b)
 | .t3 a b c=> .t3 (K1 C m a) (K1 C m b) (K1 C m c)
 | .AA f l cs=> .AA f (K1 C m l) cs
 | .vc a l=> .vc (K1 C m a) (K1 C m l)
 |s=>s
def nA(C:List (SV N.T))(CR:List (SR N.T))(m mr:Nat):SR N.T->SR N.T
 | .BO j=>match Nat.blt j mr with
  |true=> .BO j
  |false=>match CR.getD j .gone with
   | .Af g l=> .Af g (K1 C m l)
   | .BO _=> .gone
   |s=>s
 | .Af g l=> .Af g (K1 C m l)
 |s=>s
def C_(C:List (SV N.T))(CR:List (SR N.T))(m mr:Nat)(st:St N.T):St N.T:=⟨st.L.map fun p=>(p.1,K1 C m p.2),st.O.map fun p=>(p.1,nA C CR m mr p.2),st.nk⟩
theorem Dv{X:List (SV N.T)} :∀ {s:SV N.T} {v:Value},s.Bo (fun j v=> ∃s,(C++X)[j]?=some s/\SV.Bo (fun _ _=>False) η H s v) η H v->(K1 (C++X) C.length s).Bo (fun j v=> ∃s,C[j]?=some s/\SV.Bo (fun _ _=>False) η H s v) η H v
 | .BO j,v,⟨s,e,h⟩=>by
  unfold K1
  split
  ·rename_i hb
   have hj:j<C.length:=by simpa using hb
   rw[List.getElem?_append_left hj]at e
   exact⟨s,e,h⟩
  ·split
   ·trivial
   ·rw[List.getD_eq_getElem?_getD,e]
    exact SV.Bo.imp (fun _ _ h=>h.elim) h
 | .lf s a l,v,⟨c1,c2,u,h1,h2,h3,h4,h5,h6⟩=>⟨c1,c2,u,h1,h2,Dv h3,h4,h5,Dv h6⟩
 | .t2 a b,v,⟨x,y,h1,h2,h3⟩=>⟨x,y,h1,Dv h2,Dv h3⟩
 | .t3 a b c,v,⟨x,y,z,h1,h2,h3,h4⟩=>⟨x,y,z,h1,Dv h2,Dv h3,Dv h4⟩
 | .AA f r cs,v,⟨us,h1,h2⟩=>⟨us,h1,Dv h2⟩
 | .vn,_,h=>h
 | .vc a r,v,⟨u,us,h1,h2,h3⟩=>⟨u,us,h1,Dv h2,Dv h3⟩
 | .d _ _,_,h=>h
 | .na _,_,h=>h
 | .ct _ _,_,h=>h
 | .cb _ _,_,h=>h
 | .lt _ _ _,_,h=>h
 | .lb _,_,h=>h
 | .raw _,_,h=>h
 | .ud,_,h=>h
 | .no,_,h=>h
 | .loc _ _,_,h=>h
 | .Az _,_,h=>h
 | .Di _ _ _ _ _,_,h=>h
 | .pd _ _ _,_,h=>h
 | .mp _,_,h=>h
 | .nl,_,h=>h
 | .px _ _,_,h=>h
def Fg{T:Nat->Type}(m:Nat):SV T->Bool
 | .BO j=>Nat.blt j m
 | .lf _ a l=>Fg m a&&Fg m l
 | .t2 a b=>Fg m a&&Fg m b
 | .t3 a b c=>Fg m a&&(Fg m b&&Fg m c)
 | .AA _ l _=>Fg m l
 | .vc a l=>Fg m a&&Fg m l
 |_=>true
def Oz{T:Nat->Type}(m:Nat):SR T->Bool
 | .Af _ l=>Fg m l
 |_=>true
theorem CZ{X:List (SV N.T)} :∀ {s:SV N.T} {v:Value},Fg C.length s=true->s.Bo (fun j v=> ∃s,(C++X)[j]?=some s/\SV.Bo (fun _ _=>False) η H s v) η H v->s.Bo (fun j v=> ∃s,C[j]?=some s/\SV.Bo (fun _ _=>False) η H s v) η H v
 | .BO j,v,hc,⟨s,e,h⟩=>by
  have hj:j<C.length:=by simpa [Fg]using hc
  rw[List.getElem?_append_left hj]at e
  exact⟨s,e,h⟩
 | .lf s a l,v,hc,⟨c1,c2,u,h1,h2,h3,h4,h5,h6⟩=>by
  simp only[Fg,Bool.and_eq_true]at hc
  exact⟨c1,c2,u,h1,h2,CZ hc.1 h3,h4,h5,CZ hc.2 h6⟩
 | .t2 a b,v,hc,⟨x,y,h1,h2,h3⟩=>by
  simp only[Fg,Bool.and_eq_true]at hc
  exact⟨x,y,h1,CZ hc.1 h2,CZ hc.2 h3⟩
 | .t3 a b c,v,hc,⟨x,y,z,h1,h2,h3,h4⟩=>by
  simp only[Fg,Bool.and_eq_true]at hc
  exact⟨x,y,z,h1,CZ hc.1 h2,CZ hc.2.1 h3,CZ hc.2.2 h4⟩
 | .AA f r cs,v,hc,⟨us,h1,h2⟩=>⟨us,h1,CZ (by simpa [Fg]using hc) h2⟩
 | .vn,_,_,h=>h
 | .vc a r,v,hc,⟨u,us,h1,h2,h3⟩=>by
  simp only[Fg,Bool.and_eq_true]at hc
  exact⟨u,us,h1,CZ hc.1 h2,CZ hc.2 h3⟩
 | .d _ _,_,_,h=>h
 | .na _,_,_,h=>h
 | .ct _ _,_,_,h=>h
 | .cb _ _,_,_,h=>h
 | .lt _ _ _,_,_,h=>h
 | .lb _,_,_,h=>h
 | .raw _,_,_,h=>h
 | .ud,_,_,h=>h
 | .no,_,_,h=>h
 | .loc _ _,_,_,h=>h
 | .Az _,_,_,h=>h
 | .Di _ _ _ _ _,_,_,h=>h
 | .pd _ _ _,_,_,h=>h
 | .mp _,_,_,h=>h
 | .nl,_,_,h=>h
 | .px _ _,_,_,h=>h
theorem nz{X:List (SV N.T)}{Z:List (SR N.T)}(h:Sat (C++X) (CR++Z) n Of bs st η H a w)(hw:WF (C++X) (CR++Z) bs st)(hcl:CR.all (Oz C.length)=true):Sat C CR n Of bs (C_ (C++X) (CR++Z) C.length CR.length st) η H a w/\WF C CR bs (C_ (C++X) (CR++Z) C.length CR.length st):=by
 have rr:∀k sr,Ai CR (C_ (C++X) (CR++Z) C.length CR.length st).O k=some sr->sr= .gone\/∃s0,Ai (CR++Z) st.O k=some s0/\((sr=s0/\Oz C.length s0=true)\/∃g l,s0= .Af g l/\sr= .Af g (K1 (C++X) C.length l)):=fun k sr hk=>by
  unfold Ai C_ at hk
  simp only[CU (nA (C++X) (CR++Z) C.length CR.length)]at hk
  unfold Ai
  cases hl:An st.O k with
  |none=>rw[hl]at hk;cases hk
  |some s=>
   rw[hl]at hk
   simp only[Option.map_some,Option.some.injEq]at hk
   cases s with
   |Af g l=>subst hk;exact .inr ⟨_,rfl, .inr ⟨g,l,rfl,rfl⟩⟩
   |row g t l=>subst hk;exact .inr ⟨_,rfl, .inl ⟨rfl,rfl⟩⟩
   |map g kt vt l=>subst hk;exact .inr ⟨_,rfl, .inl ⟨rfl,rfl⟩⟩
   |DB _ _ _ _ _=>subst hk;exact .inr ⟨_,rfl, .inl ⟨rfl,rfl⟩⟩
   |gone=>exact .inl hk.symm
   |BO j=>
    simp only[nA]at hk
    split at hk
    ·rename_i hb
     have hj:j<CR.length:=by simpa using hb
     subst hk
     refine .inr ⟨_,rf, .inl ⟨?_,?_⟩⟩
     ·simp only[Ck,List.getD_eq_getElem?_getD,List.getElem?_append_left hj]
     ·simp only[Ck,List.getD_eq_getElem?_getD,List.getElem?_append_left hj]
      rw[List.getElem?_eq_getElem hj]
      exact List.all_eq_true.1 hcl _ (List.getElem_mem hj)
    ·split at hk
     ·rename_i g l e
      subst hk
      refine .inr ⟨_,rf, .inr ⟨g,l,?_,rf⟩⟩
      simp only[Ck];exact e
     ·exact .inl hk.symm
     ·rename_i s0 e1 e2
      have:Ck CR (CR++Z |>.getD j .gone)=(CR++Z).getD j .gone:=by
       cases hh:(CR++Z).getD j .gone with
       |BO i=>exact absurd hh (e2 i)
       |_=>rfl
      rw[this]at hk
      refine .inr ⟨_,rf, .inl ⟨hk.symm,?_⟩⟩
      simp only[Ck]
      cases hh:(CR++Z).getD j .gone with
      |Af g l=>exact absurd hh (e1 g l)
      |_=>rfl
 refine⟨⟨h.inv,h.defers,h.size,fun t sv ht=>?_,h.base,?_⟩,⟨hw.lo,fun j hj=>?_,?_,fun k hk=>hw.mC k (by unfold Co at hk⊢;rw[List.flatMap_append];exact List.mem_append.2 (.inl hk)),fun s hs=>hw.cP s (List.mem_append.2 (.inl hs))⟩⟩
 ·have ht:An (st.L.map fun p=>(p.1,K1 (C++X) C.length p.2)) t=some sv:=ht
  rw[CU (K1 (C++X) C.length)]at ht
  obtain⟨s,hs,rfl⟩:=Option.map_eq_some_iff.1 ht
  exact Dv (h.A6 t s hs)
 ·obtain⟨
      Y,g1,g2,g3,g4⟩:=h.own
  refine⟨Y,g1,g2,g3,fun k sr hk=>?_⟩
  rcases rr k sr hk with e|⟨s0,e1,e2⟩
  ·exact .inl e
  ·rcases g4 k s0 e1 with e|⟨x,g5,g6⟩
   ·subst e
    rcases e2 with⟨e,_⟩|⟨g,l,e,_⟩
    ·exact .inl e
    ·cases e
   ·refine .inr ⟨x,g5,?_⟩
    rcases e2 with⟨rfl,hc⟩|⟨g,l,rfl,rfl⟩
    ·cases sr with
     |Af g l=>
      obtain⟨B,cs,b1,b2,b3⟩:=g6
      exact⟨B,cs,b1,b2,CZ hc b3⟩
     |_=>exact g6
    ·obtain⟨B,cs,b1,b2,b3⟩:=g6
     exact⟨B,cs,b1,b2,Dv b3⟩
 ·show An (st.O.map fun p=>(p.1,nA (C++X) (CR++Z) C.length CR.length p.2)) j=none
  rw[CU (nA (C++X) (CR++Z) C.length CR.length),hw.ok j hj];rfl
 ·obtain⟨
      τ,hτ⟩:=hw.wf
  refine⟨τ,fun t=>?_⟩
  have h1:=hτ t
  unfold Bx at h1⊢
  have hm:An (C_ (C++X) (CR++Z) C.length CR.length st).L t=(An st.L t).map (K1 (C++X) C.length):=CU (K1 (C++X) C.length) st.L t
  rw[hm]
  cases hl:An st.L t with
  |none=>trivial
  |some s=>
   rw[hl]at h1
   have h1:CD τ (Ai (CR++Z) st.O) (res (C++X) s):=h1
   show CD τ _ (res C (K1 (C++X) C.length s))
   have np:∀s:SV N.T,NS s=true->CD τ (Ai (CR++Z) st.O) s->CD τ (Ai CR (C_ (C++X) (CR++Z) C.length CR.length st).O) s:=fun s hs hv=>by
    cases s<;>first|exact hv|cases hs
   cases s with
   |BO j=>
    simp only[res]at h1
    rw[List.getD_eq_getElem?_getD]at h1
    unfold K1
    split
    ·rename_i hb
     have hj:j<C.length:=by simpa using hb
     simp only[res]
     rw[List.getElem?_append_left hj]at h1
     rw[List.getD_eq_getElem?_getD]
     cases hc:C[j]? with
     |none=>trivial
     |some s0=>
      rw[hc]at h1
      exact np s0 (hw.cP s0 (List.mem_append.2 (.inl (List.mem_of_getElem? hc)))) h1
    ·split
     ·trivial
     ·rename_i hne
      rw[List.getD_eq_getElem?_getD]at hne⊢
      cases hc:(C++X)[j]? with
      |none=>trivial
      |some s0=>
       rw[hc]at h1 hne
       have hr:res C s0=s0:=by
        cases s0 with
        |BO i=>exact absurd rfl (hne i)
        |_=>rfl
       show CD τ _ (res C s0)
       rw[hr]
       exact np s0 (hw.cP s0 (List.mem_of_getElem? hc)) h1
   |Di k i off te y=>
    intro g' t' l' hl'
    rcases rr k _ hl' with e|⟨s0,e1,e2⟩
    ·cases e
    ·rcases e2 with⟨e,_⟩|⟨_,_,_,e⟩
     ·exact h1 g' t' l' (by rw[e1,<-e])
     ·cases e
   |_=>exact h1
end
end Go.GV
namespace Go.GV
open Go Go.GK
section
variable {N : Cw} {C : List (SV N.T)} {CR : List (SR N.T)} {n : Nat} {Of : Fm} {bs : List (Nat × Value)} {st : St N.T} {η : Nat -> Value} {H : Hp} {a : Act} {w : World}
def X8:List (Nat×SP)->SV N.T->List (SV N.T)->Option (List (Nat×SP)×(SV N.T×List (SV N.T)))
 | [],b,C=>some ([],(b,C))
 |(s,q)::ls,b,C=>match b with
  | .lf s' x r=>match Nat.beq s s' with
   |true=>match q with
    | .Aa=>match x with
     | .BO j=>(X8 ls r C).map fun p=>((s, .c j)::p.1,(.lf s' (.BO j) p.2.1,p.2.2))
     |x=>(X8 ls r (C++[x])).map fun p=>((s, .c C.length)::p.1,(.lf s' (.BO C.length) p.2.1,p.2.2))
    |q=>(X8 ls r C).map fun p=>((s,q)::p.1,(.lf s' x p.2.1,p.2.2))
   |false=>none
  |_=>none
theorem Eg:∀ {ls ls':List (Nat×SP)} {b b':SV N.T} {C C':List (SV N.T)},X8 ls b C=some (ls',(b',C'))->∃X,C'=C++X
 | [],_,_,_,_,_,h=>by cases h;exact⟨[],by simp⟩
 |(s,q)::ls,_,b,_,C,_,h=>by
  unfold X8 at h
  split at h
  ·split at h
   ·split at h
    ·split at h
     ·obtain⟨p,hp,e⟩:=Option.map_eq_some_iff.1 h
      cases e;exact Eg hp
     ·obtain⟨p,hp,e⟩:=Option.map_eq_some_iff.1 h
      cases e
      obtain⟨X,hX⟩:=Eg hp
      exact⟨[_]++X,by rw[hX,List.append_assoc]⟩
    ·obtain⟨p,hp,e⟩:=Option.map_eq_some_iff.1 h
     cases e;exact Eg hp
   ·cases h
  ·cases h
theorem Mx{g:Nat} :∀ {ls ls':List (Nat×SP)} {b b':SV N.T} {C C':List (SV N.T)} {v:Value},X8 ls b C=some (ls',(b',C'))->((C'.drop g).all clean)=true->g<=C.length->b.is C η H v->b'.is C' η H v
 | [],_,_,_,_,_,_,h,_,_,hb=>by cases h;exact hb
 |(s,q)::ls,_,b,_,C,C',v,h,hc,hg,hb=>by
  unfold X8 at h
  split at h
  ·rename_i s' x r
   split at h
   ·split at h
    ·split at h
     ·rename_i j
      obtain⟨p,hp,e⟩:=Option.map_eq_some_iff.1 h
      cases e
      obtain⟨X,hX⟩:=Eg hp
      obtain⟨c1,c2,u,h1,h2,h3,h4,h5,h6⟩:=hb
      exact⟨c1,c2,u,h1,h2,by rw[hX];exact H6 (s:= .BO j) h3,h4,h5,Mx hp hc hg h6⟩
     ·rename_i x' hx
      obtain⟨p,hp,e⟩:=Option.map_eq_some_iff.1 h
      cases e
      obtain⟨X,hX⟩:=Eg hp
      obtain⟨c1,c2,u,h1,h2,h3,h4,h5,h6⟩:=hb
      have hget:p.2.2[C.length]?=some x:=by rw[hX,List.append_assoc,List.getElem?_append_right (Nat.le_refl _)];simp
      have hcl:clean x=true:=by
       refine List.all_eq_true.1 hc x (List.mem_of_getElem? (i:=C.length-g) ?_)
       rw[List.getElem?_drop,show g+(C.length-g)=C.length by omega];exact hget
      exact⟨c1,c2,u,h1,h2,⟨x,hget,BX hcl h3⟩,h4,h5,Mx hp hc (by simp;omega) (H6 h6)⟩
    ·obtain⟨p,hp,e⟩:=Option.map_eq_some_iff.1 h
     cases e
     obtain⟨X,hX⟩:=Eg hp
     obtain⟨c1,c2,u,h1,h2,h3,h4,h5,h6⟩:=hb
     exact⟨c1,c2,u,h1,h2,by rw[hX];exact H6 h3,h4,h5,Mx hp hc hg h6⟩
   ·cases h
  ·cases h
def uI(C C':List (SV N.T))(nk:Nat):Bool:=(C'.drop C.length).all clean&&(C'.drop C.length).all fun s=>s.Ay.all fun k=>Nat.blt k nk
theorem gJ{k:Nat}{g:TypeId}{b b':SV N.T}{ls ls':List (Nat×SP)}{C':List (SV N.T)}(h:Sat C CR n Of bs st η H a w)(hw:WF C CR bs st)(hk:An st.O k=some (.Af g b))(hl:X8 ls b C=some (ls',(b',C')))(hb:uI C C' st.nk=true):
  Sat C' CR n Of bs ⟨st.L,(k, .Af g b')::st.O,st.nk⟩ η H a w/\WF C' CR bs ⟨st.L,(k, .Af g b')::st.O,st.nk⟩:=by
 obtain⟨X,hX⟩:=Eg hl
 unfold uI at hb
 rw[Bool.and_eq_true]at hb
 have hnew:∀s∈X,clean s=true/\∀k∈s.Ay,k<st.nk:=fun s hs=>by
  have hm:s∈C'.drop C.length:=by rw[hX,List.drop_left];exact hs
  exact⟨List.all_eq_true.1 hb.1 s hm,fun k hk=>by have:=List.all_eq_true.1 (List.all_eq_true.1 hb.2 s hm) k hk;simpa using this⟩
 have hbk:Ai CR st.O k=some (.Af g b):=by unfold Ai;rw[hk];rfl
 have hkn:k<st.nk:=Nat.lt_of_not_le fun hle=>by rw[hw.ok k hle]at hk;cases hk
 have rr:∀j,Ai CR ((k, .Af g b')::st.O) j=match Nat.beq k j with|true=>some (.Af g b')|false=>Ai CR st.O j:=fun j=>by
  unfold Ai
  simp only[An]
  cases Nat.beq k j<;>rfl
 refine⟨⟨h.inv,h.defers,h.size,fun t sv ht=>by rw[hX];exact H6 (h.A6 t sv ht),h.base,?_⟩,⟨hw.lo,fun j hj=>?_,?_,fun j hj=>?_,fun s hs=>?_⟩⟩
 ·obtain⟨Y,g1,g2,g3,g4⟩:=h.own
  refine⟨Y,g1,g2,g3,fun j sr hj=>?_⟩
  have hj2:Ai CR ((k, .Af g b')::st.O) j=some sr:=hj
  rw[rr j]at hj2
  split at hj2
  ·rename_i he
   have:=Nat.eq_of_beq_eq_true he;subst this
   cases hj2
   rcases g4 k _ hbk with e|⟨x,g5,B,cs,e1,e2,e3⟩
   ·cases e
   ·exact .inr ⟨x,g5,B,cs,e1,e2,Mx hl hb.1 (Nat.le_refl _) e3⟩
  ·exact(g4 j sr hj2).imp id fun⟨x,g5,g6⟩=>⟨x,g5,by rw[hX];exact Q5 g6⟩
 ·show An ((k,SR.Af g b')::st.O) j=none
  have hj:st.nk<=j:=hj
  rw[AR (by omega)];exact hw.ok j hj
 ·obtain⟨τ,hτ⟩:=hw.wf
  refine⟨τ,fun t=>?_⟩
  have h1:=hτ t
  have e:Bx C' st.L t=Bx C st.L t:=by
   unfold Bx
   cases ht:An st.L t with
   |none=>rfl
   |some s=>
    simp only
    cases s with
    |BO j=>
     obtain⟨s0,e0,_⟩:=h.A6 t _ ht
     simp only[res]
     rw[List.getD_eq_getElem?_getD,List.getD_eq_getElem?_getD,hX,List.getElem?_append_left (List.getElem?_eq_some_iff.1 e0).1]
    |_=>rfl
  show CD τ (Ai CR ((k, .Af g b')::st.O)) (Bx C' st.L t)
  rw[e]
  generalize Bx C st.L t=sv at h1
  cases sv with
  |Di j i off te y=>
   intro g' t' l' hl'
   rw[rr j]at hl'
   split at hl'
   ·cases hl'
   ·exact h1 g' t' l' hl'
  |_=>exact h1
 ·obtain⟨s,hs,hj⟩:=List.mem_flatMap.1 hj
  rw[hX]at hs
  rcases List.mem_append.1 hs with hs|hs
  ·exact hw.mC j (List.mem_flatMap.2 ⟨s,hs,hj⟩)
  ·exact(hnew s hs).2 j hj
 ·rw[hX]at hs
  rcases List.mem_append.1 hs with hs|hs
  ·exact hw.cP s hs
  ·exact IU (hnew s hs).1
def oq:List (Nat×SP)->Bool
 | []=>false
 |(_, .Aa)::_=>true
 |_::l=>oq l
def gI:List (Nat×RP)->List (SV N.T)->St N.T->Option (List (Nat×RP)×(St N.T×List (SV N.T)))
 | [],C,st=>some ([],(st,C))
 |q::l,C,st=>match q.2 with
  | .Af g ls=>match oq ls with
   |true=>match An st.O q.1 with
    |some (.Af g' b)=>match X8 ls b C with
     |some (ls',(b',C'))=>match uI C C' st.nk with
      |true=>(gI l C' ⟨st.L,(q.1, .Af g' b')::st.O,st.nk⟩).map fun p=>((q.1, .Af g ls')::p.1,p.2)
      |false=>none
     |none=>none
    |_=>none
   |false=>(gI l C st).map fun p=>(q::p.1,p.2)
  |_=>(gI l C st).map fun p=>(q::p.1,p.2)
theorem PA:∀ {l ro:List (Nat×RP)} {C C':List (SV N.T)} {st st':St N.T},gI l C st=some (ro,(st',C'))->Sat C CR n Of bs st η H a w->WF C CR bs st->(∃X,C'=C++X)/\Sat C' CR n Of bs st' η H a w/\WF C' CR bs st'
 | [],_,_,_,_,_,h,hs,hw=>by cases h;exact⟨⟨[],by simp⟩,hs,hw⟩
 |q::l,ro,C,C',st,st',h,hs,hw=>by
  have same:(gI l C st).map (fun p=>(q::p.1,p.2))=some (ro,(st',C'))->(∃X,C'=C++X)/\Sat C' CR n Of bs st' η H a w/\WF C' CR bs st':=fun h=>by
   obtain⟨⟨r,s,c⟩,hp,e⟩:=Option.map_eq_some_iff.1 h
   cases e;exact PA hp hs hw
  unfold gI at h
  split at h
  ·split at h
   ·split at h
    ·rename_i g' b hk
     split at h
     ·rename_i ls' b' C1 hl
      split at h
      ·rename_i hb
       obtain⟨⟨r,s,c⟩,hp,e⟩:=Option.map_eq_some_iff.1 h
       cases e
       obtain⟨h1,h2⟩:=gJ hs hw hk hl hb
       obtain⟨⟨Y,hY⟩,h3⟩:=PA hp h1 h2
       obtain⟨X,hX⟩:=Eg hl
       exact⟨⟨X++Y,by rw[hY,hX,List.append_assoc]⟩,h3⟩
      ·cases h
     ·cases h
    ·cases h
   ·exact same h
  ·exact same h
end
end Go.GV

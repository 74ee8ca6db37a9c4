/- Part 4 of the texts of this claim: what its theorem leans on. -/
import Derived.Test.YtkjngekgpgejnaaGreatDoorZLookupAgrees3
import Derived.RangeFuncLeaves
import Derived.RangeFuncRecord
import Derived.RangeFuncIn
import Derived.TacticsIn
import Derived.Scope
import Derived.Test.YtkjngekgpgejnaaGreatDoorZLookupAgrees1
import Derived.Shelf.Strconv.AppendUint10
import Derived.Shelf.Strconv.AppendIntPublic10
set_option linter.all false
set_option maxRecDepth 100000
set_option maxHeartbeats 4000000
namespace Go.GV
open Go Go.GK
abbrev Dz(D:Nat):Deferred:= {target:= .collected D,args:= #[]}
abbrev Bh(D:Nat):Ao:= .Af D (.deferred (some []))
def Lv(O:List Ao)(M:List Nat):Fm:=⟨M.map Bh++O,M.map Dz⟩
def IB(D:Nat)(Of:Fm):Fm:=⟨Bh D::Of.O,Dz D::Of.ds⟩
abbrev A4(fn:FuncId)(tmps:Array Value)(ps:Array Tmp)(assign body:Code)(D:Nat):Loop:= {state:= .ready,pending:=none,fn,tmps,params:=ps,assign,body,defers:=D}
theorem RS{P:Program}{g:Operand}{ps:Array Tmp}{assign body:Code}{Q:Exit->Act->World->Prop}{a:Act}{w:World}{f:FuncId}{us caps:List Value}(hg:a.eval g= .func (.func f) us.toArray caps.toArray)(hent:Nb P f)
  (h:∀fn,Calls P f (us++[Value.func (.yield (w.heap.size+1)) #[] #[]]++caps).toArray ((w.alloc (.deferred (some []))).alloc (.loop (A4 fn a.tmps ps assign body w.heap.size))) (fun e w'=> ∃v,e= .returned v/\w'.heap[w.heap.size+1]?=some (.loop (A4 fn a.tmps ps assign body w.heap.size))/\
   Q .normal {a with defers:=Dz w.heap.size::a.defers} (w'.putObj (w.heap.size+1) (.loop {A4 fn a.tmps ps assign body w.heap.size with state:= .exhausted})))):(Code.rangeFunc g ps assign body).wp P Q a w:=by
 refine(wpIn_wide (n:=0)).1 (wpIn_rangeFunc fun fn _=>?_)
 refine⟨w.heap.size+1,[Dz w.heap.size],(w.alloc (.deferred (some []))).alloc (.loop (A4 fn a.tmps ps assign body w.heap.size)),⟨.fn (.func f) caps.toArray,us.toArray++ #[Value.func (.yield (w.heap.size+1)) #[] #[]]⟩,(w.alloc (.deferred (some []))).alloc (.loop (A4 fn a.tmps ps assign body w.heap.size)),f,(us++[Value.func (.yield (w.heap.size+1)) #[] #[]]++caps).toArray,(w.alloc (.deferred (some []))).alloc (.loop (A4 fn a.tmps ps assign body w.heap.size)),?_,?_,?_,?_,?_,?_⟩
 ·exact run_enterLoop_outer _ _ _ _ _
 ·have:a.eval (.const (Value.func (.yield (w.heap.size+1)) #[] #[]))=Value.func (.yield (w.heap.size+1)) #[] #[]:=rfl
  simp[resolve,hg,Deferred.ofValue,this]
 ·exact fun _ _=>trivial
 ·have:=hent.run (us++[Value.func (.yield (w.heap.size+1)) #[] #[]]++caps).toArray ((w.alloc (.deferred (some []))).alloc (.loop (A4 fn a.tmps ps assign body w.heap.size)))
  simp[invoke]at this⊢
  rw[this]
 ·intro h;cases h
 ·refine callsIn_wide.2 ((h fn).mono ?_)
  rintro e w' ⟨v,rfl,h1,h2⟩
  exact⟨none,_,by have:=run_endLoop (P:=P) h1 (by simp);exact this,h2⟩
theorem RR{P:Program}{g:Operand}{ps:Array Tmp}{assign body:Code}{Q:Exit->Act->World->Prop}{a:Act}{w:World}{f:FuncId}{us caps:List Value}(hg:a.eval g= .func (.func f) us.toArray caps.toArray)(hent:Nb P f)
  (h:∀fn,Calls P f (us++[Value.func (.yield (w.heap.size+1)) #[] #[]]++caps).toArray ((w.alloc (.deferred (some []))).alloc (.loop (A4 fn a.tmps ps assign body w.heap.size))) (fun e w'=> ∃v rec,e= .returned v/\w'.heap[w.heap.size+1]?=some (.loop rec)/\rec.state≠ .busy/\
   (
    match rec.pending with
    |none=>Q .normal {a with defers:=Dz w.heap.size::a.defers} (w'.putObj (w.heap.size+1) (.loop {rec with state:= .exhausted}))
    |some c=>c.wp P Q {a with defers:=Dz w.heap.size::a.defers} (w'.putObj (w.heap.size+1) (.loop {rec with state:= .exhausted}))))):(Code.rangeFunc g ps assign body).wp P Q a w:=by
 refine(wpIn_wide (n:=0)).1 (wpIn_rangeFunc fun fn _=>?_)
 refine⟨w.heap.size+1,[Dz w.heap.size],(w.alloc (.deferred (some []))).alloc (.loop (A4 fn a.tmps ps assign body w.heap.size)),⟨.fn (.func f) caps.toArray,us.toArray++ #[Value.func (.yield (w.heap.size+1)) #[] #[]]⟩,(w.alloc (.deferred (some []))).alloc (.loop (A4 fn a.tmps ps assign body w.heap.size)),f,(us++[Value.func (.yield (w.heap.size+1)) #[] #[]]++caps).toArray,(w.alloc (.deferred (some []))).alloc (.loop (A4 fn a.tmps ps assign body w.heap.size)),?_,?_,?_,?_,?_,?_⟩
 ·exact run_enterLoop_outer _ _ _ _ _
 ·have:a.eval (.const (Value.func (.yield (w.heap.size+1)) #[] #[]))=Value.func (.yield (w.heap.size+1)) #[] #[]:=rfl
  simp[resolve,hg,Deferred.ofValue,this]
 ·exact fun _ _=>trivial
 ·have:=hent.run (us++[Value.func (.yield (w.heap.size+1)) #[] #[]]++caps).toArray ((w.alloc (.deferred (some []))).alloc (.loop (A4 fn a.tmps ps assign body w.heap.size)))
  simp[invoke]at this⊢
  rw[this]
 ·intro h;cases h
 ·refine callsIn_wide.2 ((h fn).mono ?_)
  rintro e w' ⟨v,rec,rfl,h1,h2,h3⟩
  refine⟨rec.pending,_,run_endLoop (P:=P) h1 h2,?_⟩
  obtain⟨st,pe,fn',tm,pa,aS,bo,de⟩:=rec
  cases pe with
  |none=>exact h3
  |some c=>exact wpIn_wide.2 h3
theorem Hc(w:World)(b:Nat)(o:Obj):w.grownBy (w.putObj b o) (some b):=⟨rfl,rfl,rfl,by simp,fun k _ hne=>World.putObj_heap_other (fun e=>by subst e;exact hne rfl)⟩
theorem SH.shut{w:World}{H:Hp}{A O:List Ao}{b:Nat}{o:Obj}(h:SH w H (A++ .Af b o::O))(o':Obj):SH (w.putObj b o') H (A++O):=by
 have hi:(A++ .Af b o::O)[A.length]?=some (.Af b o):=by simp
 have hb:w.heap[b]?=some o:=h.ok _ _ hi
 have hlt:b<w.heap.size:=(Array.getElem?_eq_some_iff.1 hb).1
 have h1:=h.set hi (r':= .Af b o') (Hc w b o') (World.putObj_heap_same hlt) (fun c hc=> .inl hc)
 have h2:=h1.drop A.length
 have e:((A++ .Af b o::O).set A.length (.Af b o')).eraseIdx A.length=A++O:=by
  rw[List.set_append_right _ _ (Nat.le_refl _),Nat.sub_self,List.set_cons_zero,List.eraseIdx_append_of_length_le (Nat.le_refl _),Nat.sub_self,List.eraseIdx_cons_zero]
 rw[e]at h2
 exact h2
theorem SH.two{w:World}{H:Hp}{A O:List Ao}{x y:Ao}(h:SH w H (x::y::(A++O))):SH w H (A++x::y::O):=by
 refine h.pick (fun i=>if i<A.length then i+2 else if i<A.length+2 then i-A.length else i) (fun i r hr=>?_) fun i j _ _ e=>?_
 ·by_cases h1:i<A.length
  ·simp only[h1,if_true]
   rw[List.getElem?_append_left h1]at hr
   show(x::y::(A++O))[i+2]?=_
   simp only[List.getElem?_cons_succ]
   rw[List.getElem?_append_left h1];exact hr
  ·rw[List.getElem?_append_right (by omega)]at hr
   simp only[h1,if_false]
   by_cases h2:i<A.length+2
   ·simp only[h2,if_true]
    match hk:i-A.length,(show i-A.length<2 by omega)with
    |0,_=>rw[hk]at hr;simpa using hr
    |1,_=>rw[hk]at hr;simpa using hr
   ·simp only[h2,if_false]
    obtain⟨j,rfl⟩:∃j,i=A.length+2+j:=⟨i-(A.length+2),by omega⟩
    rw[show A.length+2+j-A.length=j+2 by omega]at hr
    rw[show A.length+2+j=(A.length+j)+2 by omega]
    simp only[List.getElem?_cons_succ]at hr⊢
    rw[List.getElem?_append_right (by omega),show A.length+j-A.length=j by omega];exact hr
 ·by_cases h1:i<A.length<;>by_cases h2:j<A.length<;>by_cases h3:i<A.length+2<;>by_cases h4:j<A.length+2<;>simp[h1,h2,h3,h4]at e<;>omega
section
variable {N : Cw} {R : Type} {P : Program} [Bn N P] {C : List (SV N.T)} {CR : List (SR N.T)} {n : Nat} {O : List Ao} {bs : List (Nat × Value)} {r : R}
def Em(l:SV N.T)(cs:List Nat):List (SV N.T):=LU l++[.no]++cs.map (fun c=> .loc c 0)
def eD(C:List (SV N.T))(CR:List (SR N.T))(n:Nat)(st:St N.T)(As:List (SV N.T))(cs:List Nat)(kn:St N.T->Option R):List (PQ N)->Option R
 | []=>none
 |q::qs=>match Rx C (Ai CR st.O) st.nk q As cs (fun s nk=>match Fo CR n st none s nk with|true=>kn (app st none s nk)|false=>none)with
  |some z=>z
  |none=>eD C CR n st As cs kn qs
def eF(Φ:Nat->Option (CQ N))(C:List (SV N.T))(CR:List (SR N.T))(n:Nat)(g:Operand)(st:St N.T)(kn:St N.T->Option R):Option R:=match Ap (Bx C st.L) g with
 | .AA f l cs=>match mL l&&cs.all fun c=>match Ai CR st.O c with|some (.Af _ _)=>true|_=>false with
  |true=>match Φ f with
   |some (.NO qs)=>eD C CR n st (Em l cs) cs kn qs
   |_=>none
  |false=>none
 |_=>none
theorem Xt{Φ:Nat->Option (CQ N)}(hΦ:∀f q,Φ f=some q->A7 P f q){g:Operand}{ps:Array Tmp}{assign body:Code}{st:St N.T}{kn:St N.T->Option R}{Of:Fm}{η:Nat->Value}{H:Hp}{a:Act}{w:World}{Q:Exit->Act->World->Prop}
  (h:Sat C CR n Of bs st η H a w) (hw:WF C CR bs st) (hd:eF Φ C CR n g st kn=some r)
  (hn:∀D st' η' H' a' w',H.le H'->Sat C CR n (IB D Of) bs st' η' H' a' w'->WF C CR bs st'->kn st'=some r->Q .normal a' w'):(Code.rangeFunc g ps assign body).wp P Q a w:=by
 have _m:=(inferInstance:Bn N P)
 unfold eF at hd
 split at hd
 ·rename_i f l cs hs
  split at hd
  ·rename_i hb
   rw[Bool.and_eq_true]at hb
   split at hd
   ·rename_i qs hq
    have hS:∀q∈qs,C3 P f q:=hΦ f _ hq
    clear hq
    have hg:=h.ev g
    rw[hs]at hg
    obtain⟨us,e,hl⟩:=hg
    obtain⟨g1,g2⟩:=KC hb.1 hl
    induction qs with
    |nil=>cases hd
    |cons q qs ih=>
     unfold eD at hd
     split at hd
     ·rename_i z hz
      subst hd
      unfold Rx at hz
      simp only at hz
      split at hz
      ·rename_i hck
       simp only[Bool.and_eq_true]at hck
       split at hz
       ·rename_i x hx
        obtain⟨y,hy,hz⟩:=A9 (Option.some.inj hz)
        have hsp:=hS q (by simp)
        obtain⟨c1,c2⟩:=KJ (P:=P) (f:=f) (ex:=cs) hsp hck.2.2.1 hck.2.2.2 (Nat.eq_of_beq_eq_true hck.1) (fun p hp=>by simpa using List.all_eq_true.1 hck.2.1 p hp) hx hy (fun j hj=>by unfold Ai;rw[hw.ok j hj])
        split at hz
        ·rename_i hsb
         have hW:L5 C CR n st none ⟨(Gk q y).CO (Fc (Fv C (Ai CR st.O) (fun i=>(Em l cs).getD i .no) q.pi) q.pi.nk st.nk),q.pi.ro.map (fun p=>AJ (Fv C (Ai CR st.O) (fun i=>(Em l cs).getD i .no) q.pi) p.1)++cs,L6 q (Fc (Fv C (Ai CR st.O) (fun i=>(Em l cs).getD i .no) q.pi) q.pi.nk st.nk) y⟩ (st.nk+(q.po.nk-q.pi.nk)):=⟨hsb,Nat.le_add_right _ _,c2,fun τ _=>Qx hck.2.2.2⟩
         refine RS (us:=us) (caps:=cs.map η) e hsp.Oj fun fn=>?_
         have hw1:SH ((w.alloc (.deferred (some []))).alloc (.loop (A4 fn a.tmps ps assign body w.heap.size))) H (.Af (w.heap.size+1) (.loop (A4 fn a.tmps ps assign body w.heap.size))::Bh w.heap.size::(h.own.choose.map (·.2)++Of.O)):=by
          have:=(h.own.choose_spec.2.1.alloc (.deferred (some []))).alloc (.loop (A4 fn a.tmps ps assign body w.heap.size))
          simpa using this
         have hsat:Sat C CR n ⟨.Af (w.heap.size+1) (.loop (A4 fn a.tmps ps assign body w.heap.size))::Bh w.heap.size::Of.O,Of.ds⟩ bs st η H a ((w.alloc (.deferred (some []))).alloc (.loop (A4 fn a.tmps ps assign body w.heap.size))):=
          ⟨h.inv,h.defers,h.size,h.A6,h.base,h.own.choose,h.own.choose_spec.1,SH.two hw1,h.own.choose_spec.2.2.1,h.own.choose_spec.2.2.2⟩
         refine hsat.stepG hw hW (goal:=Calls P f _ _ _) (K:=fun v w'=>(w'.heap[w.heap.size+1]?=some (.loop (A4 fn a.tmps ps assign body w.heap.size))/\Q .normal {a with defers:=Dz w.heap.size::a.defers} (w'.putObj (w.heap.size+1) (.loop {A4 fn a.tmps ps assign body w.heap.size with state:= .exhausted})))) (fun Y hn' hsh hr hf hk=>?_) fun η' H' v w' hle hs2=>?_
         ·refine c1 η H _ _ Y hn' hsh h.inv hr hf (us++[Value.func (.yield (w.heap.size+1)) #[] #[]]++cs.map η) (by simp[Em,g1]) (fun i s hi=>?_) _ _ (fun O' R' ht hsh' hk'=>?_) hk
          ·unfold Em at hi
           rw[List.append_assoc]at hi⊢
           by_cases c1':i<(LU l).length
           ·rw[List.getElem?_append_left c1']at hi
            rw[List.getElem?_append_left (by omega)]
            exact g2 i s hi
           ·rw[List.getElem?_append_right (by omega)]at hi
            rw[List.getElem?_append_right (by omega),g1]
            generalize hj:i-(LU l).length=j at hi⊢
            cases j with
            |zero=>
             simp at hi
             subst hi
             exact⟨_,rf,trivial⟩
            |succ j=>
             simp only[List.cons_append,List.nil_append,List.getElem?_cons_succ,List.getElem?_map]at hi⊢
             obtain⟨c,hc,rfl⟩:=Option.map_eq_some_iff.1 hi
             have hcm:=List.mem_of_getElem? hc
             have hcb:=List.all_eq_true.1 hb.2 c hcm
             refine⟨η c,by rw[hc];rfl,?_⟩
             split at hcb
             ·rename_i g' b hR
              rcases hr c (.inl (List.mem_append_right _ hcm)) _ hR with e|⟨X,_,B,_,b1,_⟩
              ·cases e
              ·exact⟨B,b1,b1⟩
             ·cases hcb
          ·refine(ht _ hsh').mono ?_
           rintro e' w' ⟨v,H',O2,rfl,k2,k3,k4⟩
           obtain⟨q1,q2⟩:=hk' v w' H' O2 k2 k4 k3
           exact⟨v,rf,q1,q2⟩
         ·obtain⟨Y2,y1,y2,y3,y4⟩:=hs2.own
          have hi:(Y2.map (·.2)++Ao.Af (w.heap.size+1) (.loop (A4 fn a.tmps ps assign body w.heap.size))::Bh w.heap.size::Of.O)[(Y2.map (·.2)).length]?=some (.Af (w.heap.size+1) (.loop (A4 fn a.tmps ps assign body w.heap.size))):=by simp
          have hob:w'.heap[w.heap.size+1]?=some (.loop (A4 fn a.tmps ps assign body w.heap.size)):=y2.ok _ _ hi
          refine⟨hob,?_⟩
          have hsh3:=SH.shut (A:=Y2.map (·.2)) y2 (.loop {A4 fn a.tmps ps assign body w.heap.size with state:= .exhausted})
          refine hn w.heap.size _ η' H' _ _ hle ⟨hs2.inv,?_,hs2.size,hs2.A6,hs2.base,Y2,y1,hsh3,y3,y4⟩ (hw.Qn hW) hz
          show Dz w.heap.size::a.defers=Dz w.heap.size::Of.ds
          rw[h.defers]
        ·cases hz
       ·cases hz
      ·cases hz
     ·exact ih hd (fun q hq=>hS q (by simp[hq]))
   ·cases hd
  ·cases hd
 ·cases hd
theorem Fy{fn:Func}{st:St N.T}{η:Nat->Value}{H:Hp}{X:Ending->World->Prop} :∀ {M:List Nat} {a:Act} {w:World},Sat C CR n (Lv O M) bs st η H a w->
  (∀w',Sat C CR n (Lv O []) bs st η H {a with defers:=[]} w'->∃v,(results fn a.tmps).run P w'= .ok v w'/\X (.returned v) w')->LeavesInM Fence.wide 0 P fn a.tmps X (M.map Dz) .returning w
 | [],a,w,h,k=>(fun(_:Bn N P)=>k w ⟨h.inv,rfl,h.size,h.A6,h.base,h.own⟩) inferInstance
 |D::M,a,w,h,k=>by
  obtain⟨Y,y1,y2,y3,y4⟩:=h.own
  have y2':SH w H (Y.map (·.2)++Ao.Af D (.deferred (some []))::(Lv O M).O):=y2
  have hi:(Y.map (·.2)++Ao.Af D (.deferred (some []))::(Lv O M).O)[(Y.map (·.2)).length]?=some (.Af D (.deferred (some []))):=by simp
  have hk:w.heap[D]?=some (.deferred (some [])):=y2'.ok _ _ hi
  refine⟨by simp, .inl ⟨D,_,rf,run_takeDeferred hk,?_⟩⟩
  have hs2:=SH.shut y2' (.deferred none)
  exact Fy (a:= {a with defers:=M.map Dz}) ⟨h.inv,rf,h.size,h.A6,h.base,Y,y1,hs2,y3,y4⟩ k
theorem L4.ofM{f:FuncId}{fn:Func}{c:Code}{vs:List Value}{H:Hp}{R:Value->Hp->List Ao->Prop}(hf:P.funcs[f]?=some fn)(hb:fn.body=some c)(hn:fn.ntmps=n)(ha:Nat.ble vs.length n=true)
  (h:∀a w,Fr a n (Gn 0 vs)->SH w H O->c.wp P (bodyPostM Fence.wide 0 P fn (sN H R)) a w):L4 P f vs H O R:=fun w hs=>by
 subst hn
 exact(callsIn_wide (n:=0)).1 (callsIn_of_wp_marks hf hb trivial ((wpIn_wide (n:=0)).2 (h _ w (Fr.enter vs _ ha) hs)) rf)
end
end Go.GV
namespace Go.GV
open Go Go.GK
inductive Gh where
 |fz (t:Nat)
 |own (t:Nat) (g:TypeId) (te:Ty)
 |Nd (t off:Nat)
 |DD (t off:Nat) (g:TypeId) (te:Ty)
 |fm (t:Nat) (e:TypeId)
structure Cx(N:Cw)where
 P:Program
 Φ:Nat->Option (CQ N)
 la:Nat->Option AY
 jn:Nat->Option AY
 pre:Nat->List Gh
 post:Nat->List Gh
 kb:Nat
 n:Nat
 ct:Nat->Nat:=fun _=>0
def I1:Code->Option Nat
 | .region i _ _=>some i
 | .seq a b=>match I1 a with
  |some i=>some i
  |none=>I1 b
 | .cond _ a b=>match I1 a with
  |some i=>some i
  |none=>I1 b
 | .block _ a=>I1 a
 | .loop a=>I1 a
 | .scope a=>I1 a
 | .rangeFunc _ _ a b=>match I1 a with
  |some i=>some i
  |none=>I1 b
 |_=>none
section
variable {N : Cw} {R : Type}
def MH(C:List (SV N.T))(CR:List (SR N.T)):List Gh->St N.T->(St N.T->Option R)->Option R
 | [],st,k=>k st
 | .fz t::l,st,k=>match Bx C st.L t with
  | .Az j=>match Ai CR st.O j with
   |some (.row _ te xs)=>MH C CR l (Ht j te xs st) k
   |some (.DB _ _ te _ xs)=>Ah (xs.all (·.1)=true) (MH C CR l (Ht j (.sl te) (xs.map (·.2)) st) k)
   |_=>none
  | .d _ _=>MH C CR l st k
  |_=>none
 | .own t g te::l,st,k=>match Bx C st.L t with
  | .Az _=>MH C CR l st k
  | .raw (.slice none 0 0)=>match Cp CR st st.nk with
   |true=>MH C CR l ⟨(t, .Az st.nk)::st.L,(st.nk, .row g te [])::st.O,st.nk+1⟩ k
   |false=>none
  |_=>none
 | .Nd t off::l,st,k=>match Bx C st.L t with
  | .loc b _=>match Ai CR st.O b with
   |some (.Af _ x)=>match DR N C x off none with
    |some (.Az j)=>match Ai CR st.O j with
     |some (.row _ te xs)=>MH C CR l (Ht j te xs st) k
     |_=>none
    |_=>none
   |_=>none
  |_=>none
 | .DD t off g te::l,st,k=>match Bx C st.L t with
  | .loc b _=>match Ai CR st.O b with
   |some (.Af g' x)=>match DR N C x off none,Cp CR st st.nk,WZ N C 64 x off 1 (.Az st.nk)with
    |some (.raw (.slice none 0 0)),true,some x'=>MH C CR l ⟨st.L,(b, .Af g' x')::(st.nk, .row g te [])::st.O,st.nk+1⟩ k
    |_,_,_=>none
   |_=>none
  |_=>none
 | .fm t e::l,st,k=>match Bx C st.L t with
  | .Az b=>match Ai CR st.O b,Cp CR st st.nk with
   |some (.row g (.sl te) xs),true=>MH C CR l ⟨st.L,(b, .DB g e te st.nk (List.replicate xs.length (false,[])))::(st.nk, .gone)::st.O,st.nk+1⟩ k
   |_,_=>none
  |_=>none
variable {P : Program} [Bn N P] {C : List (SV N.T)} {CR : List (SR N.T)} {n : Nat} {Of : Fm} {O : List Ao} {bs : List (Nat × Value)} {r : R}
theorem Eo{a:Act}{w:World}{k:St N.T->Option R}{X:Prop} :∀ {l:List Gh} {st:St N.T} {η:Nat->Value} {H:Hp},Sat C CR n Of bs st η H a w->WF C CR bs st->MH C CR l st k=some r->
  (∀st' η' H',H.le H'->Sat C CR n Of bs st' η' H' a w->WF C CR bs st'->k st'=some r->X)->X
 | [],st,η,H,h,hw,hd,hk=>hk st η H (Hp.le.refl H) h hw hd
 | .fz t::l,st,η,H,h,hw,hd,hk=>by
  unfold MH at hd
  split at hd
  ·rename_i j e
   split at hd
   ·rename_i g te xs e2
    obtain⟨H',h1,h2,h3⟩:=Vo h hw e2
    exact Eo h2 h3 hd fun st' η' H'' hle a1 a2 a3=>hk st' η' H'' (h1.trans hle) a1 a2 a3
   ·rename_i g e0 te hh xs e2
    obtain⟨hc,hd⟩:=AF hd
    obtain⟨H',h1,h2,h3⟩:=hH h hw e2 hc
    exact Eo h2 h3 hd fun st' η' H'' hle a1 a2 a3=>hk st' η' H'' (h1.trans hle) a1 a2 a3
   ·cases hd
  ·exact Eo h hw hd hk
  ·cases hd
 | .own t g te::l,st,η,H,h,hw,hd,hk=>by
  unfold MH at hd
  split at hd
  ·exact Eo h hw hd hk
  ·rename_i e
   split at hd
   ·rename_i e2
    obtain⟨η',h2,h3⟩:=eL (g:=g) (t:=te) h hw e2 e
    exact Eo h2 h3 hd hk
   ·cases hd
  ·cases hd
 | .Nd t off::l,st,η,H,h,hw,hd,hk=>by
  unfold MH at hd
  split at hd
  ·split at hd
   ·split at hd
    ·rename_i j e
     split at hd
     ·rename_i g te xs e2
      obtain⟨H',h1,h2,h3⟩:=Vo h hw e2
      exact Eo h2 h3 hd fun st' η' H'' hle a1 a2 a3=>hk st' η' H'' (h1.trans hle) a1 a2 a3
     ·cases hd
    ·cases hd
   ·cases hd
  ·cases hd
 | .DD t off g te::l,st,η,H,h,hw,hd,hk=>by
  unfold MH at hd
  split at hd
  ·split at hd
   ·rename_i g' x hb
    split at hd
    ·rename_i x' e1 e2 e3
     obtain⟨η',h2,h3⟩:=XF (g:=g) (t:=te) h hw e2 hb e1 e3 rfl
     exact Eo h2 h3 hd hk
    ·cases hd
   ·cases hd
  ·cases hd
 | .fm t e::l,st,η,H,h,hw,hd,hk=>by
  unfold MH at hd
  split at hd
  ·split at hd
   ·rename_i g te xs e1 e2
    obtain⟨η',h2,h3⟩:=oB (e:=e) h hw e2 e1
    exact Eo h2 h3 hd hk
   ·cases hd
  ·cases hd
def oN(C:List (SV N.T))(st:St N.T)(p:AY):List (SV N.T):=(I4 st.L p.sl C).2
def YN(CR:List (SR N.T))(st:St N.T)(p:AY):List (SR N.T):=(IP st.O p.ro CR).2
def iK(C:List (SV N.T))(CR:List (SR N.T))(st:St N.T)(p:AY):St N.T:=⟨mK (I4 st.L p.sl C).1++st.L,YH (IP st.O p.ro CR).1++st.O,st.nk⟩
def uU(C:List (SV N.T))(CR:List (SR N.T))(st:St N.T)(p:AY):Bool:=uV C (oN C st p) CR st p.sl&&CR.all (Oz C.length)
structure Kc(T:Nat->Type)where
 sl:List (Nat×SP)
 ro:List (Nat×RP)
 C:List (SV T)
 CR:List (SR T)
 st:St T
def n_(C:List (SV N.T))(CR:List (SR N.T))(st:St N.T)(p:AY):Option (Kc N.T):=match gI p.ro C st with
 |some (ro,(st1,C1))=>match uU C1 CR st1 ⟨p.hs,p.sl,ro,p.nk⟩&&CR.all (Oz C.length)with
  |true=>some ⟨(I4 st1.L p.sl C1).1,(IP st1.O ro CR).1,oN C1 st1 ⟨p.hs,p.sl,ro,p.nk⟩,YN CR st1 ⟨p.hs,p.sl,ro,p.nk⟩,iK C1 CR st1 ⟨p.hs,p.sl,ro,p.nk⟩⟩
  |false=>none
 |none=>none
def E9(p:AY)(q:Kc N.T):AY:=⟨p.hs,q.sl,q.ro,p.nk⟩
theorem iJ{st:St N.T}{η:Nat->Value}{H:Hp}{a:Act}{w:World}{p:AY}(h:Sat C CR n Of bs st η H a w)(hw:WF C CR bs st)(hb:uU C CR st p=true):
  (∃X,oN C st p=C++X)/\(∃Z,YN CR st p=CR++Z)/\CR.all (Oz C.length)=true/\Sat (oN C st p) (YN CR st p) n Of bs (iK C CR st p) η H a w/\WF (oN C st p) (YN CR st p) bs (iK C CR st p):=by
 unfold uU at hb
 rw[Bool.and_eq_true]at hb
 exact⟨(Ik p.sl C).1,(Il p.ro CR fun _ _ _ _=> .inr trivial).1,hb.2,oM h hw hb.1⟩
theorem T9{C':List (SV N.T)}{CR':List (SR N.T)}{st:St N.T}{η:Nat->Value}{H:Hp}{a:Act}{w:World}(hC:∃X,C'=C++X)(hR:∃Z,CR'=CR++Z)(hcl:CR.all (Oz C.length)=true)(h:Sat C' CR' n Of bs st η H a w)(hw:WF C' CR' bs st):
  Sat C CR n Of bs (C_ C' CR' C.length CR.length st) η H a w/\WF C CR bs (C_ C' CR' C.length CR.length st):=by
 obtain⟨X,rfl⟩:=hC
 obtain⟨Z,rfl⟩:=hR
 exact nz h hw hcl
theorem PC{st:St N.T}{η:Nat->Value}{H:Hp}{a:Act}{w:World}{p:AY}{q:Kc N.T}(h:Sat C CR n Of bs st η H a w)(hw:WF C CR bs st)(hb:n_ C CR st p=some q):
  (∃X,q.C=C++X)/\(∃Z,q.CR=CR++Z)/\CR.all (Oz C.length)=true/\Sat q.C q.CR n Of bs q.st η H a w/\WF q.C q.CR bs q.st:=by
 unfold n_ at hb
 split at hb
 ·rename_i ro st1 C1 hk
  split at hb
  ·rename_i hc
   cases hb
   rw[Bool.and_eq_true]at hc
   obtain⟨⟨X,hX⟩,h1,h2⟩:=PA hk h hw
   obtain⟨⟨X2,c1⟩,c2,_,c4,c5⟩:=iJ h1 h2 hc.1
   exact⟨⟨X++X2,by rw[c1,hX,List.append_assoc]⟩,c2,hc.2,c4,c5⟩
  ·cases hb
 ·cases hb
def Kn(C:List (SV N.T))(CR:List (SR N.T))(n:Nat)(G:Hp->Fm->R->Prop)(bs:List (Nat×Value))(H:Hp)(k:St N.T->Option R)(Q:Act->World->Prop):Prop:= ∀Of r st η H' a w,H.le H'->G H' Of r->Sat C CR n Of bs st η H' a w->WF C CR bs st->k st=some r->Q a w
theorem Kn.le{G:Hp->Fm->R->Prop}{H H':Hp}{k:St N.T->Option R}{Q:Act->World->Prop}(h:Kn C CR n G bs H k Q)(hle:H.le H'):Kn C CR n G bs H' k Q:=fun Of r st η H'' a w hl=>h Of r st η H'' a w (hle.trans hl)
theorem Kn.rs{G:Hp->Fm->R->Prop}{C':List (SV N.T)}{CR':List (SR N.T)}{H:Hp}{k:St N.T->Option R}{Q:Act->World->Prop}(hC:∃X,C'=C++X)(hR:∃Z,CR'=CR++Z)(hcl:CR.all (Oz C.length)=true)(h:Kn C CR n G bs H k Q):
  Kn C' CR' n G bs H (fun s=>k (C_ C' CR' C.length CR.length s)) Q:=fun Of r st η H' a w hl hg h1 h2 h3=>by
 obtain⟨g1,g2⟩:=T9 hC hR hcl h1 h2
 exact h Of r _ η H' a w hl hg g1 g2 h3
end
end Go.GV
namespace Go.GV
open Go Go.GK
section
variable {N : Cw} {C : List (SV N.T)} {CR : List (SR N.T)} {n : Nat} {Of : Fm} {bs : List (Nat × Value)} {st : St N.T} {η : Nat -> Value} {H : Hp} {a : Act} {w : World}
def uG{T:Nat->Type} :SV T->SV T->Bool
 | .Az k, .Az j=>Nat.beq k j
 | .mp k, .mp j=>Nat.beq k j
 | .AA f .vn ks, .AA g .vn js=>Nat.beq f g&&KK ks js
 | .px ks .sf, .px js .sf=>KK ks js
 |_,_=>false
theorem gH{T:Nat->Type}{a b:SV T}(h:uG a b=true):a=b:=by
 unfold uG at h
 split at h
 ·rw[Nat.eq_of_beq_eq_true h]
 ·rw[Nat.eq_of_beq_eq_true h]
 ·rw[Bool.and_eq_true]at h
  rw[Nat.eq_of_beq_eq_true h.1,DH h.2]
 ·rw[DH h]
 ·cases h
def uF{T:Nat->Type}(p:SP)(a b:SV T):Bool:=match p with
 | .v _ t=>match a,b with
  | .d _ _, .d t' _=>t'.Ig t
  |_,_=>false
 |_=>uG a b
def rZ{T:Nat->Type} :List (Nat×SP)->SV T->SV T->Bool
 | [], .nl, .nl=>true
 |(s,p)::ls, .lf n a l, .lf m b r=>Nat.beq s m&&(Nat.beq n m&&(Nat.blt 0 m&&(uF p a b&&rZ ls l r)))
 |_,_,_=>false
def n9{T:Nat->Type}(p:RP)(a b:SR T):Bool:=match p,a,b with
 | .row _ _, .row g1 _ _, .row g2 _ _=>Nat.beq g1 g2
 | .Af _ ls, .Af g1 a, .Af g2 b=>Nat.beq g1 g2&&rZ ls a b
 |_,_,_=>false
theorem NM{hs:List HT}{x:Bu N hs}{Hs:List (Nat×SV N.T)}(hP:Wj C Hs (BP N hs x)){j:Nat}{t:Ty}{v:t.den N.T}(hj:(j,SV.d t v)∈Hs):BP N hs x j= .no\/(∃k,BP N hs x j= .na k)\/BP N hs x j= .d t v:=by
 rcases hP.ok j _ hj with e|⟨h,y,e1,e2⟩
 ·exact .inl e
 ·cases h with
  |nat=>exact .inr (.inl ⟨_,e2⟩)
  |Ae t2=>
   have e1:V6 N t2 (.d t v)=some y:=e1
   unfold V6 at e1
   obtain⟨f,hf,rfl⟩:=Option.map_eq_some_iff.1 e1
   obtain⟨he,rfl⟩:=Bg hf
   have e:=Ty.Bc he
   subst e
   exact .inr (.inr e2)
theorem gD{t t2:Ty}{v:t.den N.T}{m:Nat}{r:SV N.T}(hm:Nat.blt 0 m=true)(he:t.Ig t2=true):DR N C (.lf m (.d t v) r) 0 (some t2)=some (.d t v):=by
 have e:=Ty.Bc he
 subst e
 have h1:Ec N 16 t v 0 t=some v:=by
  unfold Ec LP
  rw[dif_pos he]
  rfl
 unfold DR
 rw[hm]
 have h2:(Nat.beq 0 0&&(Nat.beq m 1&&Mo (res C (.d t v:SV N.T))))=false:=by
  show(true&&(Nat.beq m 1&&false))=false
  cases Nat.beq m 1<;>rfl
 simp only[h2]
 show(match Ec N 16 t v 0 t with|some y=>some (SV.d t y)|none=>_)=_
 rw[h1]
theorem gC{s:Nat}{a l:SV N.T}{o:Nat}{want:Option Ty} :DR N C (.lf s a l) (s+o) want=DR N C l o want:=by
 have h:Nat.blt (s+o) s=false:=by
  cases hb:Nat.blt (s+o) s with
  |false=>rfl
  |true=>
   have:s+o<s:=by simpa using hb
   omega
 unfold DR
 simp only[h,Nat.add_sub_cancel_left]
 cases l<;>rfl
theorem U9{hs:List HT}{x:Bu N hs}{Hs:List (Nat×SV N.T)}{b:SV N.T}{ρ:Nat->Nat}(hP:Wj C Hs (BP N hs x)):∀(ls:List (Nat×SP)) (off:Nat) (Ea:SV N.T),(∀o want,DR N C b (off+o) want=DR N C Ea o want)->(∀q∈K8 off ls,∀j t,q.2.2= .v j t->(j,(DR N C b q.1 (some t)).getD .no)∈Hs)->rZ ls ((instL N hs x ls).CO ρ) Ea=true->(instL N hs x ls).CO ρ=Ea
 | [],_,Ea,_,_,h=>by
  cases Ea with
  |nl=>rfl
  |_=>cases h
 |(s,p)::ls,off,Ea,ho,hq,h=>by
  cases Ea with
  |lf m d r=>
   have h:(Nat.beq s m&&(Nat.beq s m&&(Nat.blt 0 m&&(uF p ((inst N hs x p).CO ρ) d&&rZ ls ((instL N hs x ls).CO ρ) r))))=true:=h
   simp only[Bool.and_eq_true]at h
   obtain⟨e,_,h0,h1,h2⟩:=h
   have e:=Nat.eq_of_beq_eq_true e
   subst e
   have ih:=U9 (Hs:=Hs) (b:=b) (ρ:=ρ) hP ls (off+s) r (fun o want=>by rw[Nat.add_assoc,ho,gC]) (fun q hq'=>hq q (List.mem_cons_of_mem _ hq')) h2
   have hv:(inst N hs x p).CO ρ=d:=by
    unfold uF at h1
    split at h1
    ·rename_i j t
     split at h1
     ·rename_i t1 y1 t2 y2 e1
      have hm:=hq (off,s, .v j t) (List.mem_cons_self ..) j t rfl
      have e3:DR N C b off (some t)=some (.d t2 y2):=by
       rw[show off=off+0 from rfl,ho]
       exact gD h0 h1
      rw[e3]at hm
      have e1:(BP N hs x j).CO ρ= .d t1 y1:=e1
      rcases NM hP hm with e|⟨k,e⟩|e
      ·rw[e]at e1;cases e1
      ·rw[e]at e1;cases e1
      ·show(BP N hs x j).CO ρ=_
       rw[e];rfl
     ·cases h1
    ·exact gH h1
   show SV.lf s ((inst N hs x p).CO ρ) ((instL N hs x ls).CO ρ)=_
   rw[hv,ih]
  |_=>cases h
theorem gG{hs:List HT}{x:Bu N hs}{Hs:List (Nat×SV N.T)}{ρ:Nat->Nat}(hP:Wj C Hs (BP N hs x)){p:RP}{Ea:SR N.T}(h1:∀g j g' t l,p= .row g j->Ea= .row g' t l->(j,SV.d (.sl t) l)∈Hs)(h2:∀g ls g' b,p= .Af g ls->Ea= .Af g' b->∀z∈gY N C b ls,z∈Hs)(h:n9 p ((instR N hs x p).CO ρ) Ea=true):(instR N hs x p).CO ρ=Ea:=by
 unfold n9 at h
 split at h
 ·rename_i g j g1 t1 l1 g2 t2 l2 e
  have hm:=h1 g j g2 t2 l2 rfl rfl
  have e:(match BP N hs x j with
   | .d (.sl t) l=>SR.row g t l
   |_=> .gone:SR N.T).CO ρ= .row g1 t1 l1:=e
  show(match BP N hs x j with
   | .d (.sl t) l=>SR.row g t l
   |_=> .gone:SR N.T).CO ρ=_
  rcases NM hP hm with e0|⟨k,e0⟩|e0
  ·rw[e0]at e;cases e
  ·rw[e0]at e;cases e
  ·rw[e0]at e⊢
   cases e
   rw[<-Nat.eq_of_beq_eq_true h];rfl
 ·rename_i g ls g1 a g2 b e
  rw[Bool.and_eq_true]at h
  have e:SR.Af g ((instL N hs x ls).CO ρ)= .Af g1 a:=e
  cases e
  have:=U9 (Hs:=Hs) (b:=b) (ρ:=ρ) hP ls 0 b (fun o want=>by rw[Nat.zero_add]) (fun q hq j t e=>h2 g ls g2 b rfl rfl _ ((E2 hq).1 j t e)) h.2
  show SR.Af g ((instL N hs x ls).CO ρ)=_
  rw[this,Nat.eq_of_beq_eq_true h.1]
 ·cases h
theorem VA{Rr:Nat->Option (SR N.T)}{A:Nat->SV N.T}{q:AY}{m:List (Nat×Nat)}{x:Bu N q.hs}(hx:Hv C Rr A m q=some x):Wj C (W0 C A q.sl++W1 C Rr m q.ro) (BP N q.hs x):=by
 unfold Hv at hx
 split at hx
 ·rename_i hck
  simp only[Bool.and_eq_true]at hck
  obtain⟨hnd,hS,hR,hN⟩:=hck
  have hnd2:=Ba hN
  exact⟨fun j s hj=>by
   rcases Ho q.hs 0 x hx j with e|⟨h',y,e1,e2⟩
   ·exact .inl e
   ·refine .inr ⟨h',y,?_,e2⟩
    rw[Nat.zero_add,Cc hnd2 hj]at e1
    exact e1⟩
 ·cases hx
def S7(CR:List (SR N.T))(hs:List HT)(x:Bu N hs)(m:List (Nat×Nat))(O:List (Nat×SR N.T)):List (Nat×RP)->List (Nat×SR N.T)
 | []=>[]
 |p::l=>match An O (AJ m p.1)with
  |some (.BO j)=>match n9 p.2 ((instR N hs x p.2).CO (AJ m)) (Ck CR (.BO j))with
   |true=>(AJ m p.1, .BO j)::S7 CR hs x m O l
   |false=>S7 CR hs x m O l
  |_=>S7 CR hs x m O l
def OH(l:List (Nat×SR N.T))(st:St N.T):St N.T:=⟨st.L,l++st.O,st.nk⟩
theorem M0{hs:List HT}{x:Bu N hs}{m:List (Nat×Nat)}{O:List (Nat×SR N.T)} :∀ {l:List (Nat×RP)} {z:Nat×SR N.T},z∈S7 CR hs x m O l->∃p∈l,z.1=AJ m p.1/\An O z.1=some z.2/\n9 p.2 ((instR N hs x p.2).CO (AJ m)) (Ck CR z.2)=true
 | [],z,h=>by cases h
 |p::l,z,h=>by
  unfold S7 at h
  have rc:z∈S7 CR hs x m O l->∃p'∈p::l,z.1=AJ m p'.1/\An O z.1=some z.2/\n9 p'.2 ((instR N hs x p'.2).CO (AJ m)) (Ck CR z.2)=true:=fun h=>by
   obtain⟨p',h1,h2⟩:=M0 h
   exact⟨p',List.mem_cons_of_mem _ h1,h2⟩
  split at h
  ·rename_i j hj
   split at h
   ·rename_i hk
    rcases List.mem_cons.1 h with rfl|h
    ·exact⟨p,List.mem_cons_self ..,rf,hj,hk⟩
    ·exact rc h
   ·exact rc h
  ·exact rc h
theorem oT{q:AY}{A:Nat->SV N.T}{m:List (Nat×Nat)}{x:Bu N q.hs}{O:List (Nat×SR N.T)}(hx:Hv C (Ai CR O) A m q=some x)(hnd:(q.ro.map fun p=>AJ m p.1).Nodup)(k:Nat):Ai CR (S7 CR q.hs x m O q.ro++((q.ro.map fun p=>(AJ m p.1,(instR N q.hs x p.2).CO (AJ m)))++O)) k=Ai CR ((q.ro.map fun p=>(AJ m p.1,(instR N q.hs x p.2).CO (AJ m)))++O) k:=by
 have hol:=VA hx
 cases hl:An (S7 CR q.hs x m O q.ro) k with
 |none=>unfold Ai;rw[Bq,hl]
 |some v=>
  obtain⟨p,hp,e1,e2,e3⟩:=M0 (AQ hl)
  have e1:k=AJ m p.1:=e1
  have hrr:Ai CR O (AJ m p.1)=some (Ck CR v):=by unfold Ai;rw[<-e1,e2]
  have key:=gG (ρ:=AJ m) hol (fun g j g' t l ep eo=>List.mem_append_right _ (List.mem_flatMap.2 ⟨p,hp,by rw[ep,hrr,eo];simp⟩)) (fun g ls g' b ep eo z hz=>List.mem_append_right _ (List.mem_flatMap.2 ⟨p,hp,by rw[ep,hrr,eo];exact hz⟩)) e3
  have hw:An ((q.ro.map fun p=>(AJ m p.1,(instR N q.hs x p.2).CO (AJ m)))++O) k=some ((instR N q.hs x p.2).CO (AJ m)):=by
   have hm:An (q.ro.map fun p=>(AJ m p.1,(instR N q.hs x p.2).CO (AJ m))) k=some ((instR N q.hs x p.2).CO (AJ m)):=by
    rw[e1]
    exact Cc (by unfold keys;rw[List.map_map];exact hnd) (List.mem_map.2 ⟨p,hp,rf⟩)
   rw[Bq,hm]
  unfold Ai
  rw[Bq,hl,hw,key]
  show some (Ck CR v)=some (Ck CR (Ck CR v))
  rw[<-key]
  congr 1
  cases instR N q.hs x p.2<;>rfl
theorem oU{l:List (Nat×SR N.T)}(h:Sat C CR n Of bs st η H a w)(hw:WF C CR bs st)(hl:∀k,Ai CR (l++st.O) k=Ai CR st.O k)(hk:∀z∈l,z.1<st.nk):Sat C CR n Of bs (OH l st) η H a w/\WF C CR bs (OH l st):=by
 have e:Ai CR (OH l st).O=Ai CR st.O:=funext hl
 refine⟨⟨h.inv,h.defers,h.size,h.A6,h.base,?_⟩,⟨hw.lo,fun j hj=>?_,?_,hw.mC,hw.cP⟩⟩
 ·obtain⟨Y,h1,h2,h3,h4⟩:=h.own
  exact⟨Y,h1,h2,h3,fun k sr hs=>h4 k sr (by rw[e]at hs;exact hs)⟩
 ·show An (l++st.O) j=none
  rw[Bq]
  cases hl2:An l j with
  |none=>exact hw.ok j hj
  |some v=>exact absurd (hk _ (AQ hl2)) (Nat.not_lt.2 hj)
 ·rw[e];exact hw.wf
end
end Go.GV
namespace Go.GV
open Go Go.GK
abbrev FR:Option Nat->Fence
 |none=>Fence.wide
 |some l=>Fence.wide.inRound l
theorem RL(ro:Option Nat)(f:FuncId):(FR ro).fn f:=by cases ro<;>trivial
theorem Wq{ro:Option Nat}{n:Nat}{P:Program}{f:FuncId}{vs:Array Value}{w:World}{R:Ending->World->Prop}(h:Calls P f vs w R):CallsIn (FR ro) n P f vs w R:=by
 cases ro with
 |none=>exact callsIn_wide.2 h
 |some l=>exact(callsIn_wide (n:=n)).2 h
theorem Zl{ro:Option Nat}{n:Nat}{P:Program}{s:String}{vs:Array Value}{w:World}{R:Value->World->Prop}(h:Rows P s vs w R):RowsIn (FR ro) n P s vs w R:=fun c cs _=>by
 obtain⟨v,w',h1,h2⟩:=h c cs
 refine⟨v,w',h1,?_⟩
 cases ro with
 |none=>exact stepsIn_wide.2 h2
 |some l=>exact stepsIn_wide.2 h2
theorem Wn{ro:Option Nat}{n:Nat}{P:Program}{l:Nat}{f:FuncId}{tmps:Array Value}{asg body:Code}{w:World}{R:Ending->World->Prop}(h:RoundIn Fence.wide 0 P l f tmps asg body w R):RoundIn (FR ro) n P l f tmps asg body w R:=by
 refine⟨RL ro f,fun c cs _=>?_⟩
 have:=h.2 c cs (room_wide _)
 cases ro<;>exact this
theorem Wo(ro:Option Nat):(FR ro).depth=none:=by cases ro<;>rfl
theorem jE{ro:Option Nat}{n:Nat} :(FR ro).depth.isSome=true->1<=n:=fun h=>by rw[Wo]at h;cases h
def QL(o:Oper):Bool:=match o.op with
 | .defer _=>false
 |_=>true
theorem UF{o:Oper}(h:QL o=true):∀c,o.op≠ .defer c:=fun c e=>by unfold QL at h;rw[e]at h;cases h
theorem Oper.a_{ro:Option Nat}{P:Program}{o:Oper}{a:Act}{w:World}{K:Act->World->Prop}{Q:Exit->Act->World->Prop}(hd:QL o=true)(h:o.wp P a w K Q):o.wpIn (FR ro) 0 P a w K Q:=by
 refine⟨fun f _=>RL ro f,?_⟩
 rw[Oper.semAt_eq _ _ _ (UF hd)]
 unfold Oper.wp at h
 revert h
 generalize(execOp a.eval o).run P w=z
 intro h
 unfold Oper.upon at h
 split at h
 ·exact h
 ·exact h
 ·exact h
 ·exact⟨jE,Wq h⟩
 ·exact⟨jE,Zl h⟩
 ·exact h
 ·exact h.elim
section
variable {N : Cw} {R : Type}
structure YL(N:Cw)(R:Type)where
 ky:Nat
 f:List (SV N.T)->List (SV N.T)->(Bool->Option R)->Option R
 ag:R->R->Option R:=fun _ _=>none
 V_:∀a b r,ag a b=some r->a=r/\b=r:=by intros;contradiction
def sL{α:Type} [DecidableEq α](x y:α):Bool:=decide (x=y)
theorem P2{α:Type} [DecidableEq α]{x y:α}(h:sL x y=true):x=y:=of_decide_eq_true h
def zn{α:Type} :List α->List α->Bool
 | [],[]=>true
 |_,_=>false
theorem jx{α:Type} :∀ {x y:List α},zn x y=true->x=y
 | [],[],_=>rfl
 | [],_::_,h=>by cases h
 |_::_,_,h=>by cases h
def o5{T:Nat->Type} :(t:Ty)->t.den T->t.den T->Bool
 | .int _,x,y=>sL (α:=Int) x y
 | .bool,x,y=>sL (α:=Bool) x y
 | .str,x,y=>sL (α:=Ax) x y
 | .sl t,x,y=>zn (α:=t.den T) x y
 |_,_,_=>false
theorem P1{T:Nat->Type} :∀ {t:Ty} {x y:t.den T},o5 t x y=true->x=y
 | .int _,_,_,h=>P2 (α:=Int) h
 | .bool,_,_,h=>P2 (α:=Bool) h
 | .str,_,_,h=>P2 (α:=Ax) h
 | .sl _,_,_,h=>jx h
 | .st _,_,_,h=>by cases h
 | .pr _ _,_,_,h=>by cases h
 | .un,_,_,h=>by cases h
 | .bs,_,_,h=>by cases h
 | .nm _,_,_,h=>by cases h
 | .ar _ _,_,_,h=>by cases h
def sK:(h:HT)->h.den N->h.den N->Bool
 | .Ae t,x,y=>o5 t x y
 | .nat,x,y=>Nat.beq x y
theorem Wb:∀ {h:HT} {x y:h.den N},sK h x y=true->x=y
 | .Ae t,_,_,h=>P1 (t:=t) h
 | .nat,_,_,h=>Nat.eq_of_beq_eq_true h
def sH:(hs:List HT)->Bu N hs->Bu N hs->Bool
 | [],_,_=>true
 | [t],x,y=>sK t x y
 |t::u::ts,x,y=>sK t x.1 y.1&&sH (u::ts) x.2 y.2
theorem Wa:∀ {hs:List HT} {x y:Bu N hs},sH hs x y=true->x=y
 | [],_,_,_=>rfl
 | [_],_,_,h=>Wb h
 |t::u::ts,(x,x'),(y,y'),h=>by
  have h:(sK t x y&&sH (u::ts) x' y')=true:=h
  rw[Bool.and_eq_true]at h
  rw[Wb h.1,Wa h.2]
def sM:(ts:List Ty)->A3 N ts->A3 N ts->Bool
 | [],_,_=>true
 | [t],x,y=>o5 t x y
 |t::u::ts,x,y=>o5 t x.1 y.1&&sM (u::ts) x.2 y.2
theorem Wc:∀ {ts:List Ty} {x y:A3 N ts},sM ts x y=true->x=y
 | [],_,_,_=>rfl
 | [t],_,_,h=>P1 (t:=t) h
 |t::u::ts,(x,x'),(y,y'),h=>by
  have h:(o5 t x y&&sM (u::ts) x' y')=true:=h
  rw[Bool.and_eq_true]at h
  rw[P1 (t:=t) h.1,Wc h.2]
def vh{α:Type}(b:Bool)(x:α):Option α:=match b with
 |true=>some x
 |false=>none
theorem EP{α:Type}{b:Bool}{x r:α}(h:vh b x=some r):b=true/\x=r:=by cases b<;>cases h;exact⟨rfl,rfl⟩
def yV(hs:List HT):YL N (Bu N hs):= {ky:=0,f:=fun _ _ _=>none,ag:=fun x y=>vh (sH hs x y) x,V_:=fun _ _ _ h=>⟨(EP h).2,(Wa (EP h).1).symm.trans (EP h).2⟩}
def yW(ts:List Ty):YL N (A3 N ts):= {ky:=0,f:=fun _ _ _=>none,ag:=fun x y=>vh (sM ts x y) x,V_:=fun _ _ _ h=>⟨(EP h).2,(Wc (EP h).1).symm.trans (EP h).2⟩}
structure L3(P:Program)(bs:List (Nat×Value))(yl:YL N R)(yv:Value)(G:Hp->Fm->R->Prop):Prop where
 mem:∀C As k r,yl.f C As k=some r->(yl.ky,yv)∈bs
 ok:∀C As k r Of H,N.inv H->G H Of r->yl.f C As k=some r->∀η A vs w,vs.length=As.length->(∀(i:Nat) (s:SV N.T),As[i]?=some s->∃v,vs[i]?=some v/\s.is C η H v)->SH w H (A++Of.O)->
  GZ P yv vs w fun b w'=> ∃H' Of' r',H.le H'/\Of'.ds=Of.ds/\SH w' H' (A++Of'.O)/\G H' Of' r'/\k b=some r'
theorem fV{P:Program}{hs:List HT}{bs:List (Nat×Value)}{yv:Value}{G:Hp->Fm->Bu N hs->Prop} :L3 P bs (yV hs:YL N (Bu N hs)) yv G:=⟨(fun _ _ _ _ h=>by cases h),(fun _ _ _ _ _ _ _ _ h=>by cases h)⟩
theorem fW{P:Program}{ts:List Ty}{bs:List (Nat×Value)}{yv:Value}{G:Hp->Fm->A3 N ts->Prop} :L3 P bs (yW ts:YL N (A3 N ts)) yv G:=⟨(fun _ _ _ _ h=>by cases h),(fun _ _ _ _ _ _ _ _ h=>by cases h)⟩
def Kw:(ts:List Ty)->A3 N ts->List (SV N.T)
 | [],_=>[]
 | [t],x=>[.d t x]
 |t::u::ts,x=> .d t x.1::Kw (u::ts) x.2
theorem PM{C:List (SV N.T)}{H:Hp}{η:Nat->Value} :∀(ts:List Ty) (y:A3 N ts) (vs:List Value),Ja H ts y vs->vs.length=(Kw ts y).length/\(Kw ts y).length=ts.length/\∀(i:Nat) (s:SV N.T),(Kw ts y)[i]?=some s->∃v,vs[i]?=some v/\s.is C η H v
 | [],_,vs,h=>by
  have h:vs=[]:=h
  subst h;exact⟨rfl,rfl,fun i s hi=>by simp[Kw]at hi⟩
 | [t],y,vs,⟨v,e,hv⟩=>by
  subst e
  refine⟨rf,rf,fun i s hi=>?_⟩
  cases i with
  |zero=>simp[Kw]at hi;subst hi;exact⟨v,rfl,Hx hv⟩
  |succ i=>simp[Kw]at hi
 |t::u::ts,y,vs,⟨v,ws,e,hv,hw⟩=>by
  subst e
  obtain⟨h1,h2,h3⟩:=PM (u::ts) y.2 ws hw
  refine⟨by simp[Kw,h1],by simp[Kw,h2],fun i s hi=>?_⟩
  cases i with
  |zero=>simp[Kw]at hi;subst hi;exact⟨v,rfl,Hx hv⟩
  |succ i=>exact h3 i s (by simpa [Kw]using hi)
theorem YW{C:List (SV N.T)}{S:Nat->SV N.T}{Rr:Nat->Option (SR N.T)}{P:Program}{o:Oper}{x:Operand}{xs:List Operand}{tys:Array TypeId}{c:Ca N.T}(ho:o.op= .call {callee:= .value x,args:=xs.toArray,argTypes:=tys})(h:OG S Rr x xs=some c)(hent:Nb P c.f){η:Nat->Value}{H:Hp}{Y:List (Nat×Ao)}{a:Act}(hx:∀x,(Ap S x).is C η H (a.eval x))(hr:∀k∈c.cs,∀sr,Rr k=some sr->C4 C η H Y k sr):
  ∃vs:List Value,vs.length=c.As.length/\(∀(i:Nat) (s:SV N.T),c.As[i]?=some s->∃v,vs[i]?=some v/\s.is C η H v)/\∀w (K:Act->World->Prop) Q,Calls P c.f vs.toArray w (fun e w'=> ∃v,e= .returned v/\K (a.put o.dst v) w')->o.wp P a w K Q:=by
 unfold OG at h
 split at h
 ·rename_i f l cs hs
  split at h
  ·rename_i hb
   cases h
   rw[Bool.and_eq_true]at hb
   have hxx:(Ap S x).is C η H (a.eval x):=hx x
   rw[hs]at hxx
   obtain⟨us,e,hl⟩:=hxx
   obtain⟨g1,g2⟩:=KC hb.1 hl
   refine⟨us++xs.map a.eval++cs.map η,by simp[g1],fun i s hi=>?_,fun w K Q ht=>?_⟩
   ·have hi:(LU l++xs.map (Ap S)++cs.map fun c=>SV.loc c 0)[i]?=some s:=hi
    rw[List.append_assoc]at hi⊢
    by_cases c1:i<(LU l).length
    ·rw[List.getElem?_append_left c1]at hi
     rw[List.getElem?_append_left (by omega)]
     exact g2 i s hi
    ·rw[List.getElem?_append_right (by omega)]at hi
     rw[List.getElem?_append_right (by omega),g1]
     by_cases c2:i-(LU l).length<xs.length
     ·rw[List.getElem?_append_left (by simpa using c2),List.getElem?_map]at hi
      rw[List.getElem?_append_left (by simpa using c2),List.getElem?_map]
      obtain⟨z,hz,rfl⟩:=Option.map_eq_some_iff.1 hi
      exact⟨_,by rw[hz];rfl,hx z⟩
     ·rw[List.getElem?_append_right (by simpa using c2),List.getElem?_map]at hi
      rw[List.getElem?_append_right (by simpa using c2),List.getElem?_map]
      simp only[List.length_map]at hi⊢
      obtain⟨c,hc,rfl⟩:=Option.map_eq_some_iff.1 hi
      have hcm:=List.mem_of_getElem? hc
      have hcb:=List.all_eq_true.1 hb.2 c hcm
      refine⟨η c,by rw[hc];rfl,?_⟩
      split at hcb
      ·rename_i g b hR
       rcases hr c hcm _ hR with e|⟨X,_,B,_,b1,_⟩
       ·cases e
       ·exact⟨B,b1,b1⟩
      ·cases hcb
   ·have hrun:(execOp a.eval o).run P w= .ok (.enter f (us++xs.map a.eval++cs.map η).toArray) w:=by
     have:=hent.run (us++xs.map a.eval++cs.map η).toArray w
     simp[execOp,ho,resolve,Deferred.ofValue,e,invoke]at this⊢
     rw[this]
    unfold Oper.wp
    rw[hrun]
    refine Calls.mono ht ?_
    rintro e w' ⟨v,rfl,h4⟩
    exact h4
  ·cases h
 ·cases h
theorem en{Y:List (Nat×Ao)}{cs:List Nat}{g:Nat->Nat}(hY:(keys Y).Nodup)(hc:cs.Nodup)(hn:(cs.map g).Nodup)(hx:∀c∈cs,∃X,An Y (g c)=some X):
  keys (cs.map fun c=>(c,(An Y (g c)).getD .emp))=cs/\(∀c∈cs,An (cs.map fun c=>(c,(An Y (g c)).getD .emp)) c=An Y (g c))/\
  ∀w H O,SH w H (Y.map (·.2)++O)->SH w H ((cs.map fun c=>(c,(An Y (g c)).getD .emp)).map (·.2)++((Y.filter fun p=> !Bw (cs.map g) p.1).map (·.2)++O)):=by
 have hk:keys (cs.map fun c=>(c,(An Y (g c)).getD .emp))=cs:=by unfold keys;rw[List.map_map];exact List.map_id _
 refine⟨hk,fun c hc'=>?_,fun w H O hsh=>?_⟩
 ·obtain⟨X,hX⟩:=hx c hc'
  have h1:=Cc (Y:=cs.map fun c=>(c,(An Y (g c)).getD .emp)) (by rw[hk];exact hc) (List.mem_map.2 ⟨c,hc',rfl⟩)
  rw[hX]at h1⊢
  exact h1
 ·have hz:=SH.O3 hsh (Z:=(cs.map fun c=>(g c,(An Y (g c)).getD .emp))++Y.filter fun p=> !Bw (cs.map g) p.1) (by
   have e:keys (cs.map fun c=>(g c,(An Y (g c)).getD .emp))=cs.map g:=by unfold keys;rw[List.map_map];rfl
   unfold keys at e⊢
   rw[List.map_append,e]
   refine List.nodup_append.2 ⟨hn,(List.filter_sublist.map _).nodup hY,fun k hk k' hk' e=>?_⟩
   subst e
   obtain⟨p,hp,rfl⟩:=List.mem_map.1 hk'
   have h3:=(List.mem_filter.1 hp).2
   rw[AB.2 hk]at h3;cases h3) (fun p hp=>by
   rcases List.mem_append.1 hp with hp|hp
   ·obtain⟨c,hc',rfl⟩:=List.mem_map.1 hp
    obtain⟨X,hX⟩:=hx c hc'
    simp only[hX,Option.getD_some]
   ·exact Cc hY (List.mem_filter.1 hp).1)
  rw[List.map_append,List.map_map,List.append_assoc]at hz
  rw[List.map_map]
  exact hz
theorem oa{Y Yc:List (Nat×Ao)}{cs:List Nat}{g:Nat->Nat}(hY:(keys Y).Nodup)(hn:(cs.map g).Nodup)(hk:keys Yc=cs):
  keys (Yc.map fun p=>(g p.1,p.2))=cs.map g/\(keys ((Yc.map fun p=>(g p.1,p.2))++Y.filter fun p=> !Bw (cs.map g) p.1)).Nodup/\
  (∀c X,An Yc c=some X->An ((Yc.map fun p=>(g p.1,p.2))++Y.filter fun p=> !Bw (cs.map g) p.1) (g c)=some X)/\(∀k,k∉cs.map g->An ((Yc.map fun p=>(g p.1,p.2))++Y.filter fun p=> !Bw (cs.map g) p.1) k=An Y k)/\
  ∀w H O,SH w H (Yc.map (·.2)++((Y.filter fun p=> !Bw (cs.map g) p.1).map (·.2)++O))->SH w H (((Yc.map fun p=>(g p.1,p.2))++Y.filter fun p=> !Bw (cs.map g) p.1).map (·.2)++O):=by
 have e:keys (Yc.map fun p=>(g p.1,p.2))=cs.map g:=by
  unfold keys at hk⊢
  rw[List.map_map,<-hk,List.map_map];rfl
 have nd:(keys ((Yc.map fun p=>(g p.1,p.2))++Y.filter fun p=> !Bw (cs.map g) p.1)).Nodup:=by
  unfold keys at e⊢
  rw[List.map_append,e]
  refine List.nodup_append.2 ⟨hn,(List.filter_sublist.map _).nodup hY,fun k hk k' hk' e=>?_⟩
  subst e
  obtain⟨p,hp,rfl⟩:=List.mem_map.1 hk'
  have h3:=(List.mem_filter.1 hp).2
  rw[AB.2 hk]at h3;cases h3
 refine⟨e,nd,fun c X hX=>Cc nd (List.mem_append_left _ (List.mem_map.2 ⟨_,AQ hX,rf⟩)),fun k hk'=>?_,fun w H O hsh=>?_⟩
 ·rw[Bq,BV (by rw[e];exact hk'),Jn hk']
 ·rw[List.map_append,List.map_map,List.append_assoc];exact hsh
def okJ(q:JQ N):Bool:=BF (q.pi.ro.map (·.1))
def JI(q:JQ N)(x:Bu N q.pi.hs)(m:List (Nat×Nat))(cs:List Nat):A_ N.T:=⟨.no,cs,q.pi.ro.map fun p=>(AJ m p.1,(instR N q.pi.hs x p.2).CO (AJ m))⟩
def YB(q:JQ N)(d:Option Nat)(b:Bool)(st:St N.T):St N.T:=match q.rb,d with
 |true,some t=>HU t (.lb b) st
 |_,_=>st
def Ri(yl:YL N R)(C:List (SV N.T))(ts:List Ty)(kb:Bool->Option R):List (A3 N ts)->Option Bool->Option R
 | [],some b=>kb b
 | [],none=>none
 |y::l,b=>yl.f C (Kw ts y) fun c=>match c with
  |true=>Ri yl C ts kb l b
  |false=>kb false
def zc(yl:YL N R)(C:List (SV N.T))(CR:List (SR N.T))(n:Nat)(d:Option Nat)(st:St N.T)(As:List (SV N.T))(cs:List Nat)(kn:St N.T->Option R)(q:JQ N):Option (Option R):=
 match Nat.beq As.length q.pi.sl.length&&(q.pi.sl.all (fun p=>Nat.blt p.1 As.length)&&okJ q)with
 |false=>none
 |true=>match Hv C (Ai CR st.O) (fun i=>As.getD i .no) (Fv C (Ai CR st.O) (fun i=>As.getD i .no) q.pi) q.pi with
  |none=>none
  |some x=>match Nat.beq (AJ (Fv C (Ai CR st.O) (fun i=>As.getD i .no) q.pi) q.ky) yl.ky&&Fo CR n st d (JI q x (Fv C (Ai CR st.O) (fun i=>As.getD i .no) q.pi) cs) st.nk with
   |false=>none
   |true=>some (Ac (q.F x) fun r=>Ri yl C q.ts (fun b=>kn (YB q d b (OH (S7 CR q.pi.hs x (Fv C (Ai CR st.O) (fun i=>As.getD i .no) q.pi) st.O q.pi.ro) (app st d (JI q x (Fv C (Ai CR st.O) (fun i=>As.getD i .no) q.pi) cs) st.nk)))) r.1 r.2)
def r_(f:JQ N->Option (Option R)):List (JQ N)->Option R
 | []=>none
 |q::l=>match f q with
  |some z=>z
  |none=>r_ f l
theorem N6{f:JQ N->Option (Option R)}{r:R} :∀ {l:List (JQ N)},r_ f l=some r->∃q∈l,f q=some (some r)
 | [],h=>by cases h
 |q::l,h=>by
  unfold r_ at h
  split at h
  ·rename_i z hz
   subst h
   exact⟨q,by simp,hz⟩
  ·obtain⟨q',h1,h2⟩:=N6 h
   exact⟨q',by simp[h1],h2⟩
def gO(
     yl:YL N R) (Φ:Nat->Option (CQ N)) (C:List (SV N.T)) (CR:List (SR N.T)) (n:Nat) (o:Oper) (st:St N.T) (kn:St N.T->Option R):Option (Option R):=match o.op with
 | .call {callee:= .value x,args:=⟨xs⟩,argTypes:=_} =>match Ap (Bx C st.L) x with
  | .AA f _ _=>match Φ f with
   |some (.gM qs)=>match OG (Bx C st.L) (Ai CR st.O) x xs with
    |some c=>match Nat.beq f c.f with
     |true=>some (r_ (zc yl C CR n o.dst st c.As c.cs kn) qs)
     |false=>none
    |none=>none
   |_=>none
  |_=>none
 |_=>none
theorem Ya{C:List (SV N.T)}{CR:List (SR N.T)}{n:Nat}{Of:Fm}{bs:List (Nat×Value)}{st:St N.T}{η:Nat->Value}{H:Hp}{a:Act}{w:World}{P:Program} [Bn N P]{Φ:Nat->Option (CQ N)}{G:Hp->Fm->R->Prop}{yl:YL N R}{yv:Value}
  (hΦ:∀f q,Φ f=some q->A7 P f q) (hG:∀H H' Of r,H.le H'->G H Of r->G H' Of r) (hY:L3 P bs yl yv G) {o:Oper} {kn:St N.T->Option R} {r:R} (hg:G H Of r) (h:Sat C CR n Of bs st η H a w) (hw:WF C CR bs st) (hd:gO yl Φ C CR n o st kn=some (some r)) {K:Act->World->Prop} {Q:Exit->Act->World->Prop}
  (hK:∀Of' r' st' η' H' a' w',H.le H'->G H' Of' r'->Sat C CR n Of' bs st' η' H' a' w'->WF C CR bs st'->kn st'=some r'->K a' w'):o.wp P a w K Q:=by
 unfold gO at hd
 split at hd
 case h_2=>cases hd
 rename_i x xs tys ho
 split at hd
 case h_2=>cases hd
 rename_i f l0 cs0 hs
 split at hd
 case h_2=>cases hd
 rename_i qs hq
 split at hd
 case h_2=>cases hd
 rename_i c hcal
 split at hd
 case h_2=>cases hd
 rename_i hf
 have hf:=Nat.eq_of_beq_eq_true hf
 subst hf
 obtain⟨q,hqm,hd⟩:=N6 (Option.some.inj hd)
 have hsp:G1 P c.f q:=hΦ _ _ hq q hqm
 unfold zc at hd
 split at hd
 ·cases hd
 rename_i hck
 simp only[Bool.and_eq_true]at hck
 obtain⟨ck1,ck2,ck3⟩:=hck
 split at hd
 ·cases hd
 rename_i z hz
 generalize hm:Fv C (Ai CR st.O) (fun i=>c.As.getD i .no) q.pi=m at hz hd
 split at hd
 ·cases hd
 rename_i hck
 rw[Bool.and_eq_true]at hck
 obtain⟨ck4,ck5⟩:=hck
 have ck4:=Nat.eq_of_beq_eq_true ck4
 obtain⟨⟨ys,b0⟩,hys,hd⟩:=A9 (Option.some.inj hd)
 have hnr:=Ba ck3
 have hkw:keys (JI q z m c.cs).wr=(q.pi.ro.map (·.1)).map (AJ m):=by unfold keys JI;rw[List.map_map,List.map_map];rfl
 have hlt:∀p∈q.pi.sl,p.1<c.As.length:=fun p hp=>by simpa using List.all_eq_true.1 ck2 p hp
 have Oj:∀Y,(∀k,(k∈c.cs\/k∈keys (JI q z m c.cs).wr)->∀sr,Ai CR st.O k=some sr->C4 C η H Y k sr)->∃vs:List Value,vs.length=q.pi.sl.length/\(q.pi.ro.map fun p=>AJ m p.1).Nodup/\(∀p∈q.pi.sl,∃v,vs[p.1]?=some v/\(inst N q.pi.hs z p.2).is [] (fun c=>η (AJ m c)) H v)/\
   (∀p∈q.pi.ro,(∃sr,Ai CR st.O (AJ m p.1)=some sr)/\∃X,An Y (AJ m p.1)=some X/\(instR N q.pi.hs z p.2).is [] (fun c=>η (AJ m c)) H p.1 X)/\∀w (K:Act->World->Prop) Q,Calls P c.f vs.toArray w (fun e w'=> ∃v,e= .returned v/\K (a.put o.dst v) w')->o.wp P a w K Q:=fun Y hr=>by
  obtain⟨vs,v1,v2,v3⟩:=YW ho hcal hsp.Oj (fun x=>h.ev x) (Y:=Y) (fun k hk sr hsr=>hr k (.inl hk) sr hsr)
  have hlen:vs.length=q.pi.sl.length:=by rw[v1];exact Nat.eq_of_beq_eq_true ck1
  obtain⟨e1,e2,e3⟩:=Jv (C:=C) (η:=η) (H:=H) (Y:=Y) (vs:=vs) (A:=fun i=>c.As.getD i .no) hz hlen (fun p hp=>by
   obtain⟨v,g1,g2⟩:=v2 p.1 (c.As[p.1]'(hlt p hp)) (List.getElem?_eq_getElem (hlt p hp))
   refine⟨v,g1,?_⟩
   rw[List.getD_eq_getElem?_getD,List.getElem?_eq_getElem (hlt p hp)];exact g2) (fun p hp sr hsr=>hr _ (.inr (by rw[hkw];exact List.mem_map.2 ⟨_,List.mem_map.2 ⟨p,hp,rfl⟩,rfl⟩)) sr hsr)
  exact⟨vs,hlen,e1,e2,e3,v3⟩
 have hW:L5 C CR n st o.dst (JI q z m c.cs) st.nk:=⟨ck5,Nat.le_refl _,fun j hj hnone=>(by
  obtain⟨_,_,_,_,e3,_⟩:=Oj h.own.choose fun k _ sr hsr=>h.own.choose_spec.2.2.2 k sr hsr
  rw[hkw]at hj
  obtain⟨p,hp,rfl⟩:=List.mem_map.1 hj
  obtain⟨p',hp',rfl⟩:=List.mem_map.1 hp
  obtain⟨⟨sr,hsr⟩,_⟩:=e3 p' hp'
  rw[hsr]at hnone;cases hnone),fun τ _=>trivial⟩
 have hdst:=ck5
 unfold Fo at hdst
 simp only[Bool.and_eq_true]at hdst
 have hdst:=hdst.1.1
 have hbk:∀ {η':Nat->Value} {H':Hp} {Of':Fm} {a':Act} {w':World},Sat C CR n Of' bs (app st o.dst (JI q z m c.cs) st.nk) η' H' a' w'->Sat C CR n Of' bs (OH (S7 CR q.pi.hs z m st.O q.pi.ro) (app st o.dst (JI q z m c.cs) st.nk)) η' H' a' w'/\WF C CR bs (OH (S7 CR q.pi.hs z m st.O q.pi.ro) (app st o.dst (JI q z m c.cs) st.nk)):=fun hs'=>
  oU hs' (hw.Qn hW) (fun k=>oT hz (by obtain⟨_,_,e1,_⟩:=Oj h.own.choose fun k _ sr hsr=>h.own.choose_spec.2.2.2 k sr hsr;exact e1) k) fun y hy=>by
   obtain⟨p,_,_,e,_⟩:=M0 hy
   exact Nat.lt_of_not_le fun hle=>by rw[hw.ok _ hle]at e;cases e
 generalize hkb:(fun b=>kn (YB q o.dst b (OH (S7 CR q.pi.hs z m st.O q.pi.ro) (app st o.dst (JI q z m c.cs) st.nk))))=kb at hd
 refine h.bf (goal:=o.wp P a w K Q) (K:=fun v w' Of' H'=> ∀b r',G H' Of' r'->(q.rb=true->v= .bool b)->kb b=some r'->K (a.put o.dst v) w') hw hW (fun Y hn hsh hr hf hk=>?_) fun η' H' v w' Of' hl hs b r' hg' hv hkb'=>?_
 ·obtain⟨vs,hlen,e1,e2,e3,v3⟩:=Oj Y hr
  have e1:((q.pi.ro.map (·.1)).map (AJ m)).Nodup:=by rw[List.map_map];exact e1
  obtain⟨s1,s2,s3⟩:=en (Y:=Y) (cs:=q.pi.ro.map (·.1)) (g:=AJ m) hn hnr e1 (fun c hc=>by
   obtain⟨p,hp,rfl⟩:=List.mem_map.1 hc
   obtain⟨_,X,hX,_⟩:=e3 p hp
   exact⟨X,hX⟩)
  generalize hYc:((q.pi.ro.map (·.1)).map fun c=>(c,(An Y (AJ m c)).getD .emp))=Yc at s1 s2 s3
  refine v3 w K Q ?_
  generalize hYr:(Y.filter fun p=> !Bw ((q.pi.ro.map (·.1)).map (AJ m)) p.1)=Yr at s3
  refine Calls.mono (hsp.ok z (ys,b0) hys (fun c=>η (AJ m c)) (fun H' O r2=>H.le H'/\∃(Of':Fm) (r':R),Of'.ds=Of.ds/\O=Yr.map (·.2)++Of'.O/\G H' Of' r'/\Ri yl C q.ts kb r2.1 r2.2=some r') (fun H1 H2 O r2 hl ⟨k0,Of',r',k1,k2,k3,k4⟩=>⟨k0.trans hl,Of',r',k1,k2,hG _ _ _ _ hl k3,k4⟩) (fun H1 O ⟨_,_,_,_,_,_,k4⟩=>(by cases k4)) (fun H1 O y rest b hinv1 ⟨k0,Of',r',k1,k2,k3,k4⟩ A ws w1 hArg hSH=>?_) H (Yr.map (·.2)++Of.O) Yc vs w (by rw[s1];exact hnr) hlen e2 s1 (fun p hp=>?_) ⟨Hp.le.refl H,Of,r,rfl,rfl,hg,hd⟩ h.inv (s3 w H Of.O hsh)) ?_
  ·subst k2
   have k4:yl.f C (Kw q.ts y) (fun c=>match c with
    |true=>Ri yl C q.ts kb rest b
    |false=>kb false)=some r':=k4
   have hyv:yv=η (AJ m q.ky):=by rw[ck4];exact(h.base _ (hY.mem _ _ _ _ k4)).symm
   obtain⟨p1,p2,p3⟩:=PM (C:=C) (η:=η) q.ts y ws hArg
   have:=hY.ok C (Kw q.ts y) _ r' Of' H1 hinv1 k3 k4 η (A++Yr.map (·.2)) ws w1 p1 p3 (by rw[List.append_assoc];exact hSH)
   rw[hyv]at this
   refine this.mono fun c' w' ⟨H',Of'',r'',l1,l2,l3,l4,l5⟩=>⟨H',Yr.map (·.2)++Of''.O,l1,by rw[List.append_assoc]at l3;exact l3,k0.trans l1,Of'',r'',l2.trans k1,rf,l4,?_⟩
   cases c' with
   |true=>exact l5
   |false=>exact l5
  ·obtain⟨_,X,hX,hX2⟩:=e3 p hp
   exact⟨X,by rw[s2 p.1 (List.mem_map.2 ⟨p,hp,rf⟩)];exact hX,hX2⟩
  ·rintro e w' ⟨v,H',O',Y',b,rfl,hl,hsh',hk',hro',⟨k0,Of',r',k1,rfl,k2,k3⟩,hvb⟩
   obtain⟨j1,j2,j3,j4,j5⟩:=oa (Y:=Y) (Yc:=Y') (cs:=q.pi.ro.map (·.1)) (g:=AJ m) hn e1 hk'
   rw[<-hYr]at hsh'
   refine⟨v,rf,hk v w' H' η _ Of' k1 hl (fun _ _=>rfl) (fun k hkn=>j4 k (by rw[<-hkw];exact hkn)) (fun k sr hks=>?_) j2 (fun k hkk=>?_) (j5 _ _ _ hsh') trivial b r' k2 hvb k3⟩
   ·obtain⟨p,hp,e⟩:=List.mem_map.1 (AQ hks)
    cases e
    obtain⟨X,x1,x2⟩:=hro' p hp
    exact .inr ⟨X,j3 p.1 X x1,SR.J1 rf (fun _ _=>rfl) x2⟩
   ·unfold keys at hkk j1
    rw[List.map_append,j1]at hkk
    rcases List.mem_append.1 hkk with hkk|hkk
    ·exact .inr (by rw[hkw];exact hkk)
    ·obtain⟨p,hp,rfl⟩:=List.mem_map.1 hkk
     exact .inl (List.mem_map.2 ⟨p,(List.mem_filter.1 hp).1,rf⟩)
 ·subst hkb
  obtain⟨hs,hwf⟩:=hbk hs
  have hkb':kn (YB q o.dst b (OH (S7 CR q.pi.hs z m st.O q.pi.ro) (app st o.dst (JI q z m c.cs) st.nk)))=some r':=hkb'
  unfold YB at hkb'
  split at hkb'
  ·rename_i t hrb hdt
   rw[hdt]at hs hwf hkb'⊢
   rw[hdt]at hdst
   have htn:t<n:=by simpa [La]using hdst
   obtain⟨g1,g2⟩:=Mj (t:=t) (s:= .lb b) hs hwf (by rw[FY (by rw[h.size];exact htn),Nat.beq_refl];exact hv hrb) rfl rfl
   exact hK Of' r' _ η' H' _ w' hl hg' g1 g2 hkb'
  ·exact hK Of' r' _ η' H' _ w' hl hg' hs hwf hkb'
def uJ(Φ:Nat->Option (CQ N))(S:Nat->SV N.T)(Rr:Nat->Option (SR N.T)):Op->Option Nat
 | .call {callee:= .value x,args:=⟨xs⟩,argTypes:=_} =>match Ap S x with
  | .AA f _ _=>match Φ f with
   |some (.gM (q::_))=>match OG S Rr x xs with
    |some c=>QU c.As q.pi.sl
    |none=>none
   |_=>none
  |_=>none
 |_=>none
def X'(yl:YL N R)(Φ:Nat->Option (CQ N))(C:List (SV N.T))(CR:List (SR N.T))(n:Nat)(o:Oper):Nat->St N.T->(St N.T->Option R)->Option (Option R)
 |0,_,_=>none
 |m+1,st,kn=>match uJ Φ (Bx C st.L) (Ai CR st.O) o.op with
  |some kk=>match Ai CR st.O kk with
   |some (.row _ te l)=>X' yl Φ C CR n o m (Ht kk te l st) kn
   |_=>none
  |none=>gO yl Φ C CR n o st kn
def gN(yl:YL N R)(Φ:Nat->Option (CQ N))(C:List (SV N.T))(CR:List (SR N.T))(n:Nat)(o:Oper)(st:St N.T)(kn:St N.T->Option R):Option (Option R):=X' yl Φ C CR n o 4 st kn
theorem Q3{C:List (SV N.T)}{CR:List (SR N.T)}{n:Nat}{Of:Fm}{bs:List (Nat×Value)}{a:Act}{w:World}{P:Program} [Bn N P]{Φ:Nat->Option (CQ N)}{G:Hp->Fm->R->Prop}{yl:YL N R}{yv:Value}
  (hΦ:∀f q,Φ f=some q->A7 P f q) (hG:∀H H' Of r,H.le H'->G H Of r->G H' Of r) (hY:L3 P bs yl yv G) {o:Oper} {kn:St N.T->Option R} {r:R} {K:Act->World->Prop} {Q:Exit->Act->World->Prop} :∀ {m:Nat} {st:St N.T} {η:Nat->Value} {H:Hp},G H Of r->Sat C CR n Of bs st η H a w->WF C CR bs st->X' yl Φ C CR n o m st kn=some (some r)->
  (∀Of' r' st' η' H' a' w',H.le H'->G H' Of' r'->Sat C CR n Of' bs st' η' H' a' w'->WF C CR bs st'->kn st'=some r'->K a' w')->o.wp P a w K Q
 |0,_,_,_,_,_,_,hd,_=>by cases hd
 |m+1,st,η,H,hg,h,hw,hd,hK=>by
  unfold X' at hd
  split at hd
  ·split at hd
   ·rename_i te l hk
    obtain⟨H',h1,h2,h3⟩:=Vo h hw hk
    exact Q3 hΦ hG hY (hG _ _ _ _ h1 hg) h2 h3 hd fun Of' r' st' η' H'' a' w' hl=>hK Of' r' st' η' H'' a' w' (h1.trans hl)
   ·cases hd
  ·exact Ya hΦ hG hY hg h hw hd hK
theorem Q1{C:List (SV N.T)}{CR:List (SR N.T)}{n:Nat}{Of:Fm}{bs:List (Nat×Value)}{st:St N.T}{η:Nat->Value}{H:Hp}{a:Act}{w:World}{P:Program} [Bn N P]{Φ:Nat->Option (CQ N)}{G:Hp->Fm->R->Prop}{yl:YL N R}{yv:Value}
 (hΦ:∀f q,Φ f=some q->A7 P f q) (hG:∀H H' Of r,H.le H'->G H Of r->G H' Of r) (hY:L3 P bs yl yv G) {o:Oper} {kn:St N.T->Option R} {r:R} (hg:G H Of r) (h:Sat C CR n Of bs st η H a w) (hw:WF C CR bs st) (hd:gN yl Φ C CR n o st kn=some (some r)) {K:Act->World->Prop} {Q:Exit->Act->World->Prop}
 (hK:∀Of' r' st' η' H' a' w',H.le H'->G H' Of' r'->Sat C CR n Of' bs st' η' H' a' w'->WF C CR bs st'->kn st'=some r'->K a' w'):o.wp P a w K Q:=Q3 hΦ hG hY hg h hw hd hK
def mX(yl:YL N R)(C:List (SV N.T))(n:Nat)(o:Oper)(st:St N.T)(kn:St N.T->Option R):Option (Option R):=match o.op with
 | .call {callee:= .value x,args:=⟨xs⟩,argTypes:=_} =>match Ap (Bx C st.L) x with
  | .mp k=>match Nat.beq k yl.ky&&La n o.dst with
   |true=>some (yl.f C (xs.map (Ap (Bx C st.L))) fun b=>kn ⟨NK o.dst (.lb b) st.L,st.O,st.nk⟩)
   |false=>none
  |_=>none
 |_=>none
def Nu(yl:YL N R)(P:Program)(Φ:Nat->Option (CQ N))(C:List (SV N.T))(CR:List (SR N.T))(n:Nat)(o:Oper)(st:St N.T)(kn:St N.T->Option R):Option R:=match mX yl C n o st kn with
 |some z=>z
 |none=>match QL o with
  |true=>match gN yl Φ C CR n o st kn with
   |some z=>z
   |none=>TW P Φ C CR n o st kn
  |false=>none
def uK(yl:YL N R)(P:Program)(Φ:Nat->Option (CQ N))(C:List (SV N.T))(CR:List (SR N.T))(n:Nat)(ops:Array Oper)(o:Oper)(st:St N.T)(kn:St N.T->Option R):Option R:=match o.guard with
 |none=>Nu yl P Φ C CR n o st kn
 |some (
     j,want)=>match Bb ops j with
  |none=>none
  |some t=>match Bx C st.L t with
   | .ud=>Gq n o.dst st kn
   |s=>oS s st
    (fun st=>let st:=HU t (.lb true) st
     match want with
     |true=>Nu yl P Φ C CR n o st kn
     |false=>Gq n o.dst st kn)
    (fun st=>let st:=HU t (.lb false) st
     match want with
     |false=>Nu yl P Φ C CR n o st kn
     |true=>Gq n o.dst st kn)
def VE(yl:YL N R)(P:Program)(Φ:Nat->Option (CQ N))(C:List (SV N.T))(CR:List (SR N.T))(n:Nat)(ops:Array Oper):List Oper->St N.T->(St N.T->Option R)->Option R
 | [],st,kn=>kn st
 |o::os,st,kn=>uK yl P Φ C CR n ops o st fun st=>VE yl P Φ C CR n ops os st kn
variable {C : List (SV N.T)} {CR : List (SR N.T)} {n : Nat} {Of : Fm} {bs : List (Nat × Value)} {st : St N.T} {η : Nat -> Value} {H : Hp} {a : Act} {w : World} {P : Program} [Bn N P] {Φ : Nat -> Option (CQ N)} {G : Hp -> Fm -> R -> Prop} {yl : YL N R} {yv : Value} {ro : Option Nat}
theorem Xy{d:Option Nat}{s:SV N.T}(hw:WF C CR bs st)(hp:DO s=true)(hc:NU s=true):WF C CR bs ⟨NK d s st.L,st.O,st.nk⟩:=by
 cases d with
 |none=>exact hw
 |some d=>
  refine hw.EZ fun τ hτ q=>?_
  have h2:=hτ q
  unfold Bx at h2⊢
  simp only[NK,An]
  cases hb:Nat.beq d q with
  |true=>
   simp only
   have:res C s=s:=by cases s<;>first|rfl|cases hc
   rw[this];exact CT hp
  |false=>exact h2
theorem Sat.yld{Of':Fm}{H':Hp}{w':World}{d:Option Nat}{s:SV N.T}{v:Value}{Y:List (Nat×Ao)}(h:Sat C CR n Of bs st η H a w)(hle:H.le H')(hds:Of'.ds=Of.ds)(hd:La n d=true)(hs:s.is C η H' v)
  (y1:(keys Y).Nodup) (y2:SH w' H' (Y.map (·.2)++Of'.O)) (y3:∀k∈keys Y,k<st.nk) (y4:∀k sr,Ai CR st.O k=some sr->C4 C η H Y k sr):Sat C CR n Of' bs ⟨NK d s st.L,st.O,st.nk⟩ η H' (a.put d v) w':=by
 refine⟨N.BW hle h.inv,?_,?_,fun t sv ht=>?_,h.base,Y,y1,y2,y3,fun k sr hk=>?_⟩
 ·rw[hds];cases d<;>exact h.defers
 ·cases d<;>simp[Act.put,h.size]
 ·cases d with
  |none=>exact(h.A6 t sv ht).mono hle
  |some d=>
   have hd:d<n:=by simpa [La]using hd
   have ht:An ((d,s)::st.L) t=some sv:=ht
   rw[FY (by rw[h.size];exact hd)]
   simp only[An]at ht
   cases hb2:Nat.beq d t with
   |true=>rw[hb2]at ht;cases ht;exact hs
   |false=>rw[hb2]at ht;exact(h.A6 t sv ht).mono hle
 ·rcases y4 k sr hk with e|⟨x,g1,g2⟩
  ·exact .inl e
  ·exact .inr ⟨x,g1,g2.mono hle⟩
theorem JJ(hΦ:∀f q,Φ f=some q->A7 P f q)(hG:∀H H' Of r,H.le H'->G H Of r->G H' Of r)(hY:L3 P bs yl yv G){o:Oper}{kn:St N.T->Option R}{r:R}(hg:G H Of r)(h:Sat C CR n Of bs st η H a w)(hw:WF C CR bs st)(hd:Nu yl P Φ C CR n o st kn=some r){K:Act->World->Prop}{Q:Exit->Act->World->Prop}
  (hK:∀Of' r' st' η' H' a' w',H.le H'->G H' Of' r'->Sat C CR n Of' bs st' η' H' a' w'->WF C CR bs st'->kn st'=some r'->K a' w'):o.wpIn (FR ro) 0 P a w K Q:=by
 unfold Nu at hd
 split at hd
 ·rename_i z hz
  subst hd
  unfold mX at hz
  split at hz
  ·rename_i x xs tys ho
   split at hz
   ·rename_i k hs
    split at hz
    ·rename_i hb
     have hz:=Option.some.inj hz
     rw[Bool.and_eq_true]at hb
     have hk:=Nat.eq_of_beq_eq_true hb.1
     subst hk
     have hx:=h.ev x
     rw[hs]at hx
     have hyv:a.eval x=yv:=hx.1.trans (h.base _ (hY.mem _ _ _ _ hz))
     obtain⟨Y,y1,y2,y3,y4⟩:=h.own
     have hargs:∀(i:Nat) (s:SV N.T),(xs.map (Ap (Bx C st.L)))[i]?=some s->∃v,(xs.map a.eval)[i]?=some v/\s.is C η H v:=fun i s hi=>by
      rw[List.getElem?_map]at hi
      obtain⟨z,hz,rfl⟩:=Option.map_eq_some_iff.1 hi
      exact⟨a.eval z,by rw[List.getElem?_map,hz];rfl,h.ev z⟩
     obtain⟨l,f,tmps,asg,body,e1,e2,e3⟩:=hY.ok _ _ _ _ Of H h.inv hg hz η (Y.map (·.2)) (xs.map a.eval) w (by simp) hargs y2
     refine⟨fun f _=>RL ro f,?_⟩
     have hrun:(execOp a.eval o).run P w= .ok (.round l f tmps asg body) w:=by
      have hxx:a.eval x= .func (.yield l) #[] #[]:=hyv.trans e1
      simp[execOp,ho,resolve,Deferred.ofValue,hxx,invoke]at e2⊢
      rw[e2]
     rw[Oper.semAt_eq _ _ _ (fun c e=>by rw[ho]at e;cases e),hrun]
     refine⟨jE,Wn (e3.mono ?_)⟩
     rintro e w' ⟨b,rfl,H',Of',r',k1,k2,k3,k4,k5⟩
     exact hK Of' r' _ η H' _ w' k1 k4 (h.yld (s:= .lb b) k1 k2 hb.2 (rf:Value.bool b= .bool b) y1 k3 y3 y4) (Xy hw rf rf) k5
    ·cases hz
   ·cases hz
  ·cases hz
 ·split at hd
  ·rename_i hn
   split at hd
   ·rename_i z hz
    subst hd
    exact Oper.a_ hn (Q1 hΦ hG hY hg h hw hz hK)
   exact Oper.a_ hn (Nw hΦ h hw hd fun st' η' H' a' w' hle h1 h2 h3=>hK Of r st' η' H' a' w' hle (hG _ _ _ _ hle hg) h1 h2 h3)
  ·cases hd
theorem gZ(hΦ:∀f q,Φ f=some q->A7 P f q)(hG:∀H H' Of r,H.le H'->G H Of r->G H' Of r)(hY:L3 P bs yl yv G){ops:Array Oper}{o:Oper}{kn:St N.T->Option R}{r:R}(hgg:G H Of r)(h:Sat C CR n Of bs st η H a w)(hw:WF C CR bs st)(hd:uK yl P Φ C CR n ops o st kn=some r){K:Act->World->Prop}{Q:Exit->Act->World->Prop}
  (hK:∀Of' r' st' η' H' a' w',H.le H'->G H' Of' r'->Sat C CR n Of' bs st' η' H' a' w'->WF C CR bs st'->kn st'=some r'->K a' w'):if Region.wanted o (yielded ops a.tmps)then o.wpIn (FR ro) 0 P a w K Q else(∀f,o.about P w a.eval=some f->(FR ro).fn f)/\K (a.put o.dst undef) w:=by
 have skp:∀ {st1:St N.T},Sat C CR n Of bs st1 η H a w->WF C CR bs st1->Gq n o.dst st1 kn=some r->(∀f,o.about P w a.eval=some f->(FR ro).fn f)/\K (a.put o.dst undef) w:=fun{st1} g1 g2 g3=>by
  obtain⟨st',k1,k2,k3⟩:=NC g1 g2 g3
  exact⟨fun f _=>RL ro f,hK Of r st' η H _ w (Hp.le.refl H) hgg k1 k2 k3⟩
 unfold uK at hd
 split at hd
 ·rename_i hg
  rw[if_pos (by simp[Region.wanted,hg])]
  exact JJ hΦ hG hY hgg h hw hd hK
 ·rename_i j want hg
  split at hd
  ·cases hd
  ·rename_i t ht
   split at hd
   ·rename_i hu
    have hv:=h.lk t
    rw[hu]at hv
    rw[if_neg (by simp[Region.wanted,hg,GD ht hv])]
    exact skp h hw hd
   ·obtain⟨b,st',h1,h2,h3,h4⟩:=PT h hw hd
    have hy:=ER ht h1
    obtain⟨h5,h6⟩:=Mj (t:=t) (s:= .lb b) h2 h3 h1 rfl rfl
    cases b with
    |true=>
     simp only[if_true]at h4
     cases want with
     |true=>
      rw[if_pos (by simp[Region.wanted,hg,hy])]
      exact JJ hΦ hG hY hgg h5 h6 h4 hK
     |false=>
      rw[if_neg (by simp[Region.wanted,hg,hy])]
      exact skp h5 h6 h4
    |false=>
     simp only[Bool.false_eq_true,if_false]at h4
     cases want with
     |false=>
      rw[if_pos (by simp[Region.wanted,hg,hy])]
      exact JJ hΦ hG hY hgg h5 h6 h4 hK
     |true=>
      rw[if_neg (by simp[Region.wanted,hg,hy])]
      exact skp h5 h6 h4
theorem On(hΦ:∀f q,Φ f=some q->A7 P f q)(hG:∀H H' Of r,H.le H'->G H Of r->G H' Of r)(hY:L3 P bs yl yv G){ops:Array Oper}{Q:Exit->Act->World->Prop}{kn:St N.T->Option R} :∀ {os:List Oper} {Of:Fm} {r:R} {st:St N.T} {η:Nat->Value} {H:Hp} {a:Act} {w:World},G H Of r->Sat C CR n Of bs st η H a w->WF C CR bs st->VE yl P Φ C CR n ops os st kn=some r->
  (∀Of' r' st' η' H' a' w',H.le H'->G H' Of' r'->Sat C CR n Of' bs st' η' H' a' w'->WF C CR bs st'->kn st'=some r'->Q .normal a' w')->wpListIn (FR ro) 0 P ops Q os a w
 | [],Of,r,st,η,H,a,w,hg,h,hw,hd,hK=>hK Of r st η H a w (Hp.le.refl H) hg h hw hd
 |o::os,Of,r,st,η,H,a,w,hg,h,hw,hd,hK=>by
  refine wpListIn_step fun K hKK=>gZ hΦ hG hY hg h hw hd fun Of' r' st' η' H' a' w' hle h0 h1 h2 h3=>hKK a' w' ?_
  exact On hΦ hG hY h0 h1 h2 h3 fun Of'' r'' st'' η'' H'' a'' w'' hle' g0 g1 g2 g3=>hK Of'' r'' st'' η'' H'' a'' w'' (hle.trans hle') g0 g1 g2 g3
end
end Go.GV
namespace Go.GV
open Go Go.GK
def K6(P:Program)(ops:Array Oper)(Q:Exit->Act->World->Prop):List Oper->Act->World->Prop
 | [],a,w=>Q .normal a w
 |o::os,a,w=>if Region.wanted o (yielded ops a.tmps)then o.wp P a w (K6 P ops Q os) Q else K6 P ops Q os (a.put o.dst undef) w
theorem OL:∀(os:List Oper) (acc:List Nat),(HE acc os).length=acc.length+os.length
 | [],acc=>rfl
 |o::os,acc=>by
  show(HE (acc++[_]) os).length=_
  rw[OL];simp;omega
theorem OK:∀(os:List Oper) (acc:List Nat) (i:Nat),i<acc.length->(HE acc os).getD i 0=acc.getD i 0
 | [],_,_,_=>rfl
 |o::os,acc,i,h=>by
  show(HE (acc++[_]) os).getD i 0=_
  rw[OK os _ i (by simp;omega),List.getD_eq_getElem?_getD,List.getElem?_append_left h,<-List.getD_eq_getElem?_getD]
theorem OM:∀(A B:List Oper) (acc:List Nat),HE acc (A++B)=HE (HE acc A) B
 | [],_,_=>rfl
 |o::A,B,acc=>by
  show HE (acc++[_]) (A++B)=HE (HE (acc++[_]) A) B
  exact OM A B _
theorem RG{A B:List Oper}{i:Nat}(h:i<A.length):PY (A++B) i=PY A i:=by
 unfold PY
 rw[OM,OK _ _ _ (by rw[OL];simpa using h)]
def SS(m:Nat)(l:List Oper):Bool:=(List.range l.length).all fun j=>Nat.blt j m||(List.range j).all fun i=>(PY l j).testBit i
theorem SQ{m:Nat}{l:List Oper}(h:SS m l=true){j:Nat}(hj:j<l.length)(hm:m<=j){i:Nat}(hi:i<j):(PY l j).testBit i=true:=by
 have h1:=List.all_eq_true.1 h j (List.mem_range.2 hj)
 rw[Bool.or_eq_true]at h1
 rcases h1 with h1|h1
 ·have:j<m:=by simpa using h1
  omega
 ·exact List.all_eq_true.1 h1 i (List.mem_range.2 hi)
theorem YG{P:Program}{Q:Exit->Act->World->Prop}{id:Nat}(hm:P.follows .mixedOrders=true){A B:List Oper}(hb:E' 0 (A++B)=true)(hcut:SS A.length (A++B)=true){J:(Nat->Bool)->Act->World->Prop}
  (step:∀p a w i o,A[i]?=some o->p i=false->FT A p->(∀j,(PY A i).testBit j=true->p j=true)->(∀j oj,A[j]?=some oj->p j=true->∀m,(PY A j).testBit m=true->p m=true)->J p a w->
   if Region.wanted o (yielded (A++B).toArray a.tmps)then o.wp P a w (J (G6 p i)) Q else J (G6 p i) (a.put o.dst undef) w)
  (mid:∀p a w,(∀i,i<A.length->p i=true)->J p a w->K6 P (A++B).toArray Q B a w) {a:Act} {w:World} (h:J (fun _=>false) a {w with drawn:=w.drawn+1}):(Code.region id (A++B).toArray true).wp P Q a w:=by
 refine JC hm hb (J:=fun p a w=>((∀j,A.length<=j->j<(A++B).length->p j=false)/\J p a w)\/∃m,A.length<=m/\(∀j,j<(A++B).length->p j=decide (j<m))/\K6 P (A++B).toArray Q ((A++B).drop m) a w) ?_ ?_ (.inl ⟨fun _ _ _=>rfl,h⟩)
 ·intro p a w i o hli hpi hcl hanc hancs hJ
  have hlt:i<(A++B).length:=(List.getElem?_eq_some_iff.1 hli).1
  have hup:∀j,j≠i->G6 p i j=p j:=fun j hj=>by simp[G6,hj]
  have hupi:G6 p i i=true:=by simp[G6]
  have full:A.length<=i->∀j,j<i->p j=true:=fun hi j hj=>hanc j (SQ hcut hlt hi hj)
  have seq:∀m,m=i->A.length<=m->(∀j,j<(A++B).length->p j=decide (j<m))->K6 P (A++B).toArray Q ((A++B).drop m) a w->if Region.wanted o (yielded (A++B).toArray a.tmps)then o.wp P a w (fun a w=>((∀j,A.length<=j->j<(A++B).length->G6 p i j=false)/\J (G6 p i) a w)\/∃m,A.length<=m/\(∀j,j<(A++B).length->G6 p i j=decide (j<m))/\K6 P (A++B).toArray Q ((A++B).drop m) a w) Q
    else((∀j,A.length<=j->j<(A++B).length->G6 p i j=false)/\J (G6 p i) (a.put o.dst undef) w)\/∃m,A.length<=m/\(∀j,j<(A++B).length->G6 p i j=decide (j<m))/\K6 P (A++B).toArray Q ((A++B).drop m) (a.put o.dst undef) w:=fun m e hm hp hs=>by
   subst e
   have hd:(A++B).drop m=o::(A++B).drop (m+1):=by
    rw[List.drop_eq_getElem_cons hlt]
    congr 1
    exact Option.some.inj ((List.getElem?_eq_getElem hlt).symm.trans hli)
   rw[hd]at hs
   have hp':∀j,j<(A++B).length->G6 p m j=decide (j<m+1):=fun j hj=>by
    by_cases e:j=m
    ·subst e;rw[hupi];simp
    ·rw[hup j e,hp j hj]
     have:j<m↔j<m+1:=by omega
     simp[this]
   unfold K6 at hs
   split at hs
   ·rename_i hw
    rw[if_pos hw]
    exact Oper.wp_mono (fun a w h=> .inr ⟨m+1,by omega,hp',h⟩) hs
   ·rename_i hw
    rw[if_neg hw]
    exact .inr ⟨m+1,by omega,hp',hs⟩
  rcases hJ with⟨h0,hJ⟩|⟨m,hm,hp,hs⟩
  ·by_cases hi:i<A.length
   ·have ho:A[i]?=some o:=by rw[<-hli,List.getElem?_append_left hi]
    have st:=step p a w i o ho hpi (fun j oj hj=>hcl j oj (by rw[List.getElem?_append_left (List.getElem?_eq_some_iff.1 hj).1];exact hj)) (fun j hj=>hanc j (by rw[RG hi];exact hj)) (fun j oj hj hp m hm=>hancs j oj (by rw[List.getElem?_append_left (List.getElem?_eq_some_iff.1 hj).1];exact hj) hp m (by rw[RG (List.getElem?_eq_some_iff.1 hj).1];exact hm)) hJ
    have k0:∀j,A.length<=j->j<(A++B).length->G6 p i j=false:=fun j h1 h2=>by rw[hup j (by omega)];exact h0 j h1 h2
    split at st
    ·rename_i hw
     rw[if_pos hw]
     exact Oper.wp_mono (fun a w h=> .inl ⟨k0,h⟩) st
    ·rename_i hw
     rw[if_neg hw]
     exact .inl ⟨k0,st⟩
   ·have hi:A.length<=i:=by omega
    have e:A.length=i:=by
     refine Nat.le_antisymm hi (Nat.le_of_not_lt fun hlt'=>?_)
     have h1:=full hi A.length hlt'
     rw[h0 A.length (Nat.le_refl _) (by omega)]at h1;cases h1
    refine seq A.length e (Nat.le_refl _) (fun j hj=>?_) ?_
    ·by_cases hj':j<A.length
     ·rw[full hi j (by omega)];simp[hj']
     ·rw[h0 j (by omega) hj];simp[hj']
    ·rw[List.drop_left]
     exact mid p a w (fun j hj=>full hi j (by omega)) hJ
  ·refine seq m ?_ hm hp hs
   have h1:=hp i hlt
   rw[hpi]at h1
   have h1:¬i<m:=by simpa using h1.symm
   refine Nat.le_antisymm (by omega) (Nat.le_of_not_lt fun hlt'=>?_)
   have h2:=full (by omega) m hlt'
   rw[hp m (by omega)]at h2
   simp at h2
 ·intro p a w hall hJ
  rcases hJ with⟨h0,hJ⟩|⟨m,hm,hp,hs⟩
  ·have hB:B=[]:=by
    cases B with
    |nil=>rfl
    |cons b B=>
     have h1:=hall A.length (by simp)
     rw[h0 A.length (Nat.le_refl _) (by simp)]at h1;cases h1
   have:=mid p a w (fun i hi=>hall i (by rw[List.length_append];omega)) hJ
   rw[hB]at this
   exact this
  ·have hle:(A++B).length<=m:=by
    refine Nat.le_of_not_lt fun hlt=>?_
    have h1:=hp m hlt
    rw[hall m hlt]at h1
    simp at h1
   rw[List.drop_of_length_le hle]at hs
   exact hs
section
variable {N : Cw} {R : Type}
def Nx(yl:YL N R)(P:Program)(Φ:Nat->Option (CQ N))(C:List (SV N.T))(CR:List (SR N.T))(n:Nat)(o:Oper)(st:St N.T)(kn:St N.T->Option R):Option R:=match gN yl Φ C CR n o st kn with
 |some z=>z
 |none=>TW P Φ C CR n o st kn
def uL(yl:YL N R)(P:Program)(Φ:Nat->Option (CQ N))(C:List (SV N.T))(CR:List (SR N.T))(n:Nat)(ops:Array Oper)(o:Oper)(st:St N.T)(kn:St N.T->Option R):Option R:=match o.guard with
 |none=>Nx yl P Φ C CR n o st kn
 |some (
     j,want)=>match Bb ops j with
  |none=>none
  |some t=>match Bx C st.L t with
   | .ud=>Gq n o.dst st kn
   |s=>oS s st
    (fun st=>let st:=HU t (.lb true) st
     match want with
     |true=>Nx yl P Φ C CR n o st kn
     |false=>Gq n o.dst st kn)
    (fun st=>let st:=HU t (.lb false) st
     match want with
     |false=>Nx yl P Φ C CR n o st kn
     |true=>Gq n o.dst st kn)
def VF(yl:YL N R)(P:Program)(Φ:Nat->Option (CQ N))(C:List (SV N.T))(CR:List (SR N.T))(n:Nat)(ops:Array Oper):List Oper->St N.T->(St N.T->Option R)->Option R
 | [],st,kn=>kn st
 |o::os,st,kn=>uL yl P Φ C CR n ops o st fun st=>VF yl P Φ C CR n ops os st kn
def VH(yl:YL N R)(P:Program)(Φ:Nat->Option (CQ N))(C:List (SV N.T))(CR:List (SR N.T))(n:Nat)(ops:Array Oper)(m:Nat)(st:St N.T)(kn:St N.T->Option R):Option R:=match Nat.ble m ops.size&&(E' 0 ops.toList&&SS m ops.toList)with
 |true=>oJ P Φ C CR n (ops.toList.take m).toArray st fun st=>VF yl P Φ C CR n ops (ops.toList.drop m) st kn
 |false=>none
variable {C : List (SV N.T)} {CR : List (SR N.T)} {n : Nat} {bs : List (Nat × Value)} {P : Program} [Bn N P] {Φ : Nat -> Option (CQ N)} {G : Hp -> Fm -> R -> Prop} {yl : YL N R} {yv : Value}
theorem JK(hΦ:∀f q,Φ f=some q->A7 P f q)(hG:∀H H' Of r,H.le H'->G H Of r->G H' Of r)(hY:L3 P bs yl yv G){o:Oper}{Of:Fm}{st:St N.T}{η:Nat->Value}{H:Hp}{a:Act}{w:World}{kn:St N.T->Option R}{r:R}(hg:G H Of r)(h:Sat C CR n Of bs st η H a w)(hw:WF C CR bs st)(hd:Nx yl P Φ C CR n o st kn=some r){K:Act->World->Prop}{Q:Exit->Act->World->Prop}
  (hK:∀Of' r' st' η' H' a' w',H.le H'->G H' Of' r'->Sat C CR n Of' bs st' η' H' a' w'->WF C CR bs st'->kn st'=some r'->K a' w'):o.wp P a w K Q:=by
 unfold Nx at hd
 split at hd
 ·rename_i z hz
  subst hd
  exact Q1 hΦ hG hY hg h hw hz hK
 ·exact Nw hΦ h hw hd fun st' η' H' a' w' hle h1 h2 h3=>hK Of r st' η' H' a' w' hle (hG _ _ _ _ hle hg) h1 h2 h3
theorem g_(hΦ:∀f q,Φ f=some q->A7 P f q)(hG:∀H H' Of r,H.le H'->G H Of r->G H' Of r)(hY:L3 P bs yl yv G){ops:Array Oper}{o:Oper}{Of:Fm}{st:St N.T}{η:Nat->Value}{H:Hp}{a:Act}{w:World}{kn:St N.T->Option R}{r:R}(hgg:G H Of r)(h:Sat C CR n Of bs st η H a w)(hw:WF C CR bs st)(hd:uL yl P Φ C CR n ops o st kn=some r){K:Act->World->Prop}{Q:Exit->Act->World->Prop}
  (hK:∀Of' r' st' η' H' a' w',H.le H'->G H' Of' r'->Sat C CR n Of' bs st' η' H' a' w'->WF C CR bs st'->kn st'=some r'->K a' w'):if Region.wanted o (yielded ops a.tmps)then o.wp P a w K Q else K (a.put o.dst undef) w:=by
 have skp:∀ {st1:St N.T},Sat C CR n Of bs st1 η H a w->WF C CR bs st1->Gq n o.dst st1 kn=some r->K (a.put o.dst undef) w:=fun{st1} g1 g2 g3=>by
  obtain⟨st',k1,k2,k3⟩:=NC g1 g2 g3
  exact hK Of r st' η H _ w (Hp.le.refl H) hgg k1 k2 k3
 unfold uL at hd
 split at hd
 ·rename_i hg
  rw[if_pos (by simp[Region.wanted,hg])]
  exact JK hΦ hG hY hgg h hw hd hK
 ·rename_i j want hg
  split at hd
  ·cases hd
  ·rename_i t ht
   split at hd
   ·rename_i hu
    have hv:=h.lk t
    rw[hu]at hv
    rw[if_neg (by simp[Region.wanted,hg,GD ht hv])]
    exact skp h hw hd
   ·obtain⟨b,st',h1,h2,h3,h4⟩:=PT h hw hd
    have hy:=ER ht h1
    obtain⟨h5,h6⟩:=Mj (t:=t) (s:= .lb b) h2 h3 h1 rfl rfl
    cases b with
    |true=>
     simp only[if_true]at h4
     cases want with
     |true=>
      rw[if_pos (by simp[Region.wanted,hg,hy])]
      exact JK hΦ hG hY hgg h5 h6 h4 hK
     |false=>
      rw[if_neg (by simp[Region.wanted,hg,hy])]
      exact skp h5 h6 h4
    |false=>
     simp only[Bool.false_eq_true,if_false]at h4
     cases want with
     |false=>
      rw[if_pos (by simp[Region.wanted,hg,hy])]
      exact JK hΦ hG hY hgg h5 h6 h4 hK
     |true=>
      rw[if_neg (by simp[Region.wanted,hg,hy])]
      exact skp h5 h6 h4
theorem Oo(hΦ:∀f q,Φ f=some q->A7 P f q)(hG:∀H H' Of r,H.le H'->G H Of r->G H' Of r)(hY:L3 P bs yl yv G){ops:Array Oper}{Q:Exit->Act->World->Prop}{kn:St N.T->Option R} :∀ {os:List Oper} {Of:Fm} {r:R} {st:St N.T} {η:Nat->Value} {H:Hp} {a:Act} {w:World},G H Of r->Sat C CR n Of bs st η H a w->WF C CR bs st->VF yl P Φ C CR n ops os st kn=some r->
  (∀Of' r' st' η' H' a' w',H.le H'->G H' Of' r'->Sat C CR n Of' bs st' η' H' a' w'->WF C CR bs st'->kn st'=some r'->Q .normal a' w')->K6 P ops Q os a w
 | [],Of,r,st,η,H,a,w,hg,h,hw,hd,hK=>hK Of r st η H a w (Hp.le.refl H) hg h hw hd
 |o::os,Of,r,st,η,H,a,w,hg,h,hw,hd,hK=>by
  unfold K6
  exact g_ hΦ hG hY hg h hw hd fun Of' r' st' η' H' a' w' hle h0 h1 h2 h3=>Oo hΦ hG hY h0 h1 h2 h3 fun Of'' r'' st'' η'' H'' a'' w'' hle' g0 g1 g2 g3=>hK Of'' r'' st'' η'' H'' a'' w'' (hle.trans hle') g0 g1 g2 g3
theorem OX{A B:List Oper}{o:Oper}{tm:Array Value}(h:∀j b,o.guard=some (j,b)->∃t,Bb A.toArray j=some t):Region.wanted o (yielded (A++B).toArray tm)=Region.wanted o (yielded A.toArray tm):=by
 cases hg:o.guard with
 |none=>simp[Region.wanted,hg]
 |some jb=>
  obtain⟨j,b⟩:=jb
  obtain⟨t,ht⟩:=h j b hg
  have ht2:Bb (A++B).toArray j=some t:=by
   unfold Bb at ht⊢
   obtain⟨x,hx,e⟩:=Option.bind_eq_some_iff.1 ht
   refine Option.bind_eq_some_iff.2 ⟨x,?_,e⟩
   have hx:A[j]?=some x:=by simpa using hx
   have h2:(A++B)[j]?=some x:=by rw[List.getElem?_append_left (List.getElem?_eq_some_iff.1 hx).1];exact hx
   rw[<-h2,List.getElem?_toArray]
  have e:yielded (A++B).toArray tm j=yielded A.toArray tm j:=by
   unfold Bb at ht ht2
   unfold yielded
   rw[ht,ht2]
  simp only[Region.wanted,hg,e]
theorem VG(hΦ:∀f q,Φ f=some q->A7 P f q)(hm:P.follows .mixedOrders=true)(hG:∀H H' Of r,H.le H'->G H Of r->G H' Of r)(hY:L3 P bs yl yv G){Of:Fm}{Q:Exit->Act->World->Prop}{id m:Nat}{ops:Array Oper}{kn:St N.T->Option R}{r:R}{st:St N.T}{η:Nat->Value}{H:Hp}{a:Act}{w:World}(hg:G H Of r)(h:Sat C CR n Of bs st η H a w)(hw:WF C CR bs st)
  (hd:VH yl P Φ C CR n ops m st kn=some r) (hK:∀Of' r' st' η' H' a' w',H.le H'->G H' Of' r'->Sat C CR n Of' bs st' η' H' a' w'->WF C CR bs st'->kn st'=some r'->Q .normal a' w'):(Code.region id ops true).wp P Q a w:=by
 unfold VH at hd
 split at hd
 case h_2=>cases hd
 rename_i hck
 simp only[Bool.and_eq_true]at hck
 obtain⟨hsz,hbk,hct⟩:=hck
 have hsz:m<=ops.size:=by simpa using hsz
 obtain⟨A,B,rfl,hA⟩:∃A B:List Oper,ops=(A++B).toArray/\A.length=m:=⟨ops.toList.take m,ops.toList.drop m,by rw[List.take_append_drop],by simp;omega⟩
 have e1:(A++B).toArray.toList.take m=A:=by rw[<-hA];simp
 have e2:(A++B).toArray.toList.drop m=B:=by rw[<-hA];simp
 rw[e1,e2]at hd
 rw[<-hA]at hct
 unfold oJ at hd
 split at hd
 case h_2=>cases hd
 rename_i hfr
 have iv0:IV P C CR n bs A st st [] 0:=⟨rfl,fun t sv ht η H v hv=>by
  have hv:(s0 st t).is C η H v:=hv
  unfold s0 at hv;rw[ht]at hv;exact hv,fun k=>rfl,hw,Nat.le_refl _,fun j s hs=>by simp at hs,fun j o s hj=>by omega⟩
 obtain⟨st',tr,k1,k2⟩:=IJ (l:=A) hΦ A st [] 0 rfl (Nat.zero_le _) iv0 (by simpa using hd)
 split at k1
 case h_2=>cases k1
 rename_i hreg
 have hreg:Sg A tr st.nk=true:=by simpa using hreg
 have hfr2:=hfr
 unfold Cp at hfr2
 rw[Bool.and_eq_true]at hfr2
 have hTr:∀i o,A[i]?=some o->∃s,tr[i]?=some s:=fun i o ho=>by
  have:i<tr.length:=by rw[(HR hreg).2.1];exact(List.getElem?_eq_some_iff.1 ho).1
  exact⟨tr[i],List.getElem?_eq_getElem this⟩
 have hl:∀i o s,A[i]?=some o->tr[i]?=some s->Wi P C A.toArray n st.nk o s (fun t=>BA A tr (s0 st) (fun _=>true) t i) (fun k=>BL tr (Ai CR st.O) (fun _=>true) k i):=fun i o s ho hs=>k2.loc i o s (List.getElem?_eq_some_iff.1 ho).1 ho hs
 refine YG (J:=JV C n Of bs st.nk A tr (s0 st) (Ai CR st.O) H) hm (by simpa using hbk) (by simpa using hct) (fun p a' w' i o hli hpi hcl hanc hancs hJ=>?_) (fun p a' w' hall hJ=>?_) ?_
 ·rw[OX fun j b hgd=>by
   obtain⟨s,hs⟩:=hTr i o hli
   have hloc:=hl i o s hli hs
   cases s with
   |skip=>
    obtain⟨j',b',t,g1,g2,_⟩:=hloc.skip rfl
    rw[hgd]at g1;cases g1
    exact⟨t,g2⟩
   |run z=>
    obtain⟨t,g1,_⟩:=(hloc.run z rfl).1 j b hgd
    exact⟨t,g1⟩]
  refine OJ h.inv hreg hw.mC (fun t k hk=>?_) (fun k x hk=>⟨?_,Da hk hfr⟩) hw.lo hl p a' w' i o hli hpi hcl hanc hancs hJ
  ·unfold s0 at hk
   split at hk
   ·rename_i s hs
    have:=List.all_eq_true.1 (List.all_eq_true.1 hfr2.1 _ (AQ hs)) k hk
    simpa using this
   ·cases hk
  ·have hlk:An st.O k≠none:=fun e=>by unfold Ai at hk;rw[e]at hk;cases hk
   exact Nat.lt_of_not_le fun hle=>hlk (hw.ok k hle)
 ·obtain⟨η',H',Y,g1,g2,g3,g4,g5,g6,g7,g8,g9⟩:=hJ.all hall
  refine Oo hΦ hG hY (hG _ _ _ _ g1 hg) (st:=st') (η:=η') (H:=H') ⟨N.BW g1 h.inv,g2,g3,fun t sv ht=>k2.sl t sv ht η' H' _ (g4 t),g5,Y,g6,g7,fun k hk=>?_,fun k sr hk=>g9 k sr (by rw[<-k2.ow k];exact hk)⟩ k2.wf k1 fun Of' r' st2 η2 H2 a2 w2 hle q0 q1 q2 q3=>hK Of' r' st2 η2 H2 a2 w2 (g1.trans hle) q0 q1 q2 q3
  rcases g8 k hk with e|⟨j,s,_,e2,e3⟩
  ·exact Nat.lt_of_lt_of_le e k2.le
  ·exact k2.ks j s e2 k e3
 ·obtain⟨Y,g1,g2,g3,g4⟩:=h.own
  refine⟨η,H,Y,Hp.le.refl H,h.defers,h.size,fun t=>?_,h.base,g1,g2.drew,fun k hk=> .inl (g3 k hk),fun k sr hk=>g4 k sr ?_⟩
  ·rw[FK (i:=0) A.length (Nat.zero_le _) (fun _ _ _ _=>rfl)]
   show(s0 st t).is C η H _
   unfold s0
   split
   ·rename_i s hs;exact h.A6 t s hs
   ·trivial
  ·rw[FJ (i:=0) A.length (Nat.zero_le _) (fun _ _ _ _ _ _=>rfl)]at hk;exact hk
end
end Go.GV
namespace Go.GV
open Go Go.GK
section
variable {N : Cw} {R : Type}
def Pl:List Tmp->List (SV N.T)->List (Nat×SV N.T)->List (Nat×SV N.T)
 |t::ts,s::ss,L=>Pl ts ss ((t,s)::L)
 |_,_,L=>L
def E_{X Y:Type}(f:Y->X->(X->Option R)->Option R)(fin:X->Option R):List Y->X->Option R
 | [],x=>fin x
 |y::ys,x=>f y x (E_ f fin ys)
def Ma{R:Type}(e:Bool)(k:Option R):Option R:=match e with
 |true=>k
 |false=>none
def si(p:Nat×SP):Bool:=match p.2 with
 | .c _=>true
 |_=>false
def mG(q:IQ N):Bool:=((q.pi.ro.map (·.1)).all fun k=>Nat.blt k q.pi.nk)&&(BF (q.pi.ro.map (·.1))&&(q.pi.ro.all fun p=>p.2.ks.all fun k=>Bw (q.pi.ro.map (·.1)) k))
def N3(ks:List Nat)(st:St N.T):St N.T:=app st none ⟨.no,[],ks.map fun k=>(k, .gone)⟩ st.nk
def RC(q:IQ N)(x:Bu N q.pi.hs)(m:List (Nat×Nat))(s:St N.T):St N.T:=⟨s.L,(q.pi.ro.map fun p=>(AJ m p.1,(instR N q.pi.hs x p.2).CO (AJ m)))++s.O,s.nk⟩
abbrev WX(N:Cw)(R:Type):=Nat->List (SV N.T)->List (SR N.T)->St N.T->(St N.T->Option R)->(Nat->St N.T->Option R)->(St N.T->Option R)->Option R
def Ua(C:List (SV N.T))(CR:List (SR N.T))(nk:Nat)(ps:Array Tmp)(q:IQ N)(x:Bu N q.pi.hs)(m:List (Nat×Nat))(p:AY)(z:Kc N.T)(da db:WX N R)(ke:Nat->St N.T->Option R)(kr:St N.T->Option R)(y:A3 N q.ts)(x':Bu N (E9 p z).hs)(nx:Bu N (E9 p z).hs->Option R):Option R:=da nk z.C z.CR ⟨Pl ps.toList (Kw q.ts y) (Ep N (E9 p z) x').L,(Ep N (E9 p z) x').O,(Ep N (E9 p z) x').nk⟩ (fun s=>db nk z.C z.CR s (fun s=>Ac (Oi N z.C z.CR nk (E9 p z) ⟨(Ep N (E9 p z) x').L,s.O,s.nk⟩) nx) (fun i s=>ke i (C_ z.C z.CR C.length CR.length (RC q x m ⟨(Ep N (E9 p z) x').L,s.O,s.nk⟩))) (fun s=>kr (C_ z.C z.CR C.length CR.length (RC q x m ⟨(Ep N (E9 p z) x').L,s.O,s.nk⟩)))) (fun _ _=>none) (fun _=>none)
def eE(
     C:List (SV N.T)) (CR:List (SR N.T)) (n:Nat) (ps:Array Tmp) (pp:Option AY) (st:St N.T) (q:IQ N) (l:SV N.T) (cs:List Nat) (da db:WX N R) (kn:St N.T->Option R) (ke:Nat->St N.T->Option R) (kr:St N.T->Option R):Option (Option R):=
 match(Nat.beq (Em l cs).length q.pi.sl.length&&q.pi.sl.all (fun p=>Nat.blt p.1 (Em l cs).length))&&(mG q&&Nat.beq q.yi (LU l).length)with
 |false=>none
 |true=>
      match Hv C (Ai CR st.O) (fun i=>(Em l cs).getD i .no) (Fv C (Ai CR st.O) (fun i=>(Em l cs).getD i .no) q.pi) q.pi with
  |none=>none
  |some x=>some (match pp with
   |none=>none
   |some p=>match n_ C CR (N3 (q.pi.ro.map fun p=>AJ (Fv C (Ai CR st.O) (fun i=>(Em l cs).getD i .no) q.pi) p.1) st) p with
    |none=>none
    |some z=>match(z.sl.all si&&Nat.beq z.st.nk st.nk)&&(Nat.beq ps.size q.ts.length&&ps.toList.all (fun t=>Nat.blt t n))with
     |false=>none
     |true=>Ac (q.F x) fun ys=>Ac (Oi N z.C z.CR st.nk (E9 p z) z.st) fun x0=>
      E_ (Ua C CR st.nk ps q x (Fv C (Ai CR st.O) (fun i=>(Em l cs).getD i .no) q.pi) p z da db ke kr)
       (fun x'=>Ma ys.2 (kn (C_ z.C z.CR C.length CR.length (RC q x (Fv C (Ai CR st.O) (fun i=>(Em l cs).getD i .no) q.pi) (Ep N (E9 p z) x'))))) ys.1 x0)
structure Sa(C:List (SV N.T))(CR:List (SR N.T))(n:Nat)(bs:List (Nat×Value))(st:St N.T)(η:Nat->Value)(H:Hp)(tm:Array Value)(Y:List (Nat×Ao)):Prop where
 inv:N.inv H
 size:tm.size=n
 A6:∀t sv,An st.L t=some sv->sv.is C η H (tm.getD t undef)
 base:∀p∈bs,η p.1=p.2
 nd:(keys Y).Nodup
 lt:∀k∈keys Y,k<st.nk
 res:∀k sr,Ai CR st.O k=some sr->C4 C η H Y k sr
variable {C : List (SV N.T)} {CR : List (SR N.T)} {n : Nat} {Of : Fm} {bs : List (Nat × Value)} {st : St N.T} {η : Nat -> Value} {H : Hp} {a : Act} {w : World} {Y : List (Nat × Ao)}
theorem Sat.sa(h:Sat C CR n Of bs st η H a w):∃Y,Sa C CR n bs st η H a.tmps Y/\SH w H (Y.map (·.2)++Of.O):=by
 obtain⟨Y,y1,y2,y3,y4⟩:=h.own
 exact⟨Y,⟨h.inv,h.size,h.A6,h.base,y1,y3,y4⟩,y2⟩
theorem Sa.sat{tm:Array Value}(h:Sa C CR n bs st η H tm Y){O:List Ao}{ds:List Deferred}(hs:SH w H (Y.map (·.2)++O)):Sat C CR n ⟨O,ds⟩ bs st η H ⟨tm,ds⟩ w:=
 ⟨h.inv,rfl,h.size,h.A6,h.base,Y,h.nd,hs,h.lt,h.res⟩
theorem Sa.mono{tm:Array Value}{H':Hp}(h:Sa C CR n bs st η H tm Y)(hle:H.le H'):Sa C CR n bs st η H' tm Y:=
 ⟨N.BW hle h.inv,h.size,fun t sv ht=>(h.A6 t sv ht).mono hle,h.base,h.nd,h.lt,fun k sr hk=>(h.res k sr hk).imp id fun⟨x,g1,g2⟩=>⟨x,g1,g2.mono hle⟩⟩
def Et(η:Nat->Value)(nk:Nat):List (Nat×Value):=(List.range nk).map fun k=>(k,η k)
theorem KN{k nk:Nat}(h:k<nk):(k,η k)∈Et η nk:=List.mem_map.2 ⟨k,List.mem_range.2 h,rfl⟩
theorem Gi{nk:Nat}{p:Nat×Value}(h:p∈Et η nk):p.1<nk/\p.2=η p.1:=by
 obtain⟨k,hk,rfl⟩:=List.mem_map.1 h
 exact⟨List.mem_range.1 hk,rf⟩
theorem Jy{nk k:Nat}{η':Nat->Value}(h:∀p∈Et η nk,η' p.1=p.2)(hk:k<nk):η' k=η k:=h _ (KN hk)
theorem SU{η':Nat->Value}{H':Hp}{L:List (Nat×SV N.T)}{tm:Array Value}(hc:∀t sv,An L t=some sv->∃j,sv= .BO j)(hm:∀k∈Co C,η' k=η k)(hle:H.le H')(h:∀t sv,An L t=some sv->sv.is C η H (tm.getD t undef)):∀t sv,An L t=some sv->sv.is C η' H' (tm.getD t undef):=fun t sv ht=>by
 obtain⟨j,rfl⟩:=hc t sv ht
 exact((h t _ ht).env hm (fun k hk=>by cases hk)).mono hle
theorem VK{L:List (Nat×SV N.T)}{O O':List (Nat×SR N.T)}(hc:∀t sv,An L t=some sv->∃j,sv= .BO j)(hp:∀s∈C,NS s=true){τ:Nat->Nat}(h:KP (Ai CR O) (Bx C L) τ):KP (Ai CR O') (Bx C L) τ:=fun t=>by
 have h1:=h t
 unfold Bx at h1⊢
 cases ht:An L t with
 |none=>trivial
 |some sv=>
  obtain⟨j,rfl⟩:=hc t sv ht
  rw[ht]at h1
  simp only[res]at h1⊢
  rw[List.getD_eq_getElem?_getD]at h1⊢
  cases hj:C[j]? with
  |none=>trivial
  |some s=>
   rw[hj]at h1
   have:=hp s (List.mem_of_getElem? hj)
   simp only[Option.getD_some]at h1⊢
   cases s<;>first|exact h1|cases this
theorem YC{p:AY}{x:Bu N p.hs}(h:p.sl.all si=true):∀t sv,An (Ep N p x).L t=some sv->∃j,sv= .BO j:=fun t sv ht=>by
 obtain⟨q,hq,_,rfl⟩:=CX ht
 have:=List.all_eq_true.1 h q hq
 unfold si at this
 split at this
 ·rename_i j e;rw[e];exact⟨j,rfl⟩
 ·cases this
theorem Ur{η:Nat->Value} :∀(ts:List Tmp) (ss:List (SV N.T)) (vs:List Value) (L:List (Nat×SV N.T)) (tm:Array Value),vs.length=ss.length->ss.length=ts.length->(∀t∈ts,t<tm.size)->(∀(i:Nat) (s:SV N.T),ss[i]?=some s->∃v,vs[i]?=some v/\s.is C η H v)->
  (∀t sv,An L t=some sv->sv.is C η H (tm.getD t undef))->((ts.zip vs).foldl (fun tm (p:Tmp×Value)=>tm.setIfInBounds p.1 p.2) tm).size=tm.size/\∀t sv,An (Pl ts ss L) t=some sv->sv.is C η H (((ts.zip vs).foldl (fun tm (p:Tmp×Value)=>tm.setIfInBounds p.1 p.2) tm).getD t undef)
 | [],[],[],L,tm,_,_,_,_,h=>⟨rfl,h⟩
 | [],_::_,_,_,_,_,h,_,_,_=>by cases h
 |_::_,[],_,_,_,_,h,_,_,_=>by cases h
 |_,_::_,[],_,_,h,_,_,_,_=>by cases h
 | [],[],_::_,_,_,h,_,_,_,_=>by cases h
 |t::ts,s::ss,v::vs,L,tm,h1,h2,h3,h4,h5=>by
  have ht:=h3 t (by simp)
  have:=Ur ts ss vs ((t,s)::L) (tm.setIfInBounds t v) (by simpa using h1) (by simpa using h2) (fun u hu=>by simpa using h3 u (by simp[hu])) (fun i s hi=>h4 (i+1) s (by simpa using hi)) fun u sv hu=>by
   simp only[An]at hu
   cases hb:Nat.beq t u with
   |true=>
    rw[hb]at hu;cases hu
    have:=Nat.eq_of_beq_eq_true hb;subst this
    obtain⟨v',e,hv⟩:=h4 0 s rfl
    cases e
    simpa [ht]using hv
   |false=>
    rw[hb]at hu
    have ne:=Nat.ne_of_beq_eq_false hb
    have h6:=h5 u sv hu
    simp only[Array.getD_eq_getD_getElem?]at h6⊢
    rw[Array.getElem?_setIfInBounds_ne ne];exact h6
  exact⟨by simpa using this.1,this.2⟩
theorem LQ:∀(ts:List Ty) (y:A3 N ts),∀s∈Kw ts y,DO s=true/\NU s=true
 | [],_,s,h=>by simp[Kw]at h
 | [t],y,s,h=>by simp[Kw]at h;subst h;exact⟨rfl,rfl⟩
 |t::u::ts,y,s,h=>by
  simp only[Kw,List.mem_cons]at h
  rcases h with rfl|h
  ·exact⟨rf,rf⟩
  ·exact LQ (u::ts) y.2 s h
theorem QE{τ:Nat->Nat}{Rr:Nat->Option (SR N.T)} :∀(ts:List Tmp) (ss:List (SV N.T)) (L:List (Nat×SV N.T)),(∀s∈ss,DO s=true/\NU s=true)->KP Rr (Bx C L) τ->KP Rr (Bx C (Pl ts ss L)) τ
 | [],_,_,_,h=>h
 |_::_,[],_,_,h=>h
 |t::ts,s::ss,L,hs,h=>by
  refine QE ts ss ((t,s)::L) (fun z hz=>hs z (by simp[hz])) fun q=>?_
  have h2:=h q
  unfold Bx at h2⊢
  simp only[An]
  cases hb:Nat.beq t q with
  |true=>
   simp only
   obtain⟨h3,h4⟩:=hs s (by simp)
   have:res C s=s:=by cases s<;>first|rfl|cases h4
   rw[this];exact CT h3
  |false=>exact h2
theorem X3{q:IQ N}{m:List (Nat×Nat)}{x:Bu N q.pi.hs}{A:Nat->SV N.T}{vs:List Value}{tm:Array Value}(hx:Hv C (Ai CR st.O) A m q.pi=some x)(ho:mG q=true)(len:vs.length=q.pi.sl.length)(hv:∀p∈q.pi.sl,∃v,vs[p.1]?=some v/\(A p.1).is C η H v)
  (h:Sa C CR n bs st η H tm Y) (hw:WF C CR bs st):
  (q.pi.ro.map fun p=>AJ m p.1).Nodup/\(∀p∈q.pi.ro,AJ m p.1<st.nk)/\(∀p∈q.pi.sl,∃v,vs[p.1]?=some v/\(inst N q.pi.hs x p.2).is [] (fun c=>η (AJ m c)) H v)/\WF C CR bs (N3 (q.pi.ro.map fun p=>AJ m p.1) st)/\
  ∃Yc Yr:List (Nat×Ao),keys Yc=q.pi.ro.map (·.1)/\(∀p∈q.pi.ro,∃X,An Yc p.1=some X/\(instR N q.pi.hs x p.2).is [] (fun c=>η (AJ m c)) H p.1 X)/\Sa C CR n bs (N3 (q.pi.ro.map fun p=>AJ m p.1) st) η H tm Yr/\∀w O,SH w H (Y.map (·.2)++O)->SH w H (Yc.map (·.2)++(Yr.map (·.2)++O)):=by
 obtain⟨hnd,hsl,hro⟩:=Jv (C:=C) (η:=η) (H:=H) (Y:=Y) (vs:=vs) (A:=A) hx len hv (fun p hp sr hsr=>h.res _ sr hsr)
 generalize hks:(q.pi.ro.map fun p=>AJ m p.1)=ks at hnd
 have rr:∀k∈ks,∃sr,Ai CR st.O k=some sr:=fun k hk=>by
  rw[<-hks]at hk
  obtain⟨p,hp,rfl⟩:=List.mem_map.1 hk
  exact(hro p hp).1
 have ltk:∀k∈ks,k<st.nk:=fun k hk=>by
  obtain⟨sr,hsr⟩:=rr k hk
  refine Nat.lt_of_not_le fun hle=>?_
  have:=hw.ok k hle
  unfold Ai at hsr
  rw[this]at hsr;cases hsr
 have hkk:keys (ks.map fun k=>(k,(SR.gone:SR N.T)))=ks:=by unfold keys;rw[List.map_map];exact List.map_id _
 refine⟨hnd,fun p hp=>ltk _ (by rw[<-hks];exact List.mem_map.2 ⟨p,hp,rf⟩),hsl,hw.Qn (n:=n) ⟨?_,Nat.le_refl _,fun j hj hnone=>?_,fun _ _=>trivial⟩,q.pi.ro.map (fun p=>(p.1,(An Y (AJ m p.1)).getD .emp)),Y.filter (fun p=> !Bw ks p.1),?_,fun p hp=>?_,⟨h.inv,h.size,fun t sv ht=>?_,h.base,(List.filter_sublist.map _).nodup h.nd,fun k hk=>?_,fun k sr hk=>?_⟩,fun w O hsh=>?_⟩
 ·unfold Fo
  simp only[La,NU,Bool.and_self,Bool.true_and,Bool.and_eq_true,Nat.beq_refl,and_true]
  refine List.all_eq_true.2 fun p hp=>?_
  obtain⟨k,hk,rfl⟩:=List.mem_map.1 hp
  obtain⟨sr,hsr⟩:=rr k hk
  simp[Lr,du,hsr]
 ·rw[hkk]at hj
  obtain⟨sr,hsr⟩:=rr j hj
  rw[hsr]at hnone;cases hnone
 ·unfold keys;rw[List.map_map];rfl
 ·obtain⟨_,X,hX,h2⟩:=hro p hp
  refine⟨X,?_,h2⟩
  unfold mG at ho
  simp only[Bool.and_eq_true]at ho
  have nd:(keys (q.pi.ro.map (fun p=>(p.1,(An Y (AJ m p.1)).getD .emp)))).Nodup:=by
   unfold keys;rw[List.map_map];exact Ba ho.2.1
  rw[Cc nd (List.mem_map.2 ⟨p,hp,rfl⟩),hX];rfl
 ·have ht:An (W4 (keys (ks.map fun k=>(k,(SR.gone:SR N.T)))) st.L) t=some sv:=ht
  rw[MV]at ht
  obtain⟨z,hz,rfl⟩:=Option.map_eq_some_iff.1 ht
  exact MW (h.A6 t z hz)
 ·obtain⟨p,hp,rfl⟩:=List.mem_map.1 hk
  exact h.lt _ (List.mem_map.2 ⟨p,(List.mem_filter.1 hp).1,rf⟩)
 ·have hk:Ai CR ((ks.map fun k=>(k,(SR.gone:SR N.T)))++st.O) k=some sr:=hk
  rw[Fq _ _ (fun p hp=>by obtain⟨k,_,rfl⟩:=List.mem_map.1 hp;rfl)]at hk
  unfold Mn at hk
  split at hk
  ·rename_i s hs
   cases hk
   obtain⟨k',_,e⟩:=List.mem_map.1 (AQ hs)
   cases e
   exact .inl rf
  ·rename_i hs
   have hn:k∉ks:=fun hm=>by
    obtain⟨z,hz⟩:=CI (show k∈keys (ks.map fun k=>(k,(SR.gone:SR N.T))) by rw[hkk];exact hm)
    rw[hz]at hs;cases hs
   exact(h.res k sr hk).imp id fun⟨z,g1,g2⟩=>⟨z,by rw[Jn hn];exact g1,g2⟩
 ·have hz:=SH.O3 hsh (Z:=(q.pi.ro.map fun p=>(AJ m p.1,(An Y (AJ m p.1)).getD .emp))++Y.filter fun p=> !Bw ks p.1) (by
   unfold keys
   rw[List.map_append,List.map_map]
   refine List.nodup_append.2 ⟨by show(q.pi.ro.map fun p=>AJ m p.1).Nodup;rw[hks];exact hnd,(List.filter_sublist.map _).nodup h.nd,fun k hk k' hk' e=>?_⟩
   subst e
   obtain⟨p,hp,rfl⟩:=List.mem_map.1 hk'
   have h3:=(List.mem_filter.1 hp).2
   have hk:p.1∈q.pi.ro.map fun p=>AJ m p.1:=hk
   rw[hks]at hk
   rw[AB.2 hk]at h3;cases h3) (fun p hp=>by
   rcases List.mem_append.1 hp with hp|hp
   ·obtain⟨z,hz,rfl⟩:=List.mem_map.1 hp
    obtain⟨_,X,hX,_⟩:=hro z hz
    simp only[hX,Option.getD_some]
   ·exact Cc h.nd (List.mem_filter.1 hp).1)
  rw[List.map_append,List.map_map,List.append_assoc]at hz
  rw[List.map_map]
  exact hz
theorem Sf{ρ:Nat->Nat}(s:SR N.T):Lr (s.CO ρ)=true:=by cases s<;>rfl
theorem Ys{q:IQ N}{m:List (Nat×Nat)}{x:Bu N q.pi.hs}{tm:Array Value}{nk:Nat}{η':Nat->Value}{H':Hp}{Yc:List (Nat×Ao)}(ho:mG q=true)(hnd:(q.pi.ro.map fun p=>AJ m p.1).Nodup)(hlt:∀p∈q.pi.ro,AJ m p.1<nk)(hle:nk<=st.nk)(hη:∀k,k<nk->η' k=η k)
  (hc:∀t sv,An st.L t=some sv->∃j,sv= .BO j) (hk:keys Yc=q.pi.ro.map (·.1)) (hr:∀p∈q.pi.ro,∃X,An Yc p.1=some X/\(instR N q.pi.hs x p.2).is [] (fun c=>η (AJ m c)) H' p.1 X) (h:Sa C CR n bs st η' H' tm Y) (hw:WF C CR bs st):
  WF C CR bs (RC q x m st)/\∃Y',Sa C CR n bs (RC q x m st) η' H' tm Y'/\∀w O,SH w H' (Yc.map (·.2)++(Y.map (·.2)++O))->SH w H' (Y'.map (·.2)++O):=by
 unfold mG at ho
 simp only[Bool.and_eq_true]at ho
 obtain⟨o1,o2,o3⟩:=ho
 have o2:=Ba o2
 generalize hks:(q.pi.ro.map fun p=>AJ m p.1)=ks at hnd
 have hkwr:keys (q.pi.ro.map fun p=>(AJ m p.1,(instR N q.pi.hs x p.2).CO (AJ m)))=ks:=by unfold keys;rw[List.map_map,<-hks];rfl
 have ltk:∀k∈ks,k<nk:=fun k hk=>by
  rw[<-hks]at hk
  obtain⟨p,hp,rfl⟩:=List.mem_map.1 hk
  exact hlt p hp
 have inj:∀c∈q.pi.ro.map (·.1),∀d∈q.pi.ro.map (·.1),AJ m c=AJ m d->c=d:=fun c hc d hd e=>by
  obtain⟨p,hp,rfl⟩:=List.mem_map.1 hc
  obtain⟨p',hp',rfl⟩:=List.mem_map.1 hd
  rw[MB (f:=fun p:Nat×RP=>AJ m p.1) (by rw[hks];exact hnd) hp hp' e]
 have kren:keys (Yc.map fun p=>(AJ m p.1,p.2))=ks:=by
  unfold keys at hk⊢
  rw[List.map_map]
  have e:(Yc.map ((·.1)∘fun p=>(AJ m p.1,p.2)))=(Yc.map (·.1)).map (AJ m):=by rw[List.map_map];rfl
  rw[e,hk,List.map_map,<-hks];rfl
 refine⟨⟨hw.lo,fun j hj=>?_,?_,hw.mC,hw.cP⟩,(Yc.map fun p=>(AJ m p.1,p.2))++Y.filter (fun p=> !Bw ks p.1),⟨h.inv,h.size,h.A6,h.base,?_,fun k hkk=>?_,fun k sr hk'=>?_⟩,fun w O hsh=>?_⟩
 ·have hj:st.nk<=j:=hj
  show An ((q.pi.ro.map fun p=>(AJ m p.1,(instR N q.pi.hs x p.2).CO (AJ m)))++st.O) j=none
  rw[Bq,hw.ok j hj,BV fun hm=>?_]
  rw[hkwr]at hm
  have:=ltk j hm
  omega
 ·obtain⟨τ,hτ⟩:=hw.wf
  exact⟨τ,VK hc hw.cP hτ⟩
 ·unfold keys at kren⊢
  rw[List.map_append,kren]
  refine List.nodup_append.2 ⟨hnd,(List.filter_sublist.map _).nodup h.nd,fun k hk k' hk' e=>?_⟩
  subst e
  obtain⟨p,hp,rfl⟩:=List.mem_map.1 hk'
  have h3:=(List.mem_filter.1 hp).2
  rw[AB.2 hk]at h3;cases h3
 ·show k<st.nk
  unfold keys at hkk kren
  rw[List.map_append,kren]at hkk
  rcases List.mem_append.1 hkk with hkk|hkk
  ·exact Nat.lt_of_lt_of_le (ltk k hkk) hle
  ·obtain⟨p,hp,rfl⟩:=List.mem_map.1 hkk
   exact h.lt _ (List.mem_map.2 ⟨p,(List.mem_filter.1 hp).1,rf⟩)
 ·have hk':Ai CR ((q.pi.ro.map fun p=>(AJ m p.1,(instR N q.pi.hs x p.2).CO (AJ m)))++st.O) k=some sr:=hk'
  rw[Fq _ _ (fun p hp=>by obtain⟨z,_,rfl⟩:=List.mem_map.1 hp;exact E0 (Sf _))]at hk'
  unfold Mn at hk'
  split at hk'
  ·rename_i s hs
   cases hk'
   obtain⟨p,hp,e⟩:=List.mem_map.1 (AQ hs)
   cases e
   obtain⟨X,x1,x2⟩:=hr p hp
   have hpk:p.1∈q.pi.ro.map (·.1):=List.mem_map.2 ⟨p,hp,rfl⟩
   refine .inr ⟨X,?_,SR.J1 (hη _ (hlt p hp)) (fun j hj=>?_) x2⟩
   ·rw[Bq,QR (fun d hd e=>inj d (by rw[<-hk];exact hd) p.1 hpk e),x1]
   ·have hj:=instR_ment _ _ _ _ hj
    have:=AB.1 (List.all_eq_true.1 (List.all_eq_true.1 o3 p hp) j hj)
    obtain⟨p',hp',rfl⟩:=List.mem_map.1 this
    exact hη _ (hlt p' hp')
  ·rename_i hs
   have hn:k∉ks:=fun hm=>by
    obtain⟨z,hz⟩:=CI (show k∈keys (q.pi.ro.map fun p=>(AJ m p.1,(instR N q.pi.hs x p.2).CO (AJ m))) by rw[hkwr];exact hm)
    rw[hz]at hs;cases hs
   refine(h.res k sr hk').imp id fun⟨z,g1,g2⟩=>⟨z,?_,g2⟩
   rw[Bq,BV (by rw[kren];exact hn),Jn hn];exact g1
 ·have hsh':SH w H' (((Yc.map fun p=>(AJ m p.1,p.2))++Y).map (·.2)++O):=by
   rw[List.map_append,List.map_map,List.append_assoc];exact hsh
  refine SH.O3 hsh' ?_ fun p hp=>?_
  ·unfold keys at kren⊢
   rw[List.map_append,kren]
   refine List.nodup_append.2 ⟨hnd,(List.filter_sublist.map _).nodup h.nd,fun k hk k' hk' e=>?_⟩
   subst e
   obtain⟨p,hp,rfl⟩:=List.mem_map.1 hk'
   have h3:=(List.mem_filter.1 hp).2
   rw[AB.2 hk]at h3;cases h3
  ·rw[Bq]
   rcases List.mem_append.1 hp with hp|hp
   ·rw[Cc (by rw[kren];exact hnd) hp]
   ·have h3:=(List.mem_filter.1 hp).2
    have hn:p.1∉ks:=fun hm=>by rw[AB.2 hm]at h3;cases h3
    rw[BV (by rw[kren];exact hn)]
    exact Cc h.nd (List.mem_filter.1 hp).1
end
end Go.GV
namespace Go.GV
open Go Go.GK
theorem SH.R_{w:World}{H:Hp}{A B D O:List Ao}(h:SH w H (A++(B++(D++O)))):SH w H (D++(B++(A++O))):=by
 have h1:SH w H ((B++D)++(A++O)):=SH.nB (by rw[List.append_assoc];exact h)
 rw[List.append_assoc]at h1
 exact SH.nB h1
theorem SH.bg{w:World}{H:Hp}{A B D O:List Ao}(h:SH w H (A++(B++(D++O)))):SH w H (A++(D++(B++O))):=SH.nB (SH.R_ (SH.nB h))
theorem SH.Qy{w:World}{H:Hp}{A O:List Ao}{b:Nat}{o:Obj}(h:SH w H (A++ .Af b o::O))(o':Obj):SH (w.putObj b o') H (A++ .Af b o'::O):=by
 have hi:(A++ .Af b o::O)[A.length]?=some (.Af b o):=by simp
 have hb:w.heap[b]?=some o:=h.ok _ _ hi
 have hlt:b<w.heap.size:=(Array.getElem?_eq_some_iff.1 hb).1
 have h1:=h.set hi (r':= .Af b o') (Hc w b o') (World.putObj_heap_same hlt) (fun c hc=> .inl hc)
 have e:(A++ .Af b o::O).set A.length (.Af b o')=A++ .Af b o'::O:=by
  rw[List.set_append_right _ _ (Nat.le_refl _),Nat.sub_self,List.set_cons_zero]
 rw[e]at h1
 exact h1
theorem SH.at_{w:World}{H:Hp}{A O:List Ao}{b:Nat}{o:Obj}(h:SH w H (A++ .Af b o::O)):w.heap[b]?=some o:=h.ok A.length (.Af b o) (by simp)
section
variable {N : Cw} {R : Type}
def GX(X:List Ao)(ds:List Deferred)(G:Hp->Fm->R->Prop):Hp->Fm->R->Prop:=fun H Of r=> ∃Of2,Of=⟨X++Of2.O,[]⟩/\G H Of2 r/\Of2.ds=ds
variable {C : List (SV N.T)} {CR : List (SR N.T)} {n : Nat} {Of : Fm} {bs : List (Nat × Value)} {st : St N.T} {η : Nat -> Value} {H : Hp} {a : Act} {w : World} {Y : List (Nat × Ao)} {P : Program} [Bn N P] {G : Hp -> Fm -> R -> Prop} {yl : YL N R} {yv : Value}
theorem L3.frame{bs':List (Nat×Value)}{X:List Ao}{ds:List Deferred}(hY:L3 P bs yl yv G)(hm:∀p∈bs,p∈bs'):L3 P bs' yl yv (GX X ds G):=by
 have _m:=(inferInstance:Bn N P)
 refine⟨fun C As k r h=>hm _ (hY.mem C As k r h),fun C As k r Of H gi ⟨Of2,e,g,gd⟩ hf η A vs w h1 h2 h3=>?_⟩
 subst e
 have h3:SH w H ((A++X)++Of2.O):=by rw[List.append_assoc];exact h3
 refine(hY.ok C As k r Of2 H gi g hf η (A++X) vs w h1 h2 h3).mono fun b w' ⟨H',Of',r',k1,k2,k3,k4,k5⟩=>⟨H',⟨X++Of'.O,[]⟩,r',k1,rf,by rw[List.append_assoc]at k3;exact k3,⟨Of',rf,k4,k2.trans gd⟩,k5⟩
def pR(P:Program)(n:Nat)(yl:YL N R)(yv:Value)(c:Code)(d:WX N R):Prop:= ∀(l:Nat) {C:List (SV N.T)} {CR:List (SR N.T)} {kb:Nat} {bs:List (Nat×Value)} {G:Hp->Fm->R->Prop} {Of:Fm} {r:R} {st:St N.T} {kn:St N.T->Option R} {ke:Nat->St N.T->Option R} {kr:St N.T->Option R} {η:Nat->Value} {H:Hp} {a:Act} {w:World} {Q:Exit->Act->World->Prop},(∀q∈bs,q.1<kb)->(∀H H' Of r,H.le H'->G H Of r->G H' Of r)->L3 P bs yl yv G->G H Of r->Sat C CR n Of bs st η H a w->WF C CR bs st->d kb C CR st kn ke kr=some r->Kn C CR n G bs H kn (Q .normal)->(∀i,Kn C CR n G bs H (ke i) (Q (.exit i)))->Kn C CR n G bs H kr (Q .ret)->c.wpIn (FR (some l)) 0 P Q a w
theorem dj{nk:Nat}(hw:WF C CR (Et η nk) st):nk<=st.nk:=by
 cases nk with
 |zero=>exact Nat.zero_le _
 |succ k=>exact hw.lo _ (KN (Nat.lt_succ_self k))
theorem M4{η' η1:Nat->Value}{H' H1:Hp}{tm:Array Value}{L:List (Nat×SV N.T)}{O0:List (Nat×SR N.T)}{nk0 nk:Nat}{st1:St N.T}{O:List Ao}{a1:Act}(hc:∀t sv,An L t=some sv->∃j,sv= .BO j)(hm:∀k∈Co C,k<nk)(hle:H'.le H1)
  (s:Sa C CR n (Et η nk) ⟨L,O0,nk0⟩ η' H' tm Y) (hw:WF C CR (Et η nk) ⟨L,O0,nk0⟩) (h1:Sat C CR n ⟨O,[]⟩ (Et η nk) st1 η1 H1 a1 w) (hw1:WF C CR (Et η nk) st1):
  WF C CR (Et η nk) ⟨L,st1.O,st1.nk⟩/\∃Y1,Sa C CR n (Et η nk) ⟨L,st1.O,st1.nk⟩ η1 H1 tm Y1/\SH w H1 (Y1.map (·.2)++O):=by
 obtain⟨Y1,s1,g1⟩:=h1.sa
 obtain⟨τ,hτ⟩:=hw.wf
 refine⟨⟨hw1.lo,hw1.ok,⟨τ,VK hc hw.cP hτ⟩,hw1.mC,hw1.cP⟩,Y1,⟨s1.inv,s.size,?_,s1.base,s1.nd,s1.lt,s1.res⟩,g1⟩
 exact SU hc (fun k hk=>(Jy s1.base (hm k hk)).trans (Jy s.base (hm k hk)).symm) hle s.A6
theorem Xs{q:IQ N}{f:Nat}{l:SV N.T}{cs:List Nat}{asg body:Code}{da db:WX N R}{ps:Array Tmp}{g:Operand}{pp:Option AY}{kn:St N.T->Option R}{ke:Nat->St N.T->Option R}{kr:St N.T->Option R}{r:R}{Q:Exit->Act->World->Prop}(hsp:G3 P f q)(hda:pR P n yl yv asg da)(hdb:pR P n yl yv body db)
  (hG:∀H H' Of r,H.le H'->G H Of r->G H' Of r) (hpush:∀H Of r D,G H Of r->G H (IB D Of) r) (hY:L3 P bs yl yv G) (hg:G H Of r) (h:Sat C CR n Of bs st η H a w) (hw:WF C CR bs st) {us:List Value} (he:a.eval g= .func (.func f) us.toArray (cs.map η).toArray) (hl:l.is C η H (.tuple us.toArray)) (hb:mL l=true)
  (hcs:∀c∈cs,∃g b,Ai CR st.O c=some (.Af g b)) (hd:eE C CR n ps pp st q l cs da db kn ke kr=some (some r)) (hn:Kn C CR n G bs H kn (Q .normal)) (hke:∀i,Kn C CR n G bs H (ke i) (Q (.exit i))) (hkr:Kn C CR n G bs H kr (Q .ret)):(Code.rangeFunc g ps asg body).wp P Q a w:=by
 unfold eE at hd
 split at hd
 ·cases hd
 rename_i hck
 simp only[Bool.and_eq_true]at hck
 obtain⟨⟨ck1,ck2⟩,ck3,ck4⟩:=hck
 split at hd
 ·cases hd
 rename_i x hx
 replace hd:=Option.some.inj hd
 generalize hm:Fv C (Ai CR st.O) (fun i=>(Em l cs).getD i .no) q.pi=m at hx hd
 split at hd
 ·cases hd
 rename_i p
 split at hd
 ·cases hd
 rename_i z hz
 split at hd
 ·cases hd
 rename_i hck2
 simp only[Bool.and_eq_true]at hck2
 obtain⟨⟨cz1,cz2⟩,cz3,cz4⟩:=hck2
 obtain⟨ys,hys,hd⟩:=A9 hd
 obtain⟨x0,hx0,hd⟩:=A9 hd
 obtain⟨g1,g2⟩:=KC hb hl
 obtain⟨Y,sa,hsh⟩:=h.sa
 refine RR (us:=us) (caps:=cs.map η) he hsp.Oj fun fn=>?_
 generalize hD:w.heap.size=D
 generalize hrec:A4 fn a.tmps ps asg body D=rec0
 have hlen:(us++[Value.func (.yield (D+1)) #[] #[]]++cs.map η).length=q.pi.sl.length:=by
  rw[<-Nat.eq_of_beq_eq_true ck1];simp[Em,g1]
 have hargs:∀(i:Nat) (s:SV N.T),(Em l cs)[i]?=some s->∃v,(us++[Value.func (.yield (D+1)) #[] #[]]++cs.map η)[i]?=some v/\s.is C η H v:=fun i s hi=>by
  unfold Em at hi
  rw[List.append_assoc]at hi⊢
  by_cases c1':i<(LU l).length
  · rw[List.getElem?_append_left c1']at hi
    rw[List.getElem?_append_left (by omega)]
    exact g2 i s hi
  · rw[List.getElem?_append_right (by omega)]at hi
    rw[List.getElem?_append_right (by omega),g1]
    generalize hj:i-(LU l).length=j at hi⊢
    cases j with
    |zero=>
     simp at hi
     subst hi
     exact⟨_,rf,trivial⟩
    |succ j=>
     simp only[List.cons_append,List.nil_append,List.getElem?_cons_succ,List.getElem?_map]at hi⊢
     obtain⟨c,hc,rfl⟩:=Option.map_eq_some_iff.1 hi
     have hcm:=List.mem_of_getElem? hc
     obtain⟨g',b,hR⟩:=hcs c hcm
     refine⟨η c,by rw[hc];rfl,?_⟩
     rcases sa.res c _ hR with e|⟨X,_,B,_,b1,_⟩
     ·cases e
     ·exact⟨B,b1,b1⟩
 have hsl:∀p∈q.pi.sl,∃v,(us++[Value.func (.yield (D+1)) #[] #[]]++cs.map η)[p.1]?=some v/\((Em l cs).getD p.1 .no).is C η H v:=fun p hp=>by
  have hlt:p.1<(Em l cs).length:=by simpa using List.all_eq_true.1 ck2 p hp
  obtain⟨v,e1,e2⟩:=hargs p.1 (Em l cs)[p.1] (List.getElem?_eq_getElem hlt)
  refine⟨v,e1,?_⟩
  rw[List.getD_eq_getElem?_getD,List.getElem?_eq_getElem hlt];exact e2
 obtain⟨l1,l2,l3,l4,Yc,Yr,l5,l6,l7,l8⟩:=X3 (A:=fun i=>(Em l cs).getD i .no) hx ck3 hlen hsl sa hw
 generalize hks:(q.pi.ro.map fun p=>AJ m p.1)=ks at l1 l4 l7 hz
 have hw1:SH ((w.alloc (.deferred (some []))).alloc (.loop rec0)) H (.Af (D+1) (.loop rec0)::Bh D::(Y.map (·.2)++Of.O)):=by
  have:=(hsh.alloc (.deferred (some []))).alloc (.loop rec0)
  rw[<-hD]
  simpa using this
 generalize hW1:(w.alloc (.deferred (some []))).alloc (.loop rec0)=w1 at hw1
 have hw2:SH w1 H (Yr.map (·.2)++(([.Af (D+1) (.loop rec0),Bh D]:List Ao)++(Yc.map (·.2)++Of.O))):=SH.bg (B:=Yc.map (·.2)) (SH.nB (l8 w1 _ (SH.two hw1)))
 have l7':Sa C CR n (Et η st.nk) (N3 ks st) η H a.tmps Yr:=⟨l7.inv,l7.size,l7.A6,fun p hp=>(Gi hp).2.symm,l7.nd,l7.lt,l7.res⟩
 have l4':WF C CR (Et η st.nk) (N3 ks st):=⟨fun p hp=>(Gi hp).1,l4.ok,l4.wf,l4.mC,l4.cP⟩
 obtain⟨c1,c2,c3,c4,c5⟩:=PC (l7'.sat (ds:=[]) hw2) l4' hz
 obtain⟨η0,e1,e2⟩:=Kv c4 c5 (fun p hp=>(Gi hp).1) hx0
 obtain⟨Y0,s0,hsh0⟩:=e1.sa
 have hnkz:=Nat.eq_of_beq_eq_true cz2
 have hmz:∀k∈Co z.C,k<st.nk:=fun k hk=>by rw[<-hnkz];exact c5.mC k hk
 have hcst:∀x':Bu N (E9 p z).hs,∀t sv,An (Ep N (E9 p z) x').L t=some sv->∃j,sv= .BO j:=fun x'=>YC (show(E9 p z).sl.all si=true from cz1)
 let G2:Hp->List Ao->List (A3 N q.ts)×Bool->Prop:=fun H' O ys'=>H.le H'/\∃Of' r',G H' Of' r'/\Of'.ds=Of.ds/\
  (
   (∃x' η' Y2,O= .Af (D+1) (.loop rec0)::Bh D::(Y2.map (·.2)++Of'.O)/\Sa z.C z.CR n (Et η st.nk) (Ep N (E9 p z) x') η' H' a.tmps Y2/\WF z.C z.CR (Et η st.nk) (Ep N (E9 p z) x')/\E_ (Ua C CR st.nk ps q x m p z da db ke kr) (fun x'=>Ma ys'.2 (kn (C_ z.C z.CR C.length CR.length (RC q x m (Ep N (E9 p z) x'))))) ys'.1 x'=some r')\/
   (
    ys'=([],true)/\∃c s η' Y2,O= .Af (D+1) (.loop {rec0 with state:= .done,pending:=some c})::Bh D::(Y2.map (·.2)++Of'.O)/\(∀t sv,An s.L t=some sv->∃j,sv= .BO j)/\Sa z.C z.CR n (Et η st.nk) s η' H' a.tmps Y2/\WF z.C z.CR (Et η st.nk) s/\
    ((c= .ret/\kr (C_ z.C z.CR C.length CR.length (RC q x m s))=some r')\/∃i,c= .exit i/\ke i (C_ z.C z.CR C.length CR.length (RC q x m s))=some r')))
 have mono2:∀H1 H2 O r,H1.le H2->G2 H1 O r->G2 H2 O r:=fun H1 H2 O r' hle ⟨k0,Of',r1,k1,k2,k3⟩=>by
  refine⟨k0.trans hle,Of',r1,hG _ _ _ _ hle k1,k2,?_⟩
  rcases k3 with⟨x',η',Y2,q1,q2,q3,q4⟩|⟨q0,c,s,η',Y2,q1,q2,q3,q4,q5⟩
  · exact .inl ⟨x',η',Y2,q1,q2.mono hle,q3,q4⟩
  · exact .inr ⟨q0,c,s,η',Y2,q1,q2,q3.mono hle,q4,q5⟩
 have no2:∀H1 O,¬G2 H1 O ([],false):=fun H1 O ⟨_,_,_,_,_,k3⟩=>by
  rcases k3 with⟨_,_,_,_,_,_,e⟩|⟨e,_⟩
  · cases e
  · cases e
 have yld2:∀H1 O y r ce,N.inv H1->G2 H1 O (y::r,ce)->∀A vs w,Ja H1 q.ts y vs->SH w H1 (A++O)->GZ P (.func (.yield (D+1)) #[] #[]) vs w fun b w'=> ∃H' O',H1.le H'/\SH w' H' (A++O')/\G2 H' O' (Is (r,ce) b):=fun H1 O y rest ce _ ⟨k0,Of',r',k1,k2,k3⟩ A vs w' hArg hSH=>by
  rcases k3 with⟨x',η',Y2,rfl,s1,f1,hcons⟩|⟨e,_⟩
  case inr=>cases e
  have hcons:Ua C CR st.nk ps q x m p z da db ke kr y x' (E_ (Ua C CR st.nk ps q x m p z da db ke kr) (fun x'=>Ma ce (kn (C_ z.C z.CR C.length CR.length (RC q x m (Ep N (E9 p z) x'))))) rest)=some r':=hcons
  unfold Ua at hcons
  obtain⟨p1,p2,p3⟩:=PM (C:=z.C) (η:=η') q.ts y vs hArg
  have hps:ps.size=q.ts.length:=Nat.eq_of_beq_eq_true cz3
  obtain⟨q1,q2⟩:=Ur (C:=z.C) ps.toList (Kw q.ts y) vs (Ep N (E9 p z) x').L a.tmps p1 (by rw[p2,<-hps];simp) (fun t ht=>by rw[h.size];simpa using List.all_eq_true.1 cz4 t ht) p3 s1.A6
  have hhp:w'.heap[D+1]?=some (.loop rec0):=SH.at_ hSH
  have hrp:rec0.params=ps:=by rw[<-hrec]
  have hrt:rec0.tmps=a.tmps:=by rw[<-hrec]
  have hra:rec0.assign=asg:=by rw[<-hrec]
  have hrb:rec0.body=body:=by rw[<-hrec]
  have hrs:rec0.state= .ready:=by rw[<-hrec]
  have hrn:rec0.pending=none:=by rw[<-hrec]
  have hry:=run_yield (P:=P) (args:=vs.toArray) hhp (by rw[hrp];simp[p1,p2,hps])
  rw[hrp,hrt,hra,hrb,<-Array.foldl_toList,Array.toList_zip]at hry
  refine⟨D+1,rec0.fn,_,asg,body,rf,hry,?_⟩
  generalize htm:(ps.toList.zip vs.toArray.toList).foldl (fun tm (p:Tmp×Value)=>tm.setIfInBounds p.1 p.2) a.tmps=tm' at*
  have q1':tm'.size=n:=q1.trans h.size
  have q2':∀t sv,An (Pl ps.toList (Kw q.ts y) (Ep N (E9 p z) x').L) t=some sv->sv.is z.C η' H1 (tm'.getD t undef):=q2
  have hX:SH w' H1 (Y2.map (·.2)++((.Af (D+1) (.loop rec0)::Bh D::A)++Of'.O)):=SH.R_ (A:=A) (B:=[.Af (D+1) (.loop rec0),Bh D]) (D:=Y2.map (·.2)) (O:=Of'.O) hSH
  have hYm:∀p∈bs,p∈Et η st.nk:=fun p hp=>by
    have e:=h.base p hp
    obtain⟨k,v⟩:=p
    have e:η k=v:=e
    rw[<-e];exact KN (hw.lo _ hp)
  have gm:∀X:List Ao,∀H H' Of3 r,H.le H'->GX X Of.ds G H Of3 r->GX X Of.ds G H' Of3 r:=fun X H H' Of3 r hle ⟨O2,e,g,gd⟩=>⟨O2,e,hG _ _ _ _ hle g,gd⟩
  refine roundIn_of_wpIn (F:=Fence.wide) trivial ?_
  refine hda (D+1) (G:=GX (.Af (D+1) (.loop rec0)::Bh D::A) Of.ds G) (r:=r') (a:=⟨tm',[]⟩) (st:=⟨Pl ps.toList (Kw q.ts y) (Ep N (E9 p z) x').L,(Ep N (E9 p z) x').O,(Ep N (E9 p z) x').nk⟩) (ke:=fun _ _=>none) (kr:=fun _=>none) (fun p hp=>(Gi hp).1) (gm _) (hY.frame hYm) ⟨Of',rfl,k1,k2⟩ (Sa.sat (st:=⟨Pl ps.toList (Kw q.ts y) (Ep N (E9 p z) x').L,(Ep N (E9 p z) x').O,(Ep N (E9 p z) x').nk⟩) (ds:=[]) ⟨s1.inv,q1',q2',s1.base,s1.nd,s1.lt,s1.res⟩ hX) (f1.EZ fun τ hτ=>QE _ _ _ (LQ _ _) hτ) hcons ?_ (fun i Of1 r1 st1 η1 H2 a1 w1 _ _ _ _ hd1=>by cases hd1) (fun Of1 r1 st1 η1 H2 a1 w1 _ _ _ _ hd1=>by cases hd1)
  intro Of1 r1 st1 η1 H2 a1 w1 hl1 ⟨Of2,e,g,gd⟩ h1 hw1 hd1
  subst e
  obtain⟨Y5,y1,y2,y3,y4⟩:=h1.own
  refine⟨_,run_beginRound (SH.at_ (A:=Y5.map (·.2)) y2) hrs,?_⟩
  refine hdb (D+1) (G:=GX (.Af (D+1) (.loop {rec0 with state:= .busy})::Bh D::A) Of.ds G) (r:=r1) (Of:=⟨(.Af (D+1) (.loop {rec0 with state:= .busy})::Bh D::A)++Of2.O,[]⟩) (fun p hp=>(Gi hp).1) (gm _) (hY.frame hYm) ⟨Of2,rf,g,gd⟩ ⟨h1.inv,h1.defers,h1.size,h1.A6,h1.base,Y5,y1,SH.Qy y2 _,y3,y4⟩ hw1 hd1 ?_ (fun i=>?_) ?_
  · intro Of3 r3 st3 η3 H3 a3 w3 hl3 ⟨Of4,e,g4,gd4⟩ h3 hw3 hd3
    subst e
    obtain⟨Y6,z1,z2,z3,z4⟩:=h3.own
    have hend:(Instr.endRound (D+1) none).run P w3= .ok (.bool true) (w3.putObj (D+1) (.loop rec0)):=by
     have:=run_endRound (P:=P) none (SH.at_ (A:=Y6.map (·.2)) z2)
     rw[<-hrec]at this⊢;exact this
    obtain⟨b1,Y7,b2,b3⟩:=M4 (w:=w3.putObj (D+1) (.loop rec0)) (O:=(.Af (D+1) (.loop rec0)::Bh D::A)++Of4.O) (hcst x') hmz (hl1.trans hl3) s1 f1 ⟨h3.inv,h3.defers,h3.size,h3.A6,h3.base,Y6,z1,SH.Qy z2 _,z3,z4⟩ hw3
    obtain⟨z',e3,e4⟩:=A9 hd3
    obtain⟨η4,e5,e6⟩:=Kv (b2.sat (ds:=[]) b3) b1 (fun p hp=>(Gi hp).1) e3
    obtain⟨Y8,s8,g8⟩:=e5.sa
    exact⟨_,_,hend,true,rf,H3,_,hl1.trans hl3,SH.R_ (B:=[.Af (D+1) (.loop rec0),Bh D]) g8,(k0.trans hl1).trans hl3,Of4,r3,g4,gd4, .inl ⟨z',η4,Y8,rf,s8,e6,e4⟩⟩
  · intro Of3 r3 st3 η3 H3 a3 w3 hl3 ⟨Of4,e,g4,gd4⟩ h3 hw3 hd3
    subst e
    obtain⟨Y6,z1,z2,z3,z4⟩:=h3.own
    have hend:(Instr.endRound (D+1) (some (.exit i))).run P w3= .ok (.bool false) (w3.putObj (D+1) (.loop {rec0 with state:= .done,pending:=some (.exit i)})):=by
     have:=run_endRound (P:=P) (some (.exit i)) (SH.at_ (A:=Y6.map (·.2)) z2)
     exact this
    obtain⟨b1,Y7,b2,b3⟩:=M4 (w:=w3.putObj (D+1) (.loop {rec0 with state:= .done,pending:=some (.exit i)})) (O:=(.Af (D+1) (.loop {rec0 with state:= .done,pending:=some (.exit i)})::Bh D::A)++Of4.O) (hcst x') hmz (hl1.trans hl3) s1 f1 ⟨h3.inv,h3.defers,h3.size,h3.A6,h3.base,Y6,z1,SH.Qy z2 _,z3,z4⟩ hw3
    exact⟨_,_,hend,false,rf,H3,_,hl1.trans hl3,SH.R_ (B:=[.Af (D+1) (.loop {rec0 with state:= .done,pending:=some (.exit i)}),Bh D]) b3,(k0.trans hl1).trans hl3,Of4,r3,g4,gd4, .inr ⟨rf, .exit i,⟨(Ep N (E9 p z) x').L,st3.O,st3.nk⟩,η3,Y7,rf,hcst x',b2,b1, .inr ⟨i,rf,hd3⟩⟩⟩
  · intro Of3 r3 st3 η3 H3 a3 w3 hl3 ⟨Of4,e,g4,gd4⟩ h3 hw3 hd3
    subst e
    obtain⟨Y6,z1,z2,z3,z4⟩:=h3.own
    have hend:(Instr.endRound (D+1) (some .ret)).run P w3= .ok (.bool false) (w3.putObj (D+1) (.loop {rec0 with state:= .done,pending:=some .ret})):=by
     have:=run_endRound (P:=P) (some .ret) (SH.at_ (A:=Y6.map (·.2)) z2)
     exact this
    obtain⟨b1,Y7,b2,b3⟩:=M4 (w:=w3.putObj (D+1) (.loop {rec0 with state:= .done,pending:=some .ret})) (O:=(.Af (D+1) (.loop {rec0 with state:= .done,pending:=some .ret})::Bh D::A)++Of4.O) (hcst x') hmz (hl1.trans hl3) s1 f1 ⟨h3.inv,h3.defers,h3.size,h3.A6,h3.base,Y6,z1,SH.Qy z2 _,z3,z4⟩ hw3
    exact⟨_,_,hend,false,rf,H3,_,hl1.trans hl3,SH.R_ (B:=[.Af (D+1) (.loop {rec0 with state:= .done,pending:=some .ret}),Bh D]) b3,(k0.trans hl1).trans hl3,Of4,r3,g4,gd4, .inr ⟨rf, .ret,⟨(Ep N (E9 p z) x').L,st3.O,st3.nk⟩,η3,Y7,rf,hcst x',b2,b1, .inl ⟨rf,hd3⟩⟩⟩
 have nd:(keys Yc).Nodup:=by
  rw[l5]
  have:=ck3
  unfold mG at this
  simp only[Bool.and_eq_true]at this
  exact Ba this.2.1
 have hyi:(us++[Value.func (.yield (D+1)) #[] #[]]++cs.map η)[q.yi]?=some (Value.func (.yield (D+1)) #[] #[]):=by
  rw[Nat.eq_of_beq_eq_true ck4,<-g1];simp
 refine(hsp.ok x ys hys G2 (.func (.yield (D+1)) #[] #[]) rf mono2 no2 yld2 (fun c=>η (AJ m c)) H (.Af (D+1) (.loop rec0)::Bh D::(Y0.map (·.2)++Of.O)) Yc _ w1 nd hlen l3 hyi l5 l6 ⟨Hp.le.refl H,Of,r,hg,rf, .inl ⟨x0,η0,Y0,rf,s0,e2,hd⟩⟩ h.inv (SH.R_ (B:=[.Af (D+1) (.loop rec0),Bh D]) hsh0)).mono ?_
 rintro e w' ⟨v,H1,O1,Y1,rfl,hle1,hsh1,hk1,hr1,k0,Of',r',k1,k2,k3⟩
 have endS:∀ {s:St N.T} {η':Nat->Value} {Y2:List (Nat×Ao)} {o:Obj} (o':Obj),(∀t sv,An s.L t=some sv->∃j,sv= .BO j)->Sa z.C z.CR n (Et η st.nk) s η' H1 a.tmps Y2->WF z.C z.CR (Et η st.nk) s->SH w' H1 (Y1.map (·.2)++ .Af (D+1) o::Bh D::(Y2.map (·.2)++Of'.O))->
    Sat C CR n (IB D Of') bs (C_ z.C z.CR C.length CR.length (RC q x m s)) η' H1 {a with defers:=Dz D::a.defers} (w'.putObj (D+1) o')/\WF C CR bs (C_ z.C z.CR C.length CR.length (RC q x m s)):=fun{s} {η'} {Y2} {o} o' hc s2 f2 hs=>by
  have hs:=SH.shut hs o'
  have hs:SH (w'.putObj (D+1) o') H1 (Y1.map (·.2)++(([Bh D]:List Ao)++(Y2.map (·.2)++Of'.O))):=hs
  have hs:=SH.bg hs
  obtain⟨u1,Y3,u2,u3⟩:=Ys (η:=η) (nk:=st.nk) ck3 (by rw[hks];exact l1) l2 (dj f2) (fun k hk=>Jy s2.base hk) hc hk1 hr1 s2 f2
  have hs:=u3 _ _ hs
  have u2':Sa z.C z.CR n bs (RC q x m s) η' H1 a.tmps Y3:=⟨u2.inv,u2.size,u2.A6,fun p hp=>(Jy s2.base (hw.lo p hp)).trans (h.base p hp),u2.nd,u2.lt,u2.res⟩
  have u1':WF z.C z.CR bs (RC q x m s):=⟨fun p hp=>Nat.lt_of_lt_of_le (hw.lo p hp) (show st.nk<=s.nk from dj f2),u1.ok,u1.wf,u1.mC,u1.cP⟩
  have hst:=u2'.sat (ds:=Dz D::a.defers) hs
  have hst:Sat z.C z.CR n (IB D Of') bs (RC q x m s) η' H1 {a with defers:=Dz D::a.defers} (w'.putObj (D+1) o'):=by
    have e:IB D Of'=⟨([Bh D]:List Ao)++Of'.O,Dz D::a.defers⟩:=by rw[h.defers,<-k2];rfl
    rw[e];exact hst
  exact T9 c1 c2 c3 hst u1'
 rcases k3 with⟨x',η',Y2,rfl,s1,f1,hcons⟩|⟨_,c,s,η',Y2,rfl,hc,s1,f1,hj⟩
 ·have hrs:rec0.state= .ready:=by rw[<-hrec]
  have hrn:rec0.pending=none:=by rw[<-hrec]
  refine⟨v,rec0,rf,SH.at_ hsh1,by rw[hrs];simp,?_⟩
  rw[hrn]
  obtain⟨t1,t2⟩:=endS (.loop {rec0 with state:= .exhausted,pending:=none}) (hcst x') s1 f1 hsh1
  exact hn _ r' _ η' H1 _ _ k0 (hpush _ _ _ _ k1) t1 t2 hcons
 ·refine⟨v,{rec0 with state:= .done,pending:=some c},rf,SH.at_ hsh1,by simp,?_⟩
  obtain⟨t1,t2⟩:=endS (.loop {rec0 with state:= .exhausted,pending:=some c}) hc s1 f1 hsh1
  rcases hj with⟨rfl,hj⟩|⟨i,rfl,hj⟩
  · exact wp_ret (hkr _ r' _ η' H1 _ _ k0 (hpush _ _ _ _ k1) t1 t2 hj)
  · exact wp_exit (hke i _ r' _ η' H1 _ _ k0 (hpush _ _ _ _ k1) t1 t2 hj)
end
end Go.GV
namespace Go.GV
open Go Go.GK
section
variable {N : Cw} {R : Type}
def Yd(f:IQ N->Option (Option R)):List (IQ N)->Option R
 | []=>none
 |q::l=>match f q with
  |some z=>z
  |none=>Yd f l
def nC(Φ:Nat->Option (CQ N))(C:List (SV N.T))(CR:List (SR N.T))(n:Nat)(g:Operand)(ps:Array Tmp)(pp:Option AY)(st:St N.T)(da db:WX N R)(kn:St N.T->Option R)(ke:Nat->St N.T->Option R)(kr:St N.T->Option R):Option R:=match Ap (Bx C st.L) g with
 | .AA f l cs=>match Φ f with
  |some (.its qs)=>match mL l&&cs.all fun c=>match Ai CR st.O c with|some (.Af _ _)=>true|_=>false with
   |true=>Yd (fun q=>eE C CR n ps pp st q l cs da db kn ke kr) qs
   |false=>none
  |_=>eF Φ C CR n g st kn
 |_=>none
def tO{T:Nat->Type} :Nat->(St T->(St T->Option R)->Option R)->St T->Option R
 |0,_,_=>none
 |n+1,f,st=>f st (fun st'=>tO n f st')
def den(cx:Cx N)(yl:YL N R)(fu:Nat):Code->Nat->Bool->List (SV N.T)->List (SR N.T)->St N.T->(St N.T->Option R)->(Nat->St N.T->Option R)->(St N.T->Option R)->Option R
 | .skip,_,_,_,_,st,kn,_,_=>kn st
 | .label _,_,_,_,_,st,kn,_,_=>kn st
 | .region i ops d,_,rd,C,CR,st,kn,_,_=>MH C CR (cx.pre i) st fun st=>match d with
  |true=>match rd with
   |true=>none
   |false=>match cx.ct i with
    |0=>oJ cx.P cx.Φ C CR cx.n ops st fun st=>MH C CR (cx.post i) st kn
    |m+1=>VH yl cx.P cx.Φ C CR cx.n ops (m+1) st fun st=>MH C CR (cx.post i) st kn
  |false=>VE yl cx.P cx.Φ C CR cx.n ops ops.toList st fun st=>MH C CR (cx.post i) st kn
 | .seq a b,kb,rd,C,CR,st,kn,ke,kr=>match(I1 b).bind cx.jn with
  |none=>den cx yl fu a kb rd C CR st (fun st=>den cx yl fu b kb rd C CR st kn ke kr) ke kr
  |some p=>match n_ C CR st p with
   |none=>none
   |some q=>den cx yl fu a kb rd q.C q.CR q.st
     (fun st'=>Ac (Oi N q.C q.CR kb (E9 p q) st') fun x=>den cx yl fu b kb rd q.C q.CR (Ep N (E9 p q) x)
      (fun s=>kn (C_ q.C q.CR C.length CR.length s)) (fun i s=>ke i (C_ q.C q.CR C.length CR.length s)) (fun s=>kr (C_ q.C q.CR C.length CR.length s)))
     (fun i s=>ke i (C_ q.C q.CR C.length CR.length s)) (fun s=>kr (C_ q.C q.CR C.length CR.length s))
 | .cond c a b,kb,rd,C,CR,st,kn,ke,kr=>match c with
  | .tmp t=>match Bx C st.L t with
   | .px _ .ub=>match den cx yl fu a kb rd C CR st kn ke kr,den cx yl fu b kb rd C CR st kn ke kr with
    |some x,some y=>yl.ag x y
    |_,_=>none
   |s=>oS s st (fun st=>den cx yl fu a kb rd C CR st kn ke kr) (fun st=>den cx yl fu b kb rd C CR st kn ke kr)
  | .const (.bool true)=>den cx yl fu a kb rd C CR st kn ke kr
  | .const (.bool false)=>den cx yl fu b kb rd C CR st kn ke kr
  |_=>none
 | .block i a,kb,rd,C,CR,st,kn,ke,kr=>den cx yl fu a kb rd C CR st kn (fun j st=>match Nat.beq i j with
  |true=>kn st
  |false=>ke j st) kr
 | .loop a,kb,rd,C,CR,st,kn,ke,kr=>match(I1 a).bind cx.la with
  |none=>tO 9 (fun st nx=>den cx yl fu a kb rd C CR st nx ke kr) st
  |some p=>match n_ C CR st p with
   |none=>none
   |some q=>Ac (Oi N q.C q.CR kb (E9 p q) q.st) fun x0=>
    Ad fu (fun x nx=>den cx yl fu a kb rd q.C q.CR (Ep N (E9 p q) x)
     (fun st'=>Ac (Oi N q.C q.CR kb (E9 p q) st') nx)
     (fun i s=>ke i (C_ q.C q.CR C.length CR.length s)) (fun s=>kr (C_ q.C q.CR C.length CR.length s))) x0
 | .scope a,kb,rd,C,CR,st,kn,ke,kr=>match rd with
  |true=>none
  |false=>den cx yl fu a kb rd C CR st kn ke kr
 | .exit i,_,_,_,_,st,_,ke,_=>ke i st
 | .ret,_,_,_,_,st,_,_,kr=>kr st
 | .rangeFunc g ps asg body,_,rd,C,CR,st,kn,ke,kr=>match rd with
  |true=>none
  |false=>nC cx.Φ C CR cx.n g ps ((I1 (.seq asg body)).bind cx.la) st (fun kb C CR st kn ke kr=>den cx yl fu asg kb true C CR st kn ke kr) (fun kb C CR st kn ke kr=>den cx yl fu body kb true C CR st kn ke kr) kn ke kr
 |_,_,_,_,_,_,_,_,_=>none
theorem JD{F:Fence}{n:Nat}{P:Program}{Q:Exit->Act->World->Prop}{X:Type}{c:Code}(I:X->Act->World->Prop)(μ:X->Nat){x:X}{a:Act}{w:World}(h₀:I x a w)
  (round:∀x a w,I x a w->c.wpIn F n P (Exit.then (fun a' w'=> ∃x',I x' a' w'/\μ x'<μ x) Q) a w):(Code.loop c).wpIn F n P Q a w:=by
 intro b k cs hro hb hr
 have key:∀j x a w,μ x=j->I x a w->
   ∃e a' w',Q e a' w'/\ArrivesIn (Machine.fenced P F) P (lone (b.atR a (.code c:: .inLoop c::k)) cs w) b k cs e a' w':=by
  intro j
  induction j using Nat.strongRecOn with
  |_ j ih=>
   intro x a w hn hI
   obtain⟨e,a₁,w₁,hq,harr⟩:=round x a w hI b (.inLoop c::k) cs hro hb hr
   cases e with
   |normal=>
    obtain⟨x₁,hI₁,hlt⟩:=hq
    obtain⟨e₂,a₂,w₂,hq₂,harr₂⟩:=ih (μ x₁) (hn▸hlt) x₁ a₁ w₁ rfl hI₁
    exact⟨e₂,a₂,w₂,hq₂, .of_steps (StepsIn.trans harr (.one (fenced_calm hb hr rf) stepR_inLoop)) harr₂⟩
   |exit id=>exact⟨_,a₁,w₁,hq, .pass (x:= .inLoop c) rfl (fun _ _=> .inl (by simp)) harr⟩
   |goto l=>exact⟨_,a₁,w₁,hq, .pass (x:= .inLoop c) rfl (fun _ _=> .inl (by simp)) harr⟩
   |ret=>exact⟨_,a₁,w₁,hq, .pass (x:= .inLoop c) rfl (fun _ _=> .inl (by simp)) harr⟩
   |panic ch=>exact⟨_,a₁,w₁,hq, .pass (x:= .inLoop c) rfl (fun _ _=> .inl (by simp)) harr⟩
   |outgrown=>exact⟨_,a₁,w₁,hq, .pass (x:= .inLoop c) rfl (fun _ _=> .inl (by simp)) harr⟩
 obtain⟨e,a',w',hq,harr⟩:=key _ x a w rfl h₀
 exact⟨e,a',w',hq, .of_steps (.one (fenced_calm hb hr rf) stepR_loop) harr⟩
theorem LH{f:IQ N->Option (Option R)}{r:R} :∀ {l:List (IQ N)},Yd f l=some r->∃q∈l,f q=some (some r)
 | [],h=>by cases h
 |q::l,h=>by
  unfold Yd at h
  split at h
  ·rename_i z hz
   subst h
   exact⟨q,by simp,hz⟩
  ·obtain⟨q',h1,h2⟩:=LH h
   exact⟨q',by simp[h1],h2⟩
variable {P : Program} [Bn N P] {yv : Value}
theorem BI{cx:Cx N} [Bn N cx.P](hΦ:∀f q,cx.Φ f=some q->A7 cx.P f q)(hm:cx.P.follows .mixedOrders=true){yl:YL N R}{fu:Nat} :∀(c:Code) {kb:Nat} {rd:Bool} {ro:Option Nat} {bs:List (Nat×Value)} {G:Hp->Fm->R->Prop} {Of:Fm} {r:R} {C:List (SV N.T)} {CR:List (SR N.T)} {st:St N.T} {kn:St N.T->Option R} {ke:Nat->St N.T->Option R} {kr:St N.T->Option R} {η:Nat->Value} {H:Hp} {a:Act} {w:World} {Q:Exit->Act->World->Prop},
  (rd=false->ro=none/\∀H Of r D,G H Of r->G H (IB D Of) r)->(∀q∈bs,q.1<kb)->(∀H H' Of r,H.le H'->G H Of r->G H' Of r)->L3 cx.P bs yl yv G->G H Of r->
  Sat C CR cx.n Of bs st η H a w->WF C CR bs st->den cx yl fu c kb rd C CR st kn ke kr=some r->
  Kn C CR cx.n G bs H kn (Q .normal)->(∀i,Kn C CR cx.n G bs H (ke i) (Q (.exit i)))->Kn C CR cx.n G bs H kr (Q .ret)->c.wpIn (FR ro) 0 cx.P Q a w
 | .skip,_,_,_,_,_,Of,r,C,CR,st,kn,ke,kr,η,H,a,w,Q,_,_,_,_,hg,h,hw,hd,hn,he,hr=>wpIn_skip (hn Of r st η H a w (Hp.le.refl H) hg h hw hd)
 | .label _,_,_,_,_,_,Of,r,C,CR,st,kn,ke,kr,η,H,a,w,Q,_,_,_,_,hg,h,hw,hd,hn,he,hr=>wpIn_label (hn Of r st η H a w (Hp.le.refl H) hg h hw hd)
 | .ret,_,_,_,_,_,Of,r,C,CR,st,kn,ke,kr,η,H,a,w,Q,_,_,_,_,hg,h,hw,hd,hn,he,hr=>wpIn_ret (hr Of r st η H a w (Hp.le.refl H) hg h hw hd)
 | .exit i,_,_,_,_,_,Of,r,C,CR,st,kn,ke,kr,η,H,a,w,Q,_,_,_,_,hg,h,hw,hd,hn,he,hr=>wpIn_exit (he i Of r st η H a w (Hp.le.refl H) hg h hw hd)
 | .region i ops d,kb,rd,ro,bs,G,Of,r,C,CR,st,kn,ke,kr,η,H,a,w,Q,hro,hkb,hG,hY,hg,h,hw,hd,hn,he,hr=>by
  simp only[den]at hd
  refine Eo h hw hd fun st1 η1 H1 hl1 h1 hw1 hd1=>?_
  have fin:∀Of' r' st' η' H' a' w',H1.le H'->G H' Of' r'->Sat C CR cx.n Of' bs st' η' H' a' w'->WF C CR bs st'->MH C CR (cx.post i) st' kn=some r'->Q .normal a' w':=fun Of' r' st' η' H' a' w' hl g0 g1 g2 g3=>
   Eo g1 g2 g3 fun st2 η2 H2 hl2 k1 k2 k3=>hn Of' r' st2 η2 H2 a' w' (hl1.trans (hl.trans hl2)) (hG _ _ _ _ hl2 g0) k1 k2 k3
  have hg1:=hG _ _ _ _ hl1 hg
  cases d with
  |true=>
   cases rd with
   |true=>cases hd1
   |false=>
    obtain⟨rfl,_⟩:=hro rfl
    simp only at hd1
    split at hd1
    case h_2=>exact wpIn_wide.2 (VG hΦ hm hG hY hg1 h1 hw1 hd1 fin)
    exact wpIn_wide.2 (iD hΦ hm h1 hw1 hd1 fun st' η' H' a' w' hl g1 g2 g3=>fin Of r st' η' H' a' w' hl (hG _ _ _ _ hl hg1) g1 g2 g3)
  |false=>
   obtain⟨l,rfl⟩:∃l:List Oper,ops=l.toArray:=⟨ops.toList,by simp⟩
   exact wpIn_region_lit (On hΦ hG hY hg1 h1 hw1 (by simpa using hd1) fin)
 | .seq x y,kb,rd,ro,bs,G,Of,r,C,CR,st,kn,ke,kr,η,H,a,w,Q,hro,hkb,hG,hY,hg,h,hw,hd,hn,he,hr=>by
  simp only[den]at hd
  split at hd
  ·exact wpIn_seq (BI hΦ hm x hro hkb hG hY hg h hw hd (fun Of1 r1 st1 η1 H1 a1 w1 hl g0 g1 g2 g3=>BI hΦ hm y hro hkb hG hY g0 g1 g2 g3 (hn.le hl) (fun i=>(he i).le hl) (hr.le hl)) he hr)
  ·rename_i p hp
   split at hd
   ·cases hd
   ·rename_i q hb
    obtain⟨c1,c2,c3,c4,c5⟩:=PC h hw hb
    refine wpIn_seq (BI hΦ hm x hro hkb hG hY hg c4 c5 hd (fun Of1 r1 st1 η1 H1 a1 w1 hl g0 g1 g2 g3=>?_) (fun i=>Kn.rs c1 c2 c3 (he i)) (Kn.rs c1 c2 c3 hr))
    obtain⟨z,e1,e2⟩:=A9 g3
    obtain⟨η2,k1,k2⟩:=Kv g1 g2 hkb e1
    exact BI hΦ hm y hro hkb hG hY g0 k1 k2 e2 (Kn.rs c1 c2 c3 (hn.le hl)) (fun i=>Kn.rs c1 c2 c3 ((he i).le hl)) (Kn.rs c1 c2 c3 (hr.le hl))
 | .cond c x y,kb,rd,ro,bs,G,Of,r,C,CR,st,kn,ke,kr,η,H,a,w,Q,hro,hkb,hG,hY,hg,h,hw,hd,hn,he,hr=>by
  simp only[den]at hd
  split at hd
  ·rename_i t
   split at hd
   ·rename_i ks hub
    split at hd
    case h_2=>cases hd
    rename_i x1 y1 hx1 hy1
    obtain⟨rfl,rfl⟩:=yl.V_ _ _ _ hd
    have hv:=h.lk t
    rw[hub]at hv
    obtain⟨b,hv⟩:=hv
    cases b with
    |true=>exact wpIn_cond_true hv (BI hΦ hm x hro hkb hG hY hg h hw hx1 hn he hr)
    |false=>exact wpIn_cond_false hv (BI hΦ hm y hro hkb hG hY hg h hw hy1 hn he hr)
   obtain⟨b,st',h1,h2,h3,h4⟩:=PT h hw hd
   cases b with
   |true=>exact wpIn_cond_true h1 (BI hΦ hm x hro hkb hG hY hg h2 h3 h4 hn he hr)
   |false=>exact wpIn_cond_false h1 (BI hΦ hm y hro hkb hG hY hg h2 h3 (by simpa using h4) hn he hr)
  ·exact wpIn_cond_true rf (BI hΦ hm x hro hkb hG hY hg h hw hd hn he hr)
  ·exact wpIn_cond_false rf (BI hΦ hm y hro hkb hG hY hg h hw hd hn he hr)
  ·cases hd
 | .block i x,kb,rd,ro,bs,G,Of,r,C,CR,st,kn,ke,kr,η,H,a,w,Q,hro,hkb,hG,hY,hg,h,hw,hd,hn,he,hr=>by
  simp only[den]at hd
  refine wpIn_block (BI hΦ hm x hro hkb hG hY hg h hw hd hn (fun j Of1 r1 st1 η1 H1 a1 w1 hl g0 g1 g2 g3=>?_) hr)
  simp only[Exit.inBlock]
  split at g3
  ·rename_i hb
   rw[if_pos (Nat.eq_of_beq_eq_true hb).symm]
   exact hn Of1 r1 st1 η1 H1 a1 w1 hl g0 g1 g2 g3
  ·rename_i hb
   rw[if_neg (fun e=>Nat.ne_of_beq_eq_false hb e.symm)]
   exact he j Of1 r1 st1 η1 H1 a1 w1 hl g0 g1 g2 g3
 | .loop x,kb,rd,ro,bs,G,Of,r,C,CR,st,kn,ke,kr,η,H,a,w,Q,hro,hkb,hG,hY,hg,h,hw,hd,hn,he,hr=>by
  simp only[den]at hd
  split at hd
  ·refine JD (X:=Nat×St N.T×(Nat->Value)×Hp×Fm×R) (fun X a w=>H.le X.2.2.2.1/\G X.2.2.2.1 X.2.2.2.2.1 X.2.2.2.2.2/\Sat C CR cx.n X.2.2.2.2.1 bs X.2.1 X.2.2.1 X.2.2.2.1 a w/\WF C CR bs X.2.1/\tO X.1 (fun st nx=>den cx yl fu x kb rd C CR st nx ke kr) X.2.1=some X.2.2.2.2.2) (fun X=>X.1) (x:=(9,st,η,H,Of,r)) ⟨Hp.le.refl H,hg,h,hw,hd⟩ ?_
   rintro⟨m,st3,η3,H3,Of3,r3⟩ a w ⟨l1,l0,l2,l3,l4⟩
   cases m with
   |zero=>cases l4
   |succ m=>exact BI hΦ hm x hro hkb hG hY l0 l2 l3 l4 (fun Of1 r1 st1 η1 H1 a1 w1 hl g0 g1 g2 g3=>⟨(m,st1,η1,H1,Of1,r1),⟨l1.trans hl,g0,g1,g2,g3⟩,Nat.lt_succ_self m⟩) (fun i=>(he i).le l1) (hr.le l1)
  ·rename_i p hp
   split at hd
   ·cases hd
   ·rename_i q hb
    obtain⟨c1,c2,c3,c4,c5⟩:=PC h hw hb
    obtain⟨z,e1,e2⟩:=A9 hd
    obtain⟨η2,k1,k2⟩:=Kv c4 c5 hkb e1
    refine JD (X:=Nat×Bu N (E9 p q).hs×(Nat->Value)×Hp×Fm×R) (fun X a w=>H.le X.2.2.2.1/\G X.2.2.2.1 X.2.2.2.2.1 X.2.2.2.2.2/\Sat q.C q.CR cx.n X.2.2.2.2.1 bs (Ep N (E9 p q) X.2.1) X.2.2.1 X.2.2.2.1 a w/\WF q.C q.CR bs (Ep N (E9 p q) X.2.1)/\Ad X.1 (fun x nx=>den cx yl fu _ kb rd q.C q.CR (Ep N (E9 p q) x)
     (fun st'=>Ac (Oi N q.C q.CR kb (E9 p q) st') nx)
     (fun i s=>ke i (C_ q.C q.CR C.length CR.length s)) (fun s=>kr (C_ q.C q.CR C.length CR.length s))) X.2.1=some X.2.2.2.2.2) (fun X=>X.1) (x:=(fu,z,η2,H,Of,r)) ⟨Hp.le.refl H,hg,k1,k2,e2⟩ ?_
    rintro⟨m,z,η3,H3,Of3,r3⟩ a w ⟨l1,l0,l2,l3,l4⟩
    obtain⟨m',rfl,l5⟩:=Pv l4
    refine BI hΦ hm x hro hkb hG hY l0 l2 l3 l5 (fun Of1 r1 st1 η1 H1 a1 w1 hl g0 g1 g2 g3=>?_) (fun i=>Kn.rs c1 c2 c3 ((he i).le l1)) (Kn.rs c1 c2 c3 (hr.le l1))
    obtain⟨z',e1,e2⟩:=A9 g3
    obtain⟨η2,k1,k2⟩:=Kv g1 g2 hkb e1
    exact⟨(m',z',η2,H1,Of1,r1),⟨l1.trans hl,g0,k1,k2,e2⟩,Nat.lt_succ_self m'⟩
 | .rangeFunc g ps asg body,kb,rd,ro,bs,G,Of,r,C,CR,st,kn,ke,kr,η,H,a,w,Q,hro,hkb,hG,hY,hg,h,hw,hd,hn,he,hr=>by
  simp only[den]at hd
  split at hd
  ·cases hd
  ·obtain⟨rfl,hpush⟩:=hro rfl
   refine wpIn_wide.2 ?_
   unfold nC at hd
   split at hd
   ·rename_i f l cs hs
    split at hd
    ·rename_i qs hq
     split at hd
     ·rename_i hb
      rw[Bool.and_eq_true]at hb
      obtain⟨q,hqm,hd⟩:=LH hd
      have hgg:=h.ev g
      rw[hs]at hgg
      obtain⟨us,e,hl⟩:=hgg
      refine Xs (hΦ f _ hq q hqm) (fun l {C CR kb bs G Of r st kn ke kr η H a w Q} k1 k2 k3 k4 k5 k6 k7 k8 k9 k10=>BI hΦ hm asg (ro:=some l) (fun e=>by cases e) k1 k2 k3 k4 k5 k6 k7 k8 k9 k10) (fun l {C CR kb bs G Of r st kn ke kr η H a w Q} k1 k2 k3 k4 k5 k6 k7 k8 k9 k10=>BI hΦ hm body (ro:=some l) (fun e=>by cases e) k1 k2 k3 k4 k5 k6 k7 k8 k9 k10) hG hpush hY hg h hw e hl hb.1 (fun c hc=>?_) hd hn he hr
      have:=List.all_eq_true.1 hb.2 c hc
      split at this
      ·rename_i g' b hR;exact⟨g',b,hR⟩
      ·cases this
     ·cases hd
    ·exact Xt hΦ h hw hd fun D st' η' H' a' w' hl g1 g2 g3=>hn (IB D Of) r st' η' H' a' w' hl (hpush _ _ _ _ (hG _ _ _ _ hl hg)) g1 g2 g3
   ·cases hd
 | .scope x,kb,rd,ro,bs,G,Of,r,C,CR,st,kn,ke,kr,η,H,a,w,Q,hro,hkb,hG,hY,hg,h,hw,hd,hn,he,hr=>by
  simp only[den]at hd
  split at hd
  ·cases hd
  ·obtain⟨rfl,hpush⟩:=hro rfl
   exact wpIn_wide.2 (wp_scope_straight (wpIn_wide.1 (BI hΦ hm x hro hkb hG hY hg h hw hd hn he hr)))
 | .goto _,kb,rd,ro,bs,G,Of,r,C,CR,st,kn,ke,kr,η,H,a,w,Q,hro,hkb,hG,hY,hg,h,hw,hd,hn,he,hr=>by cases hd
 | .refuse _,kb,rd,ro,bs,G,Of,r,C,CR,st,kn,ke,kr,η,H,a,w,Q,hro,hkb,hG,hY,hg,h,hw,hd,hn,he,hr=>by cases hd
end
end Go.GV
namespace Go.GV
open Go Go.GK
section
variable {N : Cw}
def S9:(ps:List Ty)->A3 N ps->Nat->List (Nat×SV N.T)
 | [],_,_=>[]
 | [t],x,i=>[(i, .d t x)]
 |t::u::ts,x,i=>(i, .d t x.1)::S9 (u::ts) x.2 (i+1)
def Qu(P:Program)(C:List (SV N.T))(CR:List (SR N.T))(st:St N.T)(t:Ty):ResultVar->Option (t.den N.T)
 | .tmp s=>OV C t (Bx C st.L s)
 | .cell ad ty=>match Bx C st.L ad,Jc N P ty with
  | .loc b 0,some te=>match Ai CR st.O b,LP N.T te t with
   |some (.Af _ l),some f=>match HD N C 64 te l with
    |some (x, .nl)=>some (f x)
    |_=>none
   |_,_=>none
  |_,_=>none
def Sb(P:Program)(C:List (SV N.T))(CR:List (SR N.T))(st:St N.T):(rs:List Ty)->List ResultVar->Option (A3 N rs)
 | [],[]=>some ()
 | [t],[v]=>Qu P C CR st t v
 | [t,u],[v,w]=>match Qu P C CR st t v,Qu P C CR st u w with
  |some x,some y=>some (x,y)
  |_,_=>none
 | [t,u,s],[v,w,z]=>match Qu P C CR st t v,Qu P C CR st u w,Qu P C CR st s z with
  |some x,some y,some q=>some (x,y,q)
  |_,_,_=>none
 |_,_=>none
def Yw(cx:Cx N)(fu:Nat)(f:Func)(ps rs:List Ty)(x:A3 N ps):Option (A3 N rs):=match f.body with
 |none=>none
 |some c=>den cx (yW rs) fu c cx.kb false [] [] ⟨S9 ps x 0,[],0⟩ (fun st=>Sb cx.P [] [] st rs f.results.toList) (fun _ _=>none) (fun st=>Sb cx.P [] [] st rs f.results.toList)
def NQ{R:Type}(O:List Ao)(y:R):Hp->Fm->R->Prop:=fun _ Of r=>r=y/\∃M,Of=Lv O M
theorem Lq{R:Type}{O:List Ao}{y:R} :∀H H' Of r,H.le H'->NQ O y H Of r->NQ O y H' Of r:=fun _ _ _ _ _ h=>h
theorem Lp{R:Type}{O:List Ao}{y:R} :false=false->none=(none:Option Nat)/\∀H Of r D,NQ O y H Of r->NQ O y H (IB D Of) r:=fun _=>⟨rfl,fun _ _ _ D ⟨h,M,e⟩=>⟨h,D::M,by subst e;rfl⟩⟩
theorem M6{H:Hp}{η:Nat->Value} :∀ {ps:List Ty} {x:A3 N ps} {vs:List Value},Ja H ps x vs->∀i t sv,An (S9 ps x i) t=some sv->∃v,i<=t/\vs[t-i]?=some v/\sv.is [] η H v/\∃p y,sv= .d p y
 | [],x,vs,_,i,t,sv,h=>by cases h
 | [p],x,vs,⟨v,e,hv⟩,i,t,sv,h=>by
  subst e
  simp only[S9,An]at h
  split at h
  ·rename_i hb;have:=Nat.eq_of_beq_eq_true hb;subst this;cases h
   exact⟨v,Nat.le_refl _,by simp,Hx hv,_,_,rf⟩
  ·cases h
 |p::q::ps,x,vs,⟨v,ws,e,hv,hw⟩,i,t,sv,h=>by
  subst e
  simp only[S9,An]at h
  split at h
  ·rename_i hb;have:=Nat.eq_of_beq_eq_true hb;subst this;cases h
   exact⟨v,Nat.le_refl _,by simp,Hx hv,_,_,rf⟩
  ·obtain⟨v',h1,h2,h3,h4⟩:=M6 hw (i+1) t sv h
   exact⟨v',by omega,by rw[show t-i=(t-(i+1))+1 by omega];simpa using h2,h3,h4⟩
theorem Ja.len{H:Hp} :∀ {ps:List Ty} {x:A3 N ps} {vs:List Value},Ja H ps x vs->vs.length=ps.length
 | [],_,_,h=>by cases h;rfl
 | [_],_,_,⟨v,e,_⟩=>by subst e;rfl
 |_::_::_,_,_,⟨v,ws,e,_,hw⟩=>by subst e;simp[Ja.len hw]
theorem FX{P:Program} [Bn N P]{C:List (SV N.T)}{CR:List (SR N.T)}{n:Nat}{Of:Fm}{bs:List (Nat×Value)}{st:St N.T}{η:Nat->Value}{H:Hp}{a:Act}{w:World}{t:Ty}{v:ResultVar}{y:t.den N.T}(h:Sat C CR n Of bs st η H a w)(hr:Qu P C CR st t v=some y):∃u,(Pb a.tmps v).run P w= .ok u w/\(SV.d t y:SV N.T).is [] η0 H u:=by
 cases v with
 |tmp s=>exact⟨_,by simp only[Pb,Sem.run_pure],Hx (CC (t:=t) hr (h.lk s))⟩
 |cell ad ty=>
  simp only[Qu]at hr
  split at hr
  ·rename_i b te hs ht
   split at hr
   ·rename_i g l f hb hf
    split at hr
    ·rename_i x hx
     cases hr
     obtain⟨he,rfl⟩:=Bg hf
     have ee:=Ty.Bc he
     subst ee
     obtain⟨d,hd,hag,bytes,zv,hti⟩:=GG ht
     have hv:=h.lk ad
     rw[hs]at hv
     obtain⟨B,e1,e2⟩:=hv
     obtain⟨Y,hn,hsh,_,hres⟩:=h.own
     rcases hres b _ hb with e|⟨X,h1,B',cs,e3,e4,h2⟩
     ·cases e
     rw[e1]at e3
     have e3:B=B':=by simpa [ptr]using e3
     subst e3;subst e4
     obtain⟨i,h3,_⟩:=GJ Of.O hn h1
     obtain⟨c1,c2,e5,h4,h5⟩:=Dl (cs:=cs.toList) hx h2
     have h5:Value.agg c2.toArray= .agg #[]:=h5
     have h5:c2=[]:=by simpa using h5
     subst h5
     rw[List.append_nil]at e5
     rw[<-e5]at h4
     have hlen:=AX h4
     cases ha:te.agg with
     |true=>
      refine⟨.agg cs,?_,cs.toList,h4,by unfold BS;rw[ha]⟩
      have:=BU (P:=P) (w:=w) (a:=⟨B,0,none⟩) (vs:=cs.toList) hd (by rw[hag,ha]) (by rw[hlen];exact hti) (fun j u hj=>by
       rw[Addr.add_lit];exact hsh.Gf h3 (by simpa using hj))
      simp only[Pb,e2,ptr]
      simpa [asAddr]using this
     |false=>
      have hsz:te.sz N=1:=by
       unfold Ty.agg at ha
       split at ha
       ·cases ha
       ·cases ha
       ·cases ha
       ·cases ha
       ·cases ha
       ·cases ha
       ·rename_i q1 q2 q3 q4 q5 q6
        unfold Ty.sz
        split
        ·exact absurd rf (q1 _)
        ·exact absurd rf (q5 _ _)
        ·exact absurd rf q6
        ·exact absurd rf q2
        ·exact absurd rf (q3 _)
        ·exact absurd rf (q4 _ _)
        ·rfl
      rw[hsz]at hlen
      obtain⟨u,hu⟩:∃u,cs.toList=[u]:=by
       match hcs:cs.toList,hlen with
       | [u],_=>exact⟨u,rfl⟩
      refine⟨u,?_,cs.toList,h4,by unfold BS;rw[ha];exact hu⟩
      have h0:cs[0]?=some u:=by
       have:cs.toList[0]?=some u:=by rw[hu];rfl
       simpa using this
      have:=BT (P:=P) (w:=w) (a:=⟨B,0,none⟩) hd (by rw[hag,ha]) (hsh.Gf h3 h0)
      simp only[Pb,e2,ptr]
      simpa [asAddr]using this
    ·cases hr
   ·cases hr
  ·cases hr
theorem JY{P:Program} [Bn N P]{C:List (SV N.T)}{CR:List (SR N.T)}{n:Nat}{Of:Fm}{bs:List (Nat×Value)}{st:St N.T}{η:Nat->Value}{H:Hp}{a:Act}{w:World}{rs:List Ty}{fn:Func}{y:A3 N rs}(h:Sat C CR n Of bs st η H a w)(hr:Sb P C CR st rs fn.results.toList=some y):∃u,(results fn a.tmps).run P w= .ok u w/\(EA N rs y).is [] η0 H u:=by
 rw[GM]
 obtain⟨l,hl⟩:∃l:List ResultVar,fn.results=l.toArray:=⟨fn.results.toList,by simp⟩
 rw[hl]at hr⊢
 clear hl
 match rs,l,y,hr with
 | [],[],y,hr=>exact⟨.tuple #[],by simp,rfl⟩
 | [],_::_,y,hr=>cases hr
 | [t],[v],y,hr=>
  obtain⟨u,h1,h2⟩:=FX (P:=P) h (show Qu P C CR st t v=some y from hr)
  exact⟨u,by simp[h1],h2⟩
 | [t],[],y,hr=>cases hr
 | [t],_::_::_,y,hr=>cases hr
 | [t,u],[],y,hr=>cases hr
 | [t,u],[_],y,hr=>cases hr
 | [t,u],[v,w'],y,hr=>
  have hr:(match Qu P C CR st t v,Qu P C CR st u w' with
   |some x,some y=>some (x,y)
   |_,_=>none)=some y:=hr
  split at hr
  ·rename_i x y' e1 e2
   cases hr
   obtain⟨u1,h1,h2⟩:=FX (P:=P) h e1
   obtain⟨u2,h3,h4⟩:=FX (P:=P) h e2
   exact⟨.tuple #[u1,u2],by simp[h1,h3],u1,u2,rf,h2,h4⟩
  ·cases hr
 | [t,u],_::_::_::_,y,hr=>cases hr
 | [t,u,s],[],y,hr=>cases hr
 | [t,u,s],[_],y,hr=>cases hr
 | [t,u,s],[_,_],y,hr=>cases hr
 | [t,u,s],[v,w',z],y,hr=>
  have hr:(match Qu P C CR st t v,Qu P C CR st u w',Qu P C CR st s z with
   |some x,some y,some q=>some (x,y,q)
   |_,_,_=>none)=some y:=hr
  split at hr
  ·rename_i x y' q e1 e2 e3
   cases hr
   obtain⟨u1,h1,h2⟩:=FX (P:=P) h e1
   obtain⟨u2,h3,h4⟩:=FX (P:=P) h e2
   obtain⟨u3,h5,h6⟩:=FX (P:=P) h e3
   exact⟨.tuple #[u1,u2,u3],by simp[h1,h3,h5],u1,u2,u3,rf,h2,h4,h6⟩
  ·cases hr
 | [t,u,s],_::_::_::_::_,y,hr=>cases hr
 |_::_::_::_::_,_,y,hr=>cases hr
theorem Yv{cx:Cx N} [mp:Bn N cx.P](hΦ:∀f q,cx.Φ f=some q->A7 cx.P f q)(hm:cx.P.follows .mixedOrders=true){fu f:Nat}{fn:Func}{ps rs:List Ty}(he:Nb cx.P f)(hf:cx.P.funcs[f]?=some fn)(hn:fn.ntmps=cx.n)(ha:Nat.ble ps.length cx.n=true):C0 cx.P f ⟨ps,rs,Yw cx fu fn ps rs⟩:=by
 refine⟨he,fun x y hy H O vs hiv hav=>?_⟩
 have hy:Yw cx fu fn ps rs x=some y:=hy
 unfold Yw at hy
 split at hy
 ·cases hy
 ·rename_i c hb
  refine L4.ofM hf hb hn (by rw[hav.len];exact ha) fun a w hfr hsh=>?_
  have fin:Kn [] [] cx.n (NQ O y) [] H (fun st=>Sb cx.P [] [] st rs fn.results.toList) (bodyPostM Fence.wide 0 cx.P fn (sN H fun v H' O'=>O'=O/\(EA N rs y).is [] η0 H' v) .ret):=fun Of r st η H' a' w' hl hg h1 _ h3=>by
   obtain⟨rfl,M,rfl⟩:=hg
   show LeavesInM _ _ _ _ _ _ a'.defers _ _
   rw[h1.defers]
   refine Fy h1 fun w' h1=>?_
   obtain⟨u,g1,g2⟩:=JY (P:=cx.P) h1 h3
   obtain⟨Y,_,k2,_⟩:=h1.own
   have hO:SH w' H' O:=by have:=k2.VD (Y.map (·.2)).length;simpa [Lv]using this
   exact⟨u,g1,u,H',O,rf,hl,hO,rf,g2⟩
  refine wpIn_wide.1 (BI (R:=A3 N rs) (bs:=[]) (G:=NQ O y) (Of:=Lv O []) (r:=y) (ro:=none) (yv:=undef) (η:=η0) hΦ hm c Lp (fun q hq=>by cases hq) Lq fW ⟨rfl,[],rfl⟩ (st:=⟨S9 ps x 0,[],0⟩) (H:=H) ⟨hiv,hfr.defers,hfr.size,fun t sv ht=>?_,fun p hp=>(by cases hp),[],List.nodup_nil,by simpa [Lv]using hsh,fun k hk=>(by cases hk),fun k sr hk=>(by cases hk)⟩ ⟨fun p hp=>(by cases hp),fun j _=>rfl,⟨fun _=>0,fun t=>?_⟩,fun k hk=>(by cases hk),fun s hs=>(by cases hs)⟩ hy (fun M r st η H' a' w' hl hg h1 h2 h3=>fin M r st η H' a' w' hl hg h1 h2 h3) (fun i M r st η H' a' w' _ _ _ _ h3=>by cases h3) fin)
  ·obtain⟨
       v,_,h1,h2,_⟩:=M6 (η:=η0) hav 0 t sv ht
   have:a.tmps.getD t undef=v:=hfr.get t v (by
    have key:∀(us:List Value) (i:Nat),us[t-i]?=some v->i<=t->lk (Gn i us) t=some v:=by
     intro us
     induction us with
     |nil=>intro i h;simp at h
     |cons u us ih=>
      intro i h hle
      simp only[Gn,lk]
      cases hb:Nat.beq i t with
      |true=>
       have:=Nat.eq_of_beq_eq_true hb;subst this
       simp at h;simp[h]
      |false=>
       have ne:=Nat.ne_of_beq_eq_false hb
       refine ih (i+1) ?_ (by omega)
       rw[show t-i=(t-(i+1))+1 by omega]at h
       simpa using h
    exact key vs 0 h1 (Nat.zero_le _))
   rw[this];exact h2
  ·unfold Bx
   split
   ·rename_i s hs
    obtain⟨v,_,_,_,h4⟩:=M6 (η:=η0) hav 0 t s hs
    obtain⟨p,q,rfl⟩:=h4
    trivial
   ·trivial
end
end Go.GV
namespace Go.GV
open Go Go.GK
section
variable {N : Cw}
def uc(P:Program)(C:List (SV N.T))(CR:List (SR N.T))(st:St N.T):ResultVar->Option (SV N.T)
 | .tmp s=>some (Bx C st.L s)
 | .cell ad ty=>match Bx C st.L ad,Jc N P ty with
  | .loc b 0,some te=>match Ai CR st.O b with
   |some (.Af _ l)=>match HD N C 64 te l with
    |some (x, .nl)=>some (.d te x)
    |_=>match te.agg with
     |true=>match whole l&&Nat.beq (O8 N l) (te.sz N)with
      |true=>some l
      |false=>none
     |false=>match DR N C l 0 none with
      |some (.d _ _)=>none
      |z=>z
   |_=>none
  |_,_=>none
def rU(P:Program)(C:List (SV N.T))(CR:List (SR N.T))(st:St N.T):List ResultVar->Option (List (SV N.T))
 | []=>some []
 |v::l=>match uc P C CR st v,rU P C CR st l with
  |some a,some r=>some (a::r)
  |_,_=>none
theorem Xn{P:Program} [Bn N P]{C:List (SV N.T)}{CR:List (SR N.T)}{n:Nat}{Of:Fm}{bs:List (Nat×Value)}{st:St N.T}{η:Nat->Value}{H:Hp}{a:Act}{w:World}{v:ResultVar}{s:SV N.T}(h:Sat C CR n Of bs st η H a w)(hr:uc P C CR st v=some s):∃u,(Pb a.tmps v).run P w= .ok u w/\s.is C η H u:=by
 cases v with
 |tmp t=>
  cases hr
  exact⟨_,by simp only[Pb,Sem.run_pure],h.lk t⟩
 |cell ad ty=>
  simp only[uc]at hr
  split at hr
  ·rename_i b te hs ht
   split at hr
   ·rename_i g l hb
    obtain⟨d,hd,hag,bytes,zv,hti⟩:=GG ht
    have hv:=h.lk ad
    rw[hs]at hv
    obtain⟨B,e1,e2⟩:=hv
    obtain⟨Y,hn,hsh,_,hres⟩:=h.own
    rcases hres b _ hb with e|⟨X,h1,B',cs,e3,e4,h2⟩
    ·cases e
    rw[e1]at e3
    have e3:B=B':=by simpa [ptr]using e3
    subst e3;subst e4
    obtain⟨i,h3,_⟩:=GJ Of.O hn h1
    have lda:te.agg=true->cs.toList.length=te.sz N->(Pb a.tmps (.cell ad ty)).run P w= .ok (.agg cs) w:=fun ha hlen=>by
     have:=BU (P:=P) (w:=w) (a:=⟨B,0,none⟩) (vs:=cs.toList) hd (by rw[hag,ha]) (by rw[hlen];exact hti) (fun j u hj=>by
      rw[Addr.add_lit];exact hsh.Gf h3 (by simpa using hj))
     simp only[Pb,e2,ptr]
     simpa [asAddr]using this
    have ld1:te.agg=false->∀u,cs[0]?=some u->(Pb a.tmps (.cell ad ty)).run P w= .ok u w:=fun ha u h0=>by
     have:=BT (P:=P) (w:=w) (a:=⟨B,0,none⟩) hd (by rw[hag,ha]) (hsh.Gf h3 h0)
     simp only[Pb,e2,ptr]
     simpa [asAddr]using this
    split at hr
    ·rename_i x hx
     cases hr
     obtain⟨c1,c2,e5,h4,h5⟩:=Dl (cs:=cs.toList) hx h2
     have h5:Value.agg c2.toArray= .agg #[]:=h5
     have h5:c2=[]:=by simpa using h5
     subst h5
     rw[List.append_nil]at e5
     rw[<-e5]at h4
     have hlen:=AX h4
     cases ha:te.agg with
     |true=>exact⟨.agg cs,lda ha hlen,cs.toList,h4,by unfold BS;rw[ha]⟩
     |false=>
      rw[TR ha]at hlen
      obtain⟨u,hu⟩:∃u,cs.toList=[u]:=List.length_eq_one_iff.1 hlen
      exact⟨u,ld1 ha u (by
         have:cs.toList[0]?=some u:=by rw[hu];rfl
         simpa using this),cs.toList,h4,by unfold BS;rw[ha];exact hu⟩
    ·split at hr
     ·rename_i ha
      split at hr
      ·rename_i hw
       cases hr
       rw[Bool.and_eq_true]at hw
       have:=FU (cs:=cs.toList) hw.1 h2
       exact⟨.agg cs,lda ha (by rw[<-this];exact Nat.eq_of_beq_eq_true hw.2),h2⟩
      ·cases hr
     ·rename_i ha
      have hr:DR N C l 0 none=some s/\∀t y,s≠ .d t y:=by
       revert hr
       cases hz:DR N C l 0 none with
       |none=>intro hr;cases hr
       |some z=>cases z<;>intro hr<;>cases hr<;>exact⟨rfl,fun _ _ e=>by cases e⟩
      obtain⟨c,hrd,hc⟩:=CJ (cs:=cs.toList) hr.1 h2
      obtain⟨u,k1,k2,k3⟩:=hrd
      rcases k3 with⟨ty',y,rfl,e⟩|⟨ho,hn'⟩
      ·exact absurd rf (hr.2 _ _)
      ·have:c=[u]:=by rw[<-k2,AU ho]
       subst this
       refine⟨u,ld1 ha u ?_,k1⟩
       have hc:(cs.toList.drop 0).take 1=[u]:=hc
       rw[List.drop_zero]at hc
       match hcs:cs.toList,hc with
       |z::zs,hc=>
        have:cs.toList[0]?=some u:=by rw[hcs];simpa using hc
        simpa using this
   ·cases hr
  ·cases hr
theorem Qv{P:Program} [Bn N P]{C:List (SV N.T)}{CR:List (SR N.T)}{n:Nat}{Of:Fm}{bs:List (Nat×Value)}{st:St N.T}{η:Nat->Value}{H:Hp}{a:Act}{w:World}(h:Sat C CR n Of bs st η H a w):∀ {l:List ResultVar} {As:List (SV N.T)},rU P C CR st l=some As->∃vs:List Value,vs.length=As.length/\(l.mapM (Pb a.tmps)).run P w= .ok vs w/\∀(i:Nat) (s:SV N.T),As[i]?=some s->∃v,vs[i]?=some v/\s.is C η H v
 | [],As,hr=>by
  cases hr
  exact⟨[],rf,by simp,fun i s hi=>by simp at hi⟩
 |v::l,As,hr=>by
  simp only[rU]at hr
  split at hr
  ·rename_i s r h1 h2
   cases hr
   obtain⟨u,u1,u2⟩:=Xn h h1
   obtain⟨vs,k1,k2,k3⟩:=Qv h h2
   refine⟨u::vs,by simp[k1],by simp[u1,k2],fun i s' hi=>?_⟩
   cases i with
   |zero=>cases hi;exact⟨u,rfl,u2⟩
   |succ i=>exact k3 i s' (by simpa using hi)
  ·cases hr
def sq(P:Program)(l:List ResultVar)(b:Nat)(po:AY)(rk:Nat)(st:St N.T):Option (Bu N po.hs):=match rU P [] [] st l with
 |some As=>
  let m:=Fv [] (Ai [] st.O) (fun i=>As.getD i .no) po
  match(Nat.beq As.length rk&&Nat.ble rk 3)&&(KK (po.sl.map (·.1)) (List.range rk)&&(List.range b).all fun k=>Nat.beq (AJ m k) k)with
  |true=>Hv [] (Ai [] st.O) (fun i=>As.getD i .no) m po
  |false=>none
 |none=>none
def LO(cx:Cx N)(fu:Nat)(f:Func)(pi po:AY)(rk:Nat)(x:Bu N pi.hs):Option (Bu N po.hs):=match f.body with
 |none=>none
 |some c=>den cx (yV po.hs) fu c cx.kb false [] [] (Ep N pi x) (sq cx.P f.results.toList pi.nk po rk) (fun _ _=>none) (sq cx.P f.results.toList pi.nk po rk)
def YP(cx:Cx N)(pi po:AY)(gone:List Nat):Bool:=(Nat.ble pi.sl.length cx.n&&(KK (pi.sl.map (·.1)) (List.range pi.sl.length)&&(pi.sl.all fun p=>p.2.pl)))&&((pi.ro.all fun p=>Nat.blt p.1 pi.nk)&&(BF (po.ro.map (·.1))&&((pi.ro.all fun p=>Bw (po.ro.map (·.1)) p.1||Bw gone p.1)&&Nat.ble pi.nk cx.kb)))
theorem Uk(hs:List HT)(x:Bu N hs){τ:Nat->Nat}{Rr:Nat->Option (SR N.T)}{C:List (SV N.T)} :∀j,CD τ Rr (res C (BP N hs x j)):=by
 have:∀(hs:List HT) (x:Bu N hs) (j:Nat),BP N hs x j= .no\/∃h y,BP N hs x j=TE N h y:=by
  intro hs
  induction hs with
  |nil=>exact fun _ _=> .inl rfl
  |cons t ts ih=>
   intro x j
   cases ts with
   |nil=>cases j with
    |zero=>exact .inr ⟨t,x,rfl⟩
    |succ j=>exact .inl rfl
   |cons u ts=>cases j with
    |zero=>exact .inr ⟨t,x.1,rfl⟩
    |succ j=>exact ih x.2 j
 intro j
 rcases this hs x j with e|⟨h,y,e⟩
 ·rw[e];trivial
 ·rw[e];cases h<;>trivial
theorem inst_pl{hs:List HT}{x:Bu N hs}{p:SP}(h:p.pl=true){τ:Nat->Nat}{Rr:Nat->Option (SR N.T)}{C:List (SV N.T)} :CD τ Rr (res C (inst N hs x p)):=by
 cases p with
 |v j t=>exact Uk _ _ j
 |nat j=>exact Uk _ _ j
 |Az _=>trivial
 |loc _ _=>trivial
 |AA _ _ _=>trivial
 |Aa=>trivial
 |nl=>trivial
 |mp _=>trivial
 |pd j t off=>
  show CD τ Rr (res C (match BP N hs x j with| .d t x=>SV.pd t x off|_=> .no))
  split<;>trivial
 |px ks z=>cases z with
  |sf=>trivial
  |hc _=>trivial
  |sub j n t=>
   show CD τ Rr (res C (match BP N hs x j,BP N hs x n with| .na i, .na m=>SV.px ks (.sub i m t)|_,_=> .px ks .any))
   split<;>trivial
 |sv ls=>cases ls<;>trivial
 |_=>cases h
theorem Xh{po:AY}{rk i:Nat}(h:po.sl.map (·.1)=List.range rk)(hi:i<rk):(i,CS po.sl i)∈po.sl:=by
 have hk:i∈keys po.sl:=by unfold keys;rw[h];exact List.mem_range.2 hi
 obtain⟨x,hx⟩:=CI hk
 unfold CS
 rw[hx]
 exact AQ hx
theorem Vu{cx:Cx N} [mp:Bn N cx.P](hΦ:∀f q,cx.Φ f=some q->A7 cx.P f q)(hm:cx.P.follows .mixedOrders=true){fu f:Nat}{fn:Func}{pi po:AY}{rk:Nat}{gone:List Nat}(he:Nb cx.P f)(hf:cx.P.funcs[f]?=some fn)(hn:fn.ntmps=cx.n)(hc:YP cx pi po gone=true):C3 cx.P f ⟨pi,po,rk,gone,LO cx fu fn pi po rk⟩:=by
 unfold YP at hc
 simp only[Bool.and_eq_true]at hc
 obtain⟨⟨c1,c2,c3⟩,c4,c5,c6,c7⟩:=hc
 have c2:=DH c2
 refine⟨he,fun x y hy η H Of Y vs hnd hin=>?_⟩
 obtain⟨i1,i2,i3,i4,hiv⟩:=hin
 have i1:vs.length=pi.sl.length:=i1
 have i2:∀p∈pi.sl,∃v,vs[p.1]?=some v/\(inst N pi.hs x p.2).is [] η H v:=i2
 have i3:keys Y=pi.ro.map (·.1):=i3
 have i4:∀p∈pi.ro,∃X,An Y p.1=some X/\(instR N pi.hs x p.2).is [] η H p.1 X:=i4
 have hy:LO cx fu fn pi po rk x=some y:=hy
 unfold LO at hy
 split at hy
 ·cases hy
 ·rename_i c hb
  let bs:List (Nat×Value):=(List.range pi.nk).map fun k=>(k,η k)
  have hbs:∀p∈bs,p.1<pi.nk/\η p.1=p.2:=fun p hp=>by
   obtain⟨k,hk,rfl⟩:=List.mem_map.1 hp
   exact⟨List.mem_range.1 hk,rf⟩
  have hro:∀p∈pi.ro,p.1<pi.nk:=fun p hp=>by simpa using List.all_eq_true.1 c4 p hp
  refine L4.ofM hf hb hn (by rw[i1];exact c1) fun a w hfr hsh=>?_
  have fin:Kn [] [] cx.n (NQ Of y) bs H (sq cx.P fn.results.toList pi.nk po rk) (bodyPostM Fence.wide 0 cx.P fn (sN H fun v H' O'=> ∃η' Y',O'=Y'.map (·.2)++Of/\o_ ⟨pi,po,rk,gone,LO cx fu fn pi po rk⟩ y η η' H' Y Y' v) .ret):=fun Of1 r1 st η1 H' a' w' hl hg h1 _ h3=>by
   obtain⟨e0,M,rfl⟩:=hg
   rw[e0]at h3
   show LeavesInM _ _ _ _ _ _ a'.defers _ _
   rw[h1.defers]
   refine Fy h1 fun w' h1=>?_
   unfold sq at h3
   split at h3
   ·rename_i As hAs
    simp only at h3
    generalize hmm:Fv [] (Ai [] st.O) (fun i=>As.getD i .no) po=m at h3
    split at h3
    ·rename_i hck
     simp only[Bool.and_eq_true]at hck
     obtain⟨⟨e1,e2⟩,e3,e4⟩:=hck
     have e1:=Nat.eq_of_beq_eq_true e1
     have e2:=Nat.le_of_ble_eq_true e2
     have e3:=DH e3
     have hlen:po.sl.length=rk:=by
      have:=congrArg List.length e3
      simpa using this
     obtain⟨us,u1,u2,u3⟩:=Qv h1 hAs
     obtain⟨Y1,y1,y2,y3,y4⟩:=h1.own
     have hlt:∀p∈po.sl,p.1<rk:=fun p hp=>by
      have:p.1∈po.sl.map (·.1):=List.mem_map.2 ⟨p,hp,rfl⟩
      rw[e3]at this;exact List.mem_range.1 this
     obtain⟨r1,r2,r3⟩:=Jv (C:=[]) (η:=η1) (H:=H') (Y:=Y1) (vs:=us) h3 (by rw[u1,e1,hlen]) (fun p hp=>by
      have hl:p.1<As.length:=by rw[e1];exact hlt p hp
      obtain⟨v,v1,v2⟩:=u3 p.1 As[p.1] (List.getElem?_eq_getElem hl)
      refine⟨v,v1,?_⟩
      show(As.getD p.1 .no).is [] η1 H' v
      rw[List.getD_eq_getElem?_getD,List.getElem?_eq_getElem hl];exact v2) (fun p hp sr hsr=>y4 _ sr hsr)
     have hrange:∀k,k<pi.nk->AJ m k=k:=fun k hk=>Nat.eq_of_beq_eq_true (List.all_eq_true.1 e4 k (List.mem_range.2 hk))
     let Y2:List (Nat×Ao):=po.ro.map fun p=>(p.1,(An Y1 (AJ m p.1)).getD .emp)
     have kY2:keys Y2=po.ro.map (·.1):=by show(po.ro.map _).map _=_;rw[List.map_map];rfl
     have nd2:(keys Y2).Nodup:=by rw[kY2];exact Ba c5
     have hsh2:SH w' H' (Y2.map (·.2)++Of):=by
      have hz:=SH.O3 y2 (Z:=po.ro.map fun p=>(AJ m p.1,(An Y1 (AJ m p.1)).getD .emp)) (by
       unfold keys;rw[List.map_map];exact r1) (fun p hp=>by
        obtain⟨z,hz,rfl⟩:=List.mem_map.1 hp
        obtain⟨_,X,hX,_⟩:=r3 z hz
        simp only[hX,Option.getD_some])
      rw[List.map_map]at hz
      show SH w' H' ((po.ro.map _).map _++Of)
      rw[List.map_map]
      exact hz
     have hres:∃v,(results fn a'.tmps).run cx.P w'= .ok v w'/\(Gk (N:=N) ⟨pi,po,rk,gone,LO cx fu fn pi po rk⟩ y).is [] (fun c=>η1 (AJ m c)) H' v:=by
      rw[GM]
      obtain⟨l,hl⟩:∃l:List ResultVar,fn.results=l.toArray:=⟨fn.results.toList,by simp⟩
      rw[hl]at u2⊢
      have u2:(l.mapM (Pb a'.tmps)).run cx.P w'= .ok us w':=u2
      have ul:us.length=rk:=by rw[u1,e1]
      have sp:∀i,i<rk->∃v,us[i]?=some v/\(inst N po.hs y (CS po.sl i)).is [] (fun c=>η1 (AJ m c)) H' v:=fun i hi=>r2 _ (Xh e3 hi)
      have ru:(do let vs<-l.toArray.mapM (Pb a'.tmps);pure (if h:vs.size=1 then vs[0]else .tuple vs):Sem Value).run cx.P w'= .ok (if h:us.toArray.size=1 then us.toArray[0]else .tuple us.toArray) w':=by
       rw[List.mapM_toArray]
       simp[u2]
      rw[ru]
      refine⟨_,rf,?_⟩
      unfold Gk
      match us,ul,e2,sp with
      | [],ul,_,sp=>
       subst ul
       show SV.is [] _ H' (.raw (.tuple #[])) _
       rfl
      | [u],ul,_,sp=>
       subst ul
       obtain⟨v,v1,v2⟩:=sp 0 (by simp)
       cases v1
       exact v2
      | [u,u'],ul,_,sp=>
       subst ul
       obtain⟨v,v1,v2⟩:=sp 0 (by simp)
       obtain⟨v',v3,v4⟩:=sp 1 (by simp)
       cases v1;cases v3
       exact⟨_,_,rf,v2,v4⟩
      | [u,u',u''],ul,_,sp=>
       subst ul
       obtain⟨v,v1,v2⟩:=sp 0 (by simp)
       obtain⟨v',v3,v4⟩:=sp 1 (by simp)
       obtain⟨v'',v5,v6⟩:=sp 2 (by simp)
       cases v1;cases v3;cases v5
       exact⟨_,_,_,rf,v2,v4,v6⟩
      |_::_::_::_::_,ul,h3',_=>simp at ul;omega
     obtain⟨v,g1,g2⟩:=hres
     refine⟨v,g1,v,H',Y2.map (·.2)++Of,rf,hl,hsh2,fun c=>η1 (AJ m c),Y2,rf,fun k hk=>?_,nd2,fun k hk=> .inr (by rw[kY2]at hk;exact hk),fun p hp=>?_,fun k hk hn1 hn2=>?_,g2⟩
     ·show η1 (AJ m k)=η k
      rw[hrange k hk]
      exact h1.base (k,η k) (List.mem_map.2 ⟨k,List.mem_range.2 hk,rf⟩)
     ·obtain⟨_,X,hX,h4⟩:=r3 p hp
      refine⟨X,?_,h4⟩
      have:(p.1,(An Y1 (AJ m p.1)).getD .emp)∈Y2:=List.mem_map.2 ⟨p,hp,rfl⟩
      rw[Cc nd2 this,hX];rfl
     ·rw[i3]at hk
      obtain⟨p,hp,rfl⟩:=List.mem_map.1 hk
      have:=List.all_eq_true.1 c6 p hp
      rw[Bool.or_eq_true]at this
      rcases this with h|h
      ·exact absurd (AB.1 h) hn1
      ·exact absurd (AB.1 h) hn2
    ·cases h3
   ·cases h3
  refine wpIn_wide.1 (BI (R:=Bu N po.hs) (bs:=bs) (G:=NQ Of y) (Of:=Lv Of []) (r:=y) (ro:=none) (yv:=undef) (η:=η) hΦ hm c Lp (fun q hq=>Nat.lt_of_lt_of_le (hbs q hq).1 (Nat.le_of_ble_eq_true c7)) Lq fV ⟨rfl,[],rfl⟩ (st:=Ep N pi x) (H:=H) ⟨hiv,hfr.defers,hfr.size,fun t sv ht=>?_,fun p hp=>(hbs p hp).2,Y,hnd,hsh,fun k hk=>?_,fun k sr hk=>?_⟩ ⟨fun p hp=>(hbs p hp).1,fun j hj=>?_,⟨fun _=>0,fun t=>?_⟩,fun k hk=>(by cases hk),fun s hs=>(by cases hs)⟩ hy fin (fun i M r st η H' a' w' _ _ _ _ h3=>by cases h3) fin)
  ·obtain⟨
       q,hq,rfl,rfl⟩:=CX ht
   obtain⟨v,h1,h2⟩:=i2 q hq
   have:a.tmps.getD q.1 undef=v:=hfr.get q.1 v (by
    have key:∀(us:List Value) (i t:Nat),us[t-i]?=some v->i<=t->lk (Gn i us) t=some v:=by
     intro us
     induction us with
     |nil=>intro i t h;simp at h
     |cons u us ih=>
      intro i t h hle
      simp only[Gn,lk]
      cases hb:Nat.beq i t with
      |true=>
       have:=Nat.eq_of_beq_eq_true hb;subst this
       simp at h;simp[h]
      |false=>
       have ne:=Nat.ne_of_beq_eq_false hb
       refine ih (i+1) t ?_ (by omega)
       rw[show t-i=(t-(i+1))+1 by omega]at h
       simpa using h
    exact key vs 0 q.1 h1 (Nat.zero_le _))
   rw[this];exact h2
  ·rw[i3]at hk
   obtain⟨p,hp,rfl⟩:=List.mem_map.1 hk
   exact hro p hp
  ·unfold Ai at hk
   cases hl:An (Ep N pi x).O k with
   |none=>rw[hl]at hk;cases hk
   |some s0=>
    rw[hl]at hk
    obtain⟨q,hq,e⟩:=List.mem_map.1 (AQ hl)
    cases e
    obtain⟨X,hX,h2⟩:=i4 q hq
    cases hk
    refine .inr ⟨X,hX,?_⟩
    generalize instR N pi.hs x q.2=z at h2
    cases z with
    |BO j=>exact h2.elim
    |_=>exact h2
  ·refine BV fun hm=>?_
   obtain⟨q,hq,rfl⟩:=List.mem_map.1 hm
   obtain⟨z,hz,rfl⟩:=List.mem_map.1 hq
   have:=hro z hz
   have hj:pi.nk<=z.1:=hj
   omega
  ·unfold Bx
   cases ht:An (Ep N pi x).L t with
   |none=>trivial
   |some sv=>
    simp only
    obtain⟨q,hq,rfl,rfl⟩:=CX ht
    have hpl:=List.all_eq_true.1 c3 q hq
    exact inst_pl hpl
end
end Go.GV
namespace Go.GV
open Go Go.GK
section
variable {N : Cw}
def yI(ky:Nat)(ts:List Ty):YL N (List (A3 N ts)×Bool):= {ky:=ky,f:=fun C As k=>match I6 N C ts As with
 |some y=>match k false with
  |some ([],true)=>match k true with
   |some l=>some (y::l.1,l.2)
   |none=>some ([y],false)
  |_=>none
 |none=>none}
def HA:List (Nat×RP)->Nat->List (Nat×SR N.T)
 | [],_=>[]
 |p::l,i=>(p.1, .BO i)::HA l (i+1)
def od(O:List (Nat×SR N.T)):List (Nat×RP)->Nat->Bool
 | [],_=>true
 |p::l,i=>(match An O p.1 with
  |some (.BO j)=>Nat.beq i j
  |_=>false)&&od O l (i+1)
def sw(pi:AY)(ts:List Ty)(st:St N.T):Option (List (A3 N ts)×Bool):=match od st.O pi.ro 0 with
 |true=>some ([],true)
 |false=>none
def Rg(cx:Cx N)(fu:Nat)(f:Func)(pi:AY)(yi:Nat)(ts:List Ty)(x:Bu N pi.hs):Option (List (A3 N ts)×Bool):=match f.body,f.results.toList with
 |some c,[]=>den cx (yI pi.nk ts) fu c (pi.nk+1) false [] (pi.ro.map fun p=>instR N pi.hs x p.2) ⟨(yi, .mp pi.nk)::(Ep N pi x).L,HA pi.ro 0,pi.nk+1⟩ (sw pi ts) (fun _ _=>none) (sw pi ts)
 |_,_=>none
def YR(cx:Cx N)(pi:AY)(yi:Nat):Bool:=(Nat.ble pi.sl.length cx.n&&(Nat.blt yi pi.sl.length&&(pi.sl.all fun p=>p.2.pl)))&&((pi.sl.all fun p=>Nat.blt p.1 pi.sl.length&&p.2.ks.all fun k=>Nat.blt k pi.nk)&&((pi.ro.all fun p=>Nat.blt p.1 pi.nk&&p.2.ks.all fun k=>Nat.blt k pi.nk)&&BF (pi.ro.map (·.1))))
theorem Calls.ofM{P:Program}{n:Nat}{f:FuncId}{fn:Func}{c:Code}{vs:List Value}{w:World}{X:Ending->World->Prop}(hf:P.funcs[f]?=some fn)(hb:fn.body=some c)(hn:fn.ntmps=n)(ha:Nat.ble vs.length n=true)
  (h:∀a,Fr a n (Gn 0 vs)->c.wp P (bodyPostM Fence.wide 0 P fn X) a w):Calls P f vs.toArray w X:=by
 subst hn
 exact(callsIn_wide (n:=0)).1 (callsIn_of_wp_marks hf hb trivial ((wpIn_wide (n:=0)).2 (h _ (Fr.enter vs _ ha))) rf)
theorem MS{CR:List (SR N.T)}{g:Nat×RP->SR N.T} :∀ {l:List (Nat×RP)} {i:Nat},(l.map (·.1)).Nodup->(∀j p,l[j]?=some p->CR[i+j]?=some (g p))->∀p∈l,∃j,An (HA l i:List (Nat×SR N.T)) p.1=some (.BO j)/\CR[j]?=some (g p)
 | [],_,_,_,p,h=>by cases h
 |q::l,i,hn,hc,p,h=>by
  simp only[List.map_cons,List.nodup_cons]at hn
  simp only[HA,An]
  cases hb:Nat.beq q.1 p.1 with
  |true=>
   have e:=Nat.eq_of_beq_eq_true hb
   rcases List.mem_cons.1 h with rfl|h
   ·exact⟨i,rf,by simpa using hc 0 _ rf⟩
   ·exact absurd (List.mem_map.2 ⟨p,h,e.symm⟩) hn.1
  |false=>
   rcases List.mem_cons.1 h with rfl|h
   ·simp at hb
   ·exact MS hn.2 (fun j p hj=>by have:=hc (j+1) p (by simpa using hj);rw[show i+1+j=i+(j+1) by omega];exact this) p h
theorem Gd:∀ {l:List (Nat×RP)} {i:Nat},keys (HA l i:List (Nat×SR N.T))=l.map (·.1)
 | [],_=>rfl
 |p::l,i=>by
  show p.1::keys (HA l (i+1):List (Nat×SR N.T))=_
  rw[Gd];rfl
theorem VL:∀ {l:List (Nat×RP)} {i k:Nat} {s:SR N.T},An (HA l i) k=some s->∃p∈l,p.1=k
 |l,i,k,s,h=>by
  have:=Ce h
  rw[Gd]at this
  obtain⟨p,hp,e⟩:=List.mem_map.1 this
  exact⟨p,hp,e⟩
theorem PE{O:List (Nat×SR N.T)}{CR:List (SR N.T)}{g:Nat×RP->SR N.T} :∀ {l:List (Nat×RP)} {i:Nat},od O l i=true->(∀j p,l[j]?=some p->CR[i+j]?=some (g p))->∀p∈l,Ai CR O p.1=some (g p)
 | [],_,_,_,p,h=>by cases h
 |q::l,i,hi,hc,p,h=>by
  simp only[od,Bool.and_eq_true]at hi
  rcases List.mem_cons.1 h with rfl|h
  ·have h1:=hi.1
   unfold Ai
   split at h1
   ·rename_i j e
    have:=Nat.eq_of_beq_eq_true h1
    subst this
    rw[e]
    have:=hc 0 p rfl
    simp only[Ck,List.getD_eq_getElem?_getD]
    rw[show CR[i]?=some (g p)from this];rfl
   ·cases h1
  ·exact PE hi.2 (fun j p hj=>by have:=hc (j+1) p (by simpa using hj);rw[show i+1+j=i+(j+1) by omega];exact this) p h
def zf{R:Type}(G2:Hp->List Ao->R->Prop):Hp->Fm->R->Prop:=fun H Of r=> ∃M O,Of=Lv O M/\G2 H O r
theorem Vw{cx:Cx N} [mp:Bn N cx.P](hΦ:∀f q,cx.Φ f=some q->A7 cx.P f q)(hm:cx.P.follows .mixedOrders=true){fu f:Nat}{fn:Func}{pi:AY}{yi:Nat}{ts:List Ty}(he:Nb cx.P f)(hf:cx.P.funcs[f]?=some fn)(hn:fn.ntmps=cx.n)(hc:YR cx pi yi=true):G3 cx.P f ⟨pi,yi,ts,Rg cx fu fn pi yi ts⟩:=by
 unfold YR at hc
 simp only[Bool.and_eq_true]at hc
 obtain⟨⟨c1,c2,c3⟩,c4,c5,c6⟩:=hc
 have c6:=Ba c6
 have c2:yi<pi.sl.length:=by simpa using c2
 have c4:∀p∈pi.sl,p.1<pi.sl.length/\∀k∈p.2.ks,k<pi.nk:=fun p hp=>by
  have:=List.all_eq_true.1 c4 p hp
  rw[Bool.and_eq_true]at this
  exact⟨by simpa using this.1,fun k hk=>by simpa using List.all_eq_true.1 this.2 k hk⟩
 have c5:∀p∈pi.ro,p.1<pi.nk/\∀k∈p.2.ks,k<pi.nk:=fun p hp=>by
  have:=List.all_eq_true.1 c5 p hp
  rw[Bool.and_eq_true]at this
  exact⟨by simpa using this.1,fun k hk=>by simpa using List.all_eq_true.1 this.2 k hk⟩
 refine⟨he,fun x ys hys G2 yv hone mono2 no2 yld2 η H O Y vs w hnd i1 i2 hyi i3 i4 hg hiv hsh=>?_⟩
 have i1:vs.length=pi.sl.length:=i1
 have i2:∀p∈pi.sl,∃v,vs[p.1]?=some v/\(inst N pi.hs x p.2).is [] η H v:=i2
 have i3:keys Y=pi.ro.map (·.1):=i3
 have i4:∀p∈pi.ro,∃X,An Y p.1=some X/\(instR N pi.hs x p.2).is [] η H p.1 X:=i4
 have hys:Rg cx fu fn pi yi ts x=some ys:=hys
 unfold Rg at hys
 split at hys
 case h_2=>cases hys
 rename_i c hb hrs
 generalize hCR:(pi.ro.map fun p=>instR N pi.hs x p.2)=CR at hys
 have hcr:∀j p,pi.ro[j]?=some p->CR[0+j]?=some (instR N pi.hs x p.2):=fun j p hj=>by rw[<-hCR,Nat.zero_add,List.getElem?_map,hj];rfl
 obtain⟨η',ηlt,ηy⟩:∃η':Nat->Value,(∀k,k<pi.nk->η' k=η k)/\η' pi.nk=yv:=⟨fun k=>match Nat.beq k pi.nk with
  |true=>yv
  |false=>η k,fun k hk=>by
   cases hb:Nat.beq k pi.nk with
   |true=>have:=Nat.eq_of_beq_eq_true hb;omega
   |false=>simp only[hb],by simp only[Nat.beq_refl]⟩
 obtain⟨bs,hbs,hbm⟩:∃bs:List (Nat×Value),(∀p∈bs,p.1<pi.nk+1/\η' p.1=p.2)/\∀k,k<pi.nk+1->(k,η' k)∈bs:=⟨(List.range (pi.nk+1)).map fun k=>(k,η' k),fun p hp=>by
  obtain⟨k,hk,rfl⟩:=List.mem_map.1 hp
  exact⟨List.mem_range.1 hk,rf⟩,fun k hk=>List.mem_map.2 ⟨k,List.mem_range.2 hk,rf⟩⟩
 obtain⟨G,hGd⟩:∃G:Hp->Fm->List (A3 N ts)×Bool->Prop,G=zf G2:=⟨_,rfl⟩
 have hG:∀H H' Of r,H.le H'->G H Of r->G H' Of r:=by subst hGd;exact fun H H' Of r hle ⟨M,O,e,g⟩=>⟨M,O,e,mono2 _ _ _ _ hle g⟩
 have hY:L3 cx.P bs (yI pi.nk ts) yv G:=by
  subst hGd
  refine⟨fun C As k r _=>?_,fun C As k r Of H gi ⟨M,O,e,g⟩ hf η A vs w h1 h2 h3=>?_⟩
  ·have:=hbm pi.nk (Nat.lt_succ_self _)
   rw[ηy]at this;exact this
  ·subst e
   have hf:(match I6 N C ts As with
    |some y=>match k false with
     |some ([],true)=>match k true with
      |some l=>some (y::l.1,l.2)
      |none=>some ([y],false)
     |_=>none
    |none=>none)=some r:=hf
   split at hf
   ·rename_i y hy
    split at hf
    ·rename_i hk0
     split at hf
     ·rename_i l hk1
      cases hf
      have h3:SH w H ((A++M.map Bh)++O):=by rw[List.append_assoc];exact h3
      refine(yld2 H O y l.1 l.2 gi g (A++M.map Bh) vs w (Gg ts As vs y hy h1 h2) h3).mono fun b w' ⟨H',O',k1,k2,k3⟩=>⟨H',Lv O' M,Is l b,k1,rf,by rw[List.append_assoc]at k2;exact k2,⟨M,O',rf,k3⟩,?_⟩
      cases b with
      |true=>exact hk1
      |false=>exact hk0
     ·cases hf
      have h3:SH w H ((A++M.map Bh)++O):=by rw[List.append_assoc];exact h3
      refine(yld2 H O y [] false gi g (A++M.map Bh) vs w (Gg ts As vs y hy h1 h2) h3).mono fun b w' ⟨H',O',k1,k2,k3⟩=>?_
      cases b with
      |true=>exact absurd k3 (no2 _ _)
      |false=>exact⟨H',Lv O' M,([],true),k1,rfl,by rw[List.append_assoc]at k2;exact k2,⟨M,O',rfl,k3⟩,hk0⟩
    ·cases hf
   ·cases hf
 refine Calls.ofM hf hb hn (by rw[i1];exact c1) fun a hfr=>?_
 have fin:Kn [] CR cx.n G bs H (sw pi ts) (bodyPostM Fence.wide 0 cx.P fn (fun e w'=> ∃v H' O' Y',e= .returned v/\H.le H'/\SH w' H' (Y'.map (·.2)++O')/\keys Y'=pi.ro.map (·.1)/\(∀p∈pi.ro,∃X,An Y' p.1=some X/\(instR N pi.hs x p.2).is [] η H' p.1 X)/\G2 H' O' ([],true)) .ret):=fun Of r st η1 H' a' w' hl hgg h1 _ h3=>by
  rw[hGd]at hgg
  obtain⟨M,O',e,g⟩:=hgg
  subst e
  show LeavesInM _ _ _ _ _ _ a'.defers _ _
  rw[h1.defers]
  refine Fy h1 fun w' h1=>?_
  unfold sw at h3
  split at h3
  case h_2=>cases h3
  rename_i hio
  cases h3
  obtain⟨Y1,y1,y2,y3,y4⟩:=h1.own
  have rr:=PE (CR:=CR) (g:=fun p=>instR N pi.hs x p.2) hio hcr
  have hx:∀p∈pi.ro,∃X,An Y1 p.1=some X/\(instR N pi.hs x p.2).is [] η H' p.1 X:=fun p hp=>by
   rcases y4 p.1 _ (rr p hp)with e|⟨X,x1,x2⟩
   ·obtain⟨X,_,hX⟩:=i4 p hp
    rw[e]at hX;exact hX.elim
   ·have bb:∀k,k<pi.nk->η k=η1 k:=fun k hk=>by
     have:=h1.base (k,η' k) (hbm k (by omega))
     have this:η1 k=η' k:=this
     rw[this,ηlt k hk]
    exact⟨X,x1,SR.is.env (bb p.1 (c5 p hp).1) (fun k hk=>by cases hk) (fun k hk=>bb k ((c5 p hp).2 k (instR_ment _ _ _ k hk))) x2⟩
  refine⟨.tuple #[],?_, .tuple #[],H',O',pi.ro.map (fun p=>(p.1,(An Y1 p.1).getD .emp)),rf,hl,?_,?_,fun p hp=>?_,g⟩
  ·rw[GM]
   have:fn.results= #[]:=by simpa using hrs
   rw[this];simp
  ·refine SH.O3 (by simpa [Lv]using y2) ?_ fun p hp=>?_
   ·unfold keys;rw[List.map_map];exact c6
   ·obtain⟨z,hz,rfl⟩:=List.mem_map.1 hp
    obtain⟨X,x1,_⟩:=hx z hz
    simp only[x1,Option.getD_some]
  ·unfold keys;rw[List.map_map];rfl
  ·obtain⟨X,x1,x2⟩:=hx p hp
   refine⟨X,?_,x2⟩
   have nd:(keys (pi.ro.map (fun p=>(p.1,(An Y1 p.1).getD .emp)))).Nodup:=by unfold keys;rw[List.map_map];exact c6
   rw[Cc nd (List.mem_map.2 ⟨p,hp,rfl⟩),x1];rfl
 have key:∀(us:List Value) (i t:Nat) (v:Value),us[t-i]?=some v->i<=t->lk (Gn i us) t=some v:=by
  intro us
  induction us with
  |nil=>intro i t v h;simp at h
  |cons u us ih=>
   intro i t v h hle
   simp only[Gn,lk]
   cases hb:Nat.beq i t with
   |true=>
    have:=Nat.eq_of_beq_eq_true hb;subst this
    simp at h;simp[h]
   |false=>
    have ne:=Nat.ne_of_beq_eq_false hb
    refine ih (i+1) t v ?_ (by omega)
    rw[show t-i=(t-(i+1))+1 by omega]at h
    simpa using h
 refine wpIn_wide.1 (BI (bs:=bs) (G:=G) (Of:=Lv O []) (r:=ys) (ro:=none) (yv:=yv) (η:=η') (H:=H) hΦ hm c (fun _=>⟨rfl,by subst hGd;exact fun _ _ _ D ⟨M,O,e,g⟩=>⟨D::M,O,by subst e;rfl,g⟩⟩) (fun q hq=>(hbs q hq).1) hG hY (by subst hGd;exact⟨[],O,rfl,hg⟩) (st:=⟨(yi, .mp pi.nk)::(Ep N pi x).L,HA pi.ro 0,pi.nk+1⟩) ⟨hiv,hfr.defers,hfr.size,fun t sv ht=>?_,fun p hp=>(hbs p hp).2,Y,hnd,by simpa [Lv]using hsh,fun k hk=>?_,fun k sr hk=>?_⟩ ⟨fun p hp=>(hbs p hp).1,fun j hj=>?_,⟨fun _=>0,fun t=>?_⟩,fun k hk=>(by cases hk),fun s hs=>(by cases hs)⟩ hys fin (fun i Of r st η H' a' w' _ _ _ _ h3=>by cases h3) fin)
 ·simp only[An]at ht
  cases hb2:Nat.beq yi t with
  |true=>
   rw[hb2]at ht;cases ht
   have:=Nat.eq_of_beq_eq_true hb2;subst this
   rw[hfr.get yi yv (key vs 0 yi yv hyi (Nat.zero_le _))]
   exact⟨ηy.symm,hone⟩
  |false=>
   rw[hb2]at ht
   obtain⟨q,hq,rfl,rfl⟩:=CX ht
   obtain⟨v,h1,h2⟩:=i2 q hq
   rw[hfr.get q.1 v (key vs 0 q.1 v h1 (Nat.zero_le _))]
   have:(inst N pi.hs x q.2).is [] η' H v:=h2.env (fun k hk=>by cases hk) (fun k hk=>ηlt k ((c4 q hq).2 k (by rw[<-inst_ment];exact hk)))
   exact SV.Bo.imp (fun j v ⟨s,e,h⟩=>by simp at e) this
 ·rw[i3]at hk
  obtain⟨p,hp,rfl⟩:=List.mem_map.1 hk
  show p.1<pi.nk+1
  have:=(c5 p hp).1
  omega
 ·unfold Ai at hk
  split at hk
  ·rename_i s hs
   cases hk
   obtain⟨p,hp,rfl⟩:=VL hs
   obtain⟨j,e1,e2⟩:=MS (CR:=CR) (g:=fun p=>instR N pi.hs x p.2) c6 hcr p hp
   have hs:An (HA pi.ro 0) p.1=some s:=hs
   rw[e1]at hs
   cases hs
   obtain⟨X,x1,x2⟩:=i4 p hp
   refine .inr ⟨X,x1,?_⟩
   simp only[Ck,List.getD_eq_getElem?_getD,e2,Option.getD_some]
   exact SR.is.env (ηlt p.1 (c5 p hp).1) (fun k hk=>by cases hk) (fun k hk=>ηlt k ((c5 p hp).2 k (instR_ment _ _ _ k hk))) x2
  ·cases hk
 ·refine BV fun hm=>?_
  have hm:j∈keys (HA pi.ro 0:List (Nat×SR N.T)):=hm
  rw[Gd]at hm
  obtain⟨p,hp,rfl⟩:=List.mem_map.1 hm
  have:=(c5 p hp).1
  have hj:pi.nk+1<=p.1:=hj
  omega
 ·unfold Bx
  simp only[An]
  cases hb2:Nat.beq yi t with
  |true=>trivial
  |false=>
   simp only
   cases ht:An (Ep N pi x).L t with
   |none=>trivial
   |some sv=>
    simp only
    obtain⟨q,hq,rfl,rfl⟩:=CX ht
    have hpl:=List.all_eq_true.1 c3 q hq
    exact inst_pl hpl
end
end Go.GV
namespace Go.GV
open Go Go.GK
section
variable {N : Cw}
def yJ(ky:Nat)(ts:List Ty):YL N (List (A3 N ts)×Option Bool):= {ky:=ky,f:=fun C As k=>match I6 N C ts As with
 |some y=>match k false with
  |some ([],some false)=>match k true with
   |some r=>some (y::r.1,r.2)
   |none=>some ([y],none)
  |_=>none
 |none=>none}
def su(P:Program)(CR:List (SR N.T))(l:List ResultVar)(rb:Bool)(pi:AY)(ts:List Ty)(st:St N.T):Option (List (A3 N ts)×Option Bool):=match od st.O pi.ro 0 with
 |true=>match rb with
  |true=>match Sb P [] CR st [.bool] l with
   |some b=>some ([],some b)
   |none=>none
  |false=>match Sb P [] CR st [] l with
   |some _=>some ([],some false)
   |none=>none
 |false=>none
def Rf(cx:Cx N)(fu:Nat)(f:Func)(pi:AY)(ky:Nat)(ts:List Ty)(rb:Bool)(x:Bu N pi.hs):Option (List (A3 N ts)×Option Bool):=match f.body with
 |some c=>den cx (yJ ky ts) fu c pi.nk false [] (pi.ro.map fun p=>instR N pi.hs x p.2) ⟨(Ep N pi x).L,HA pi.ro 0,pi.nk⟩ (su cx.P (pi.ro.map fun p=>instR N pi.hs x p.2) f.results.toList rb pi ts) (fun _ _=>none) (su cx.P (pi.ro.map fun p=>instR N pi.hs x p.2) f.results.toList rb pi ts)
 |none=>none
def YQ(cx:Cx N)(pi:AY)(ky:Nat):Bool:=(Nat.ble pi.sl.length cx.n&&(Nat.blt ky pi.nk&&(pi.sl.all fun p=>p.2.pl)))&&((pi.sl.all fun p=>Nat.blt p.1 pi.sl.length&&p.2.ks.all fun k=>Nat.blt k pi.nk)&&((pi.ro.all fun p=>Nat.blt p.1 pi.nk&&p.2.ks.all fun k=>Nat.blt k pi.nk)&&BF (pi.ro.map (·.1))))
theorem Vv{cx:Cx N} [mp:Bn N cx.P](hΦ:∀f q,cx.Φ f=some q->A7 cx.P f q)(hm:cx.P.follows .mixedOrders=true){fu f:Nat}{fn:Func}{pi:AY}{ky:Nat}{ts:List Ty}{rb:Bool}(he:Nb cx.P f)(hf:cx.P.funcs[f]?=some fn)(hn:fn.ntmps=cx.n)(hc:YQ cx pi ky=true):G1 cx.P f ⟨pi,ky,ts,rb,Rf cx fu fn pi ky ts rb⟩:=by
 unfold YQ at hc
 simp only[Bool.and_eq_true]at hc
 obtain⟨⟨c1,c2,c3⟩,c4,c5,c6⟩:=hc
 have c6:=Ba c6
 have c2:ky<pi.nk:=by simpa using c2
 have c4:∀p∈pi.sl,p.1<pi.sl.length/\∀k∈p.2.ks,k<pi.nk:=fun p hp=>by
  have:=List.all_eq_true.1 c4 p hp
  rw[Bool.and_eq_true]at this
  exact⟨by simpa using this.1,fun k hk=>by simpa using List.all_eq_true.1 this.2 k hk⟩
 have c5:∀p∈pi.ro,p.1<pi.nk/\∀k∈p.2.ks,k<pi.nk:=fun p hp=>by
  have:=List.all_eq_true.1 c5 p hp
  rw[Bool.and_eq_true]at this
  exact⟨by simpa using this.1,fun k hk=>by simpa using List.all_eq_true.1 this.2 k hk⟩
 refine⟨he,fun x ys hys η G2 mono2 no2 yld2 H O Y vs w hnd i1 i2 i3 i4 hg hiv hsh=>?_⟩
 have i1:vs.length=pi.sl.length:=i1
 have i2:∀p∈pi.sl,∃v,vs[p.1]?=some v/\(inst N pi.hs x p.2).is [] η H v:=i2
 have i3:keys Y=pi.ro.map (·.1):=i3
 have i4:∀p∈pi.ro,∃X,An Y p.1=some X/\(instR N pi.hs x p.2).is [] η H p.1 X:=i4
 have hys:Rf cx fu fn pi ky ts rb x=some ys:=hys
 unfold Rf at hys
 split at hys
 case h_2=>cases hys
 rename_i c hb
 generalize hCR:(pi.ro.map fun p=>instR N pi.hs x p.2)=CR at hys
 have hcr:∀j p,pi.ro[j]?=some p->CR[0+j]?=some (instR N pi.hs x p.2):=fun j p hj=>by rw[<-hCR,Nat.zero_add,List.getElem?_map,hj];rfl
 obtain⟨bs,hbs,hbm⟩:∃bs:List (Nat×Value),(∀p∈bs,p.1<pi.nk/\η p.1=p.2)/\∀k,k<pi.nk->(k,η k)∈bs:=⟨(List.range pi.nk).map fun k=>(k,η k),fun p hp=>by
  obtain⟨k,hk,rfl⟩:=List.mem_map.1 hp
  exact⟨List.mem_range.1 hk,rf⟩,fun k hk=>List.mem_map.2 ⟨k,List.mem_range.2 hk,rf⟩⟩
 obtain⟨G,hGd⟩:∃G:Hp->Fm->List (A3 N ts)×Option Bool->Prop,G=zf G2:=⟨_,rfl⟩
 have hG:∀H H' Of r,H.le H'->G H Of r->G H' Of r:=by subst hGd;exact fun H H' Of r hle ⟨M,O,e,g⟩=>⟨M,O,e,mono2 _ _ _ _ hle g⟩
 have hY:L3 cx.P bs (yJ ky ts) (η ky) G:=by
  subst hGd
  refine⟨fun C As k r _=>hbm ky c2,fun C As k r Of H gi ⟨M,O,e,g⟩ hf η A vs w h1 h2 h3=>?_⟩
  subst e
  have hf:(match I6 N C ts As with
   |some y=>match k false with
    |some ([],some false)=>match k true with
     |some r=>some (y::r.1,r.2)
     |none=>some ([y],none)
    |_=>none
   |none=>none)=some r:=hf
  split at hf
  ·rename_i y hy
   split at hf
   ·rename_i hk0
    split at hf
    ·rename_i l hk1
     cases hf
     have h3:SH w H ((A++M.map Bh)++O):=by rw[List.append_assoc];exact h3
     refine(yld2 H O y l.1 l.2 gi g (A++M.map Bh) vs w (Gg ts As vs y hy h1 h2) h3).mono fun b w' ⟨H',O',k1,k2,k3⟩=>⟨H',Lv O' M,o7 l.1 l.2 b,k1,rf,by rw[List.append_assoc]at k2;exact k2,⟨M,O',rf,k3⟩,?_⟩
     cases b with
     |true=>exact hk1
     |false=>exact hk0
    ·cases hf
     have h3:SH w H ((A++M.map Bh)++O):=by rw[List.append_assoc];exact h3
     refine(yld2 H O y [] none gi g (A++M.map Bh) vs w (Gg ts As vs y hy h1 h2) h3).mono fun b w' ⟨H',O',k1,k2,k3⟩=>?_
     cases b with
     |true=>exact absurd k3 (no2 _ _)
     |false=>exact⟨H',Lv O' M,([],some false),k1,rfl,by rw[List.append_assoc]at k2;exact k2,⟨M,O',rfl,k3⟩,hk0⟩
   ·cases hf
  ·cases hf
 refine Calls.ofM hf hb hn (by rw[i1];exact c1) fun a hfr=>?_
 have fin:Kn [] CR cx.n G bs H (su cx.P CR fn.results.toList rb pi ts) (bodyPostM Fence.wide 0 cx.P fn (fun e w'=> ∃v H' O' Y' b,e= .returned v/\H.le H'/\SH w' H' (Y'.map (·.2)++O')/\keys Y'=pi.ro.map (·.1)/\(∀p∈pi.ro,∃X,An Y' p.1=some X/\(instR N pi.hs x p.2).is [] η H' p.1 X)/\G2 H' O' ([],some b)/\(rb=true->v= .bool b)) .ret):=fun Of r st η1 H' a' w' hl hgg h1 _ h3=>by
  rw[hGd]at hgg
  obtain⟨M,O',e,g⟩:=hgg
  subst e
  show LeavesInM _ _ _ _ _ _ a'.defers _ _
  rw[h1.defers]
  refine Fy h1 fun w' h1=>?_
  unfold su at h3
  split at h3
  case h_2=>cases h3
  rename_i hio
  obtain⟨b,v,rfl,hv,hrun⟩:∃b v,r=([],some b)/\(rb=true->v= .bool b)/\(results fn a'.tmps).run cx.P w'= .ok v w':=by
   split at h3
   ·split at h3
    ·rename_i b hb
     cases h3
     obtain⟨v,k1,k2⟩:=JY h1 hb
     obtain⟨cs,e1,e2⟩:=k2
     have e1:cs=[.bool b]:=e1
     subst e1
     have e2:[Value.bool b]=[v]:=e2
     cases e2
     exact⟨b,_,rf,fun _=>rfl,k1⟩
    ·cases h3
   ·split at h3
    ·rename_i b hb
     cases h3
     obtain⟨v,k1,k2⟩:=JY h1 hb
     exact⟨false,v,rfl,(fun e=>by cases e),k1⟩
    ·cases h3
  obtain⟨Y1,y1,y2,y3,y4⟩:=h1.own
  have rr:=PE (CR:=CR) (g:=fun p=>instR N pi.hs x p.2) hio hcr
  have hx:∀p∈pi.ro,∃X,An Y1 p.1=some X/\(instR N pi.hs x p.2).is [] η H' p.1 X:=fun p hp=>by
   rcases y4 p.1 _ (rr p hp)with e|⟨X,x1,x2⟩
   ·obtain⟨X,_,hX⟩:=i4 p hp
    rw[e]at hX;exact hX.elim
   ·have bb:∀k,k<pi.nk->η k=η1 k:=fun k hk=>by
     have:=h1.base (k,η k) (hbm k hk)
     exact this.symm
    exact⟨X,x1,SR.is.env (bb p.1 (c5 p hp).1) (fun k hk=>by cases hk) (fun k hk=>bb k ((c5 p hp).2 k (instR_ment _ _ _ k hk))) x2⟩
  refine⟨v,hrun,v,H',O',pi.ro.map (fun p=>(p.1,(An Y1 p.1).getD .emp)),b,rf,hl,?_,?_,fun p hp=>?_,g,hv⟩
  ·refine SH.O3 (by simpa [Lv]using y2) ?_ fun p hp=>?_
   ·unfold keys;rw[List.map_map];exact c6
   ·obtain⟨z,hz,rfl⟩:=List.mem_map.1 hp
    obtain⟨X,x1,_⟩:=hx z hz
    simp only[x1,Option.getD_some]
  ·unfold keys;rw[List.map_map];rfl
  ·obtain⟨X,x1,x2⟩:=hx p hp
   refine⟨X,?_,x2⟩
   have nd:(keys (pi.ro.map (fun p=>(p.1,(An Y1 p.1).getD .emp)))).Nodup:=by unfold keys;rw[List.map_map];exact c6
   rw[Cc nd (List.mem_map.2 ⟨p,hp,rfl⟩),x1];rfl
 have key:∀(us:List Value) (i t:Nat) (v:Value),us[t-i]?=some v->i<=t->lk (Gn i us) t=some v:=by
  intro us
  induction us with
  |nil=>intro i t v h;simp at h
  |cons u us ih=>
   intro i t v h hle
   simp only[Gn,lk]
   cases hb:Nat.beq i t with
   |true=>
    have:=Nat.eq_of_beq_eq_true hb;subst this
    simp at h;simp[h]
   |false=>
    have ne:=Nat.ne_of_beq_eq_false hb
    refine ih (i+1) t v ?_ (by omega)
    rw[show t-i=(t-(i+1))+1 by omega]at h
    simpa using h
 refine wpIn_wide.1 (BI (bs:=bs) (G:=G) (Of:=Lv O []) (r:=ys) (ro:=none) (yv:=η ky) (η:=η) (H:=H) hΦ hm c (fun _=>⟨rfl,by subst hGd;exact fun _ _ _ D ⟨M,O,e,g⟩=>⟨D::M,O,by subst e;rfl,g⟩⟩) (fun q hq=>(hbs q hq).1) hG hY (by subst hGd;exact⟨[],O,rfl,hg⟩) (st:=⟨(Ep N pi x).L,HA pi.ro 0,pi.nk⟩) ⟨hiv,hfr.defers,hfr.size,fun t sv ht=>?_,fun p hp=>(hbs p hp).2,Y,hnd,by simpa [Lv]using hsh,fun k hk=>?_,fun k sr hk=>?_⟩ ⟨fun p hp=>(hbs p hp).1,fun j hj=>?_,⟨fun _=>0,fun t=>?_⟩,fun k hk=>(by cases hk),fun s hs=>(by cases hs)⟩ hys fin (fun i Of r st η H a' w' _ _ _ _ h3=>by cases h3) fin)
 ·obtain⟨q,hq,rfl,rfl⟩:=CX ht
  obtain⟨v,h1,h2⟩:=i2 q hq
  rw[hfr.get q.1 v (key vs 0 q.1 v h1 (Nat.zero_le _))]
  exact SV.Bo.imp (fun j v ⟨s,e,h⟩=>by simp at e) h2
 ·rw[i3]at hk
  obtain⟨p,hp,rfl⟩:=List.mem_map.1 hk
  exact(c5 p hp).1
 ·unfold Ai at hk
  split at hk
  ·rename_i s hs
   cases hk
   obtain⟨p,hp,rfl⟩:=VL hs
   obtain⟨j,e1,e2⟩:=MS (CR:=CR) (g:=fun p=>instR N pi.hs x p.2) c6 hcr p hp
   have hs:An (HA pi.ro 0) p.1=some s:=hs
   rw[e1]at hs
   cases hs
   obtain⟨X,x1,x2⟩:=i4 p hp
   refine .inr ⟨X,x1,?_⟩
   simp only[Ck,List.getD_eq_getElem?_getD,e2,Option.getD_some]
   exact x2
  ·cases hk
 ·refine BV fun hm=>?_
  have hm:j∈keys (HA pi.ro 0:List (Nat×SR N.T)):=hm
  rw[Gd]at hm
  obtain⟨p,hp,rfl⟩:=List.mem_map.1 hm
  have:=(c5 p hp).1
  have hj:pi.nk<=p.1:=hj
  omega
 ·unfold Bx
  cases ht:An (Ep N pi x).L t with
  |none=>simp only[ht];trivial
  |some sv=>
   simp only[ht]
   obtain⟨q,hq,rfl,rfl⟩:=CX ht
   have hpl:=List.all_eq_true.1 c3 q hq
   exact inst_pl hpl
end
end Go.GV
namespace Go.GV
open Go Go.GK
def cE(n:Nat):Cd Empty where
 sz:=n
 Bm _ x _:=x.elim
 len {_ x _} _:=x.elim
 mono {_ _ x _} _ _:=x.elim
 one {_ x _} _:=x.elim
def zg:List (Nat×Nat)->Nat->Option Nat
 | [],_=>none
 |(t,i)::l,u=>match Nat.beq u t with
  |true=>some i
  |false=>zg l u
end Go.GV
namespace Go.GV
open Go Go.GK
section
variable {X : Type} {s : Nat}
abbrev I5(c:Cd X)(t:Ty):Cd (t.den fun _=>X):=OA (T:=fun _=>X) (fun _=>c) t
def TF(s:Nat):Ty->Nat
 | .st t=>TF s t
 | .pr a b=>TF s a+TF s b
 | .un=>0
 | .bs=>4
 | .nm _=>s
 | .ar n t=>n*TF s t
 |_=>1
theorem Es{c:Cd X}(h:c.sz=s):∀t,(I5 c t).sz=TF s t
 | .int k=>by cases k<;>rfl
 | .bool=>rfl
 | .str=>rfl
 | .sl _=>rfl
 | .st t=>Es h t
 | .pr a b=>by show(I5 c a).sz+(I5 c b).sz=_;rw[Es h a,Es h b];rfl
 | .un=>rfl
 | .bs=>rfl
 | .nm i=>h
 | .ar n t=>by show n*(I5 c t).sz=_;rw[Es h t];rfl
theorem Hi{α:Type}{c d:Cd α}{H:Hp}(h:∀a cs,c.Bm H a cs->d.Bm H a cs):∀ {l:List α} {xs:List Value},AM c H l xs->AM d H l xs
 | [],_,k=>k
 |_::_,_,⟨cs,ys,e,k1,k2⟩=>⟨cs,ys,e,h _ _ k1,Hi h k2⟩
theorem Xi{α:Type}{c d:Cd α}{H:Hp}(hs:c.sz=d.sz)(h:∀a cs,c.Bm H a cs->d.Bm H a cs){l:List α}{v:Value}(k:Fa c H l v):Fa d H l v:=by
 obtain⟨⟨xs,k1,k2⟩,k3⟩:=k
 exact⟨⟨xs,hs▸k1,Hi h k2⟩,k3⟩
theorem Ej{c d:Cd X}(hs:c.sz=d.sz){H:Hp}(h:∀a cs,c.Bm H a cs->d.Bm H a cs):∀(t:Ty) (a:t.den fun _=>X) (cs:List Value),(I5 c t).Bm H a cs->(I5 d t).Bm H a cs
 | .int _,_,_,k=>k
 | .bool,_,_,k=>k
 | .str,_,_,k=>k
 | .sl t,_,_,⟨v,e,k⟩=>⟨v,e,Xi (by rw[Es hs t,Es rfl t]) (Ej hs h t) k⟩
 | .st t,a,cs,k=>Ej hs h t a cs k
 | .pr t u,_,_,⟨c1,c2,e,k1,k2⟩=>⟨c1,c2,e,Ej hs h t _ _ k1,Ej hs h u _ _ k2⟩
 | .un,_,_,k=>k
 | .bs,_,_,k=>k
 | .nm _,a,cs,k=>h a cs k
 | .ar _ t,_,_,k=>⟨k.1,Hi (Ej hs h t) k.2⟩
variable (B : Ty) (out : X -> B.den fun _ => X) (hB : TF s B = s)
def cF:Nat-> {c:Cd X//c.sz=s}
 |0=>⟨⟨s,fun _ _ _=>False,fun h=>h.elim,fun _ h=>h,fun h=>h.elim⟩,rfl⟩
 |n+1=>⟨⟨s,fun H a cs=>(I5 (cF n).1 B).Bm H (out a) cs,fun h=>by rw[<-hB,<-Es (cF n).2 B];exact(I5 _ B).len h,fun hl h=>(I5 _ B).mono hl h,fun h=>(I5 _ B).one h⟩,rfl⟩
theorem RA{H:Hp} :∀ {n:Nat} {a:X} {cs:List Value},(cF B out hB n).1.Bm H a cs->(cF B out hB (n+1)).1.Bm H a cs
 |0,_,_,h=>h.elim
 |n+1,_,_,h=>Ej ((cF B out hB n).2.trans (cF B out hB (n+1)).2.symm) (fun _ _=>RA) B _ _ h
theorem oQ{H:Hp}{n m:Nat}(h:n<=m){a:X}{cs:List Value}(k:(cF B out hB n).1.Bm H a cs):(cF B out hB m).1.Bm H a cs:=by
 induction h with
 |refl=>exact k
 |step _ ih=>exact RA B out hB ih
def S3:Cd X where
 sz:=s
 Bm H a cs:= ∃n,(cF B out hB n).1.Bm H a cs
 len h:=by obtain⟨n,h⟩:=h;rw[(cF B out hB n).1.len h];exact(cF B out hB n).2
 mono hl h:=by obtain⟨n,h⟩:=h;exact⟨n,(cF B out hB n).1.mono hl h⟩
 one h:=by obtain⟨n,h⟩:=h;exact(cF B out hB n).1.one h
theorem Kh{α:Type}{H:Hp}{c:Nat->Cd α}{d:Cd α}(up:∀ {n m:Nat},n<=m->∀a cs,(c n).Bm H a cs->(c m).Bm H a cs)(h:∀a cs,d.Bm H a cs->∃n,(c n).Bm H a cs):∀ {l:List α} {xs:List Value},AM d H l xs->∃n,AM (c n) H l xs
 | [],_,k=>⟨0,k⟩
 |_::_,_,⟨cs,ys,e,k1,k2⟩=>by
  obtain⟨n,k1⟩:=h _ _ k1
  obtain⟨m,k2⟩:=Kh up h k2
  exact⟨max n m,cs,ys,e,up (Nat.le_max_left ..) _ _ k1,Hi (up (Nat.le_max_right ..)) k2⟩
theorem Qk{H:Hp}(t:Ty){n m:Nat}(h:n<=m)(a:t.den fun _=>X)(cs:List Value)(k:(I5 (cF B out hB n).1 t).Bm H a cs):(I5 (cF B out hB m).1 t).Bm H a cs:=Ej ((cF B out hB n).2.trans (cF B out hB m).2.symm) (fun _ _=>oQ B out hB h) t a cs k
theorem Ge{H:Hp} :∀(t:Ty) (a:t.den fun _=>X) (cs:List Value),(I5 (S3 B out hB) t).Bm H a cs->∃n,(I5 (cF B out hB n).1 t).Bm H a cs
 | .int _,_,_,k=>⟨0,k⟩
 | .bool,_,_,k=>⟨0,k⟩
 | .str,_,_,k=>⟨0,k⟩
 | .sl t,_,_,⟨v,e,⟨xs,k1,k2⟩,k3⟩=>by
  obtain⟨n,k2⟩:=Kh (c:=fun n=>I5 (cF B out hB n).1 t) (Qk B out hB t) (Ge t) k2
  refine⟨n,v,e,⟨xs,?_,k2⟩,k3⟩
  rw[Es (cF B out hB n).2 t]
  rw[Es (s:=s) (c:=S3 B out hB) rfl t]at k1
  exact k1
 | .st t,a,cs,k=>Ge t a cs k
 | .pr t u,_,_,⟨c1,c2,e,k1,k2⟩=>by
  obtain⟨n,k1⟩:=Ge t _ _ k1
  obtain⟨m,k2⟩:=Ge u _ _ k2
  exact⟨max n m,c1,c2,e,Qk B out hB t (Nat.le_max_left ..) _ _ k1,Qk B out hB u (Nat.le_max_right ..) _ _ k2⟩
 | .un,_,_,k=>⟨0,k⟩
 | .bs,_,_,k=>⟨0,k⟩
 | .nm _,_,_,k=>k
 | .ar _ t,_,_,⟨k1,k2⟩=>by
  obtain⟨n,k2⟩:=Kh (c:=fun n=>I5 (cF B out hB n).1 t) (Qk B out hB t) (Ge t) k2
  exact⟨n,k1,k2⟩
theorem VY{H:Hp}{a:X}{cs:List Value} :(S3 B out hB).Bm H a cs↔(I5 (S3 B out hB) B).Bm H (out a) cs:=by
 constructor
 ·rintro⟨n,h⟩
  cases n with
  |zero=>exact h.elim
  |succ n=>exact Ej (c:=(cF B out hB n).1) (d:=S3 B out hB) (cF B out hB n).2 (fun _ _ k=>⟨n,k⟩) B _ _ h
 ·intro h
  obtain⟨n,h⟩:=Ge B out hB B _ _ h
  exact⟨n+1,h⟩
end
abbrev AW:=List (Bool×List (Int×Int×Int))
abbrev CA:=List (Int×Int)×List (Int×Int)
abbrev Gy:=Bool×Bool×Bool×CA×AW
inductive Vl where
 |mk (any:Bool) (sc:Gy) (lists:List (List (Vl×Vl)×List (Vl×Vl))) (structs:List (List (Ax×Int×Vl×Vl)×List (AW×Vl×Vl)))
def Vl.any:Vl->Bool| .mk a _ _ _=>a
def Vl.sc:Vl->Gy| .mk _ s _ _=>s
def Vl.lists:Vl->List (List (Vl×Vl)×List (Vl×Vl))| .mk _ _ l _=>l
def Vl.structs:Vl->List (List (Ax×Int×Vl×Vl)×List (AW×Vl×Vl))| .mk _ _ _ l=>l
abbrev yR:Ty:= .st (.pr (.int .i64) (.int .i64))
abbrev nR:Ty:= .st (.pr (.sl yR) (.sl yR))
abbrev U7:Ty:= .st (.sl (.st (.pr .bool (.sl (.st (.pr (.int .u8) (.pr (.int .u8) (.int .i64))))))))
abbrev ua:Ty:= .st (.pr .bool (.pr .bool (.pr .bool (.pr nR U7))))
abbrev RV:Ty:= .st (.pr (.nm 0) (.nm 0))
abbrev uE:Ty:= .st (.pr (.sl RV) (.sl RV))
abbrev vfB:Ty:= .st (.pr .str (.pr (.int .i64) RV))
abbrev uW:Ty:= .st (.pr U7 RV)
abbrev dZ:Ty:= .st (.pr (.sl vfB) (.sl uW))
abbrev mD:Ty:= .st (.pr .bool (.pr ua (.pr (.sl uE) (.sl dZ))))
def m_(x:Vl):Bool×Gy×List (List (Vl×Vl)×List (Vl×Vl))×List (List (Ax×Int×Vl×Vl)×List (AW×Vl×Vl)):=(x.any,x.sc,x.lists,x.structs)
def yO(p:Bool×Gy×List (List (Vl×Vl)×List (Vl×Vl))×List (List (Ax×Int×Vl×Vl)×List (AW×Vl×Vl))):Vl:= .mk p.1 p.2.1 p.2.2.1 p.2.2.2
def Rz:Cd Vl:=S3 (s:=9) mD m_ rfl
theorem TO{H:Hp}{a:Vl}{cs:List Value} :Rz.Bm H a cs↔(I5 Rz mD).Bm H (m_ a) cs:=VY mD m_ rfl
abbrev tV:Nat->Type
 |0=>Vl
 |_=>Empty
def nV(ids:List (Nat×Nat))(s1:Nat):Cw where
 T:=tV
 body|0=>mD|i+1=> .nm (i+1)
 out|0,x=>m_ x|_+1,x=>x
 og|0,p=>yO p|_+1,p=>p
 size|0=>9|_+1=>s1
 id u:=zg ids u
 cd|0=>Rz|_+1=>cE s1
 size_eq|0=>rfl|_+1=>rfl
 Jh|0,_=>rfl|_+1,_=>rfl
 lay {i H a cs} :=match i,a with
  |0,a=>TO
  |i+1,a=>a.elim
end Go.GV
namespace Go.Proofs
open Go.Shelf Go.RowKit Go.Sort Go.Lib
variable {P : Program} {ρ : Ren}
def Wh(w:World)(v v':Value):Prop:=v'.ownBlock=v.ownBlock\/∀b,v'.ownBlock=some b->w.heap.size<=b
theorem Ko{w w1 w2:World}{row:Option Nat}(h:w.grownBy w1 none)(k:w1.grownBy w2 row):w.grownBy w2 row:=by
 obtain⟨a1,a2,a3,a4,a5⟩:=h
 obtain⟨b1,b2,b3,b4,b5⟩:=k
 exact⟨b1.trans a1,b2.trans a2,b3.trans a3,Nat.le_trans a4 b4,fun b hb hr=>(b5 b (Nat.lt_of_lt_of_le hb a4) hr).trans (a5 b hb (by simp))⟩
theorem G7{w:World}{ops:Array Oper}{rest:List Oper}{o:Oper}{a:Act}{Q:Exit->Act->World->Prop}(hgd:o.guard=none)(s x:Operand)(t:TypeId)
  (ho:o.op= .call {callee:= .builtin .append,args:= #[s,x],argTypes:= #[t,t]})
  (e:TypeId) (ii:TypeInfo) (z:Value) (ht:P.underlying t=some (.slice e)) (hii:P.info? e=some ii) (g3:ii.zero=some z)
  (g1:ii.size=1) (g2:ii.bytes=1) (hzs:z.cells.size=1)
  (v:Value) (m:Nat) (xs:List Value) (hs:a.eval s=v) (hown:w.ownsRow 0 e 1 v m xs)
  (ad:Addr) (m' c:Nat) (news:List Value) (hx:a.eval x= .slice (some ad) m' c) (hlen:news.length=m') (hcells:∀j u,news[j]?=some u->w.cell? (ad.add j)=some u) (h1:∀u∈news,u.oneCell'=true)
  (hl:m+m'<=140737488355328)
  (h:∀v' w',w'.ownsRow 0 e 1 v' (m+m') (xs++news)->w.grownBy w' v.ownBlock->Wh w v v'->wpList P ops Q rest (a.put o.dst v') w'):wpList P ops Q (o::rest) a w:=by
 refine wpList_plain hgd fun K hK=>?_
 have hlen':news.length=m'*1:=by omega
 obtain⟨v',w',hr,k1,k2,k3⟩:=run_append_own (P:=P) w 0 t o.type e ii z 1 1 ht hii g3 g1 g2 hzs (by decide) v m xs hown ad m' c news hlen' hcells h1 (by simp only[maxLen];omega) (by omega) (Nat.zero_le _)
 unfold Oper.wp
 simp[execOp,ho,resolve,invoke,builtin,hs,hx,hr,Result.andThen]
 refine hK _ _ (h v' w' k1 k2 ?_)
 rcases hown.2 with⟨rfl,rfl⟩|⟨g,cap,cur,rfl,_,hg,hnc,_,hcs,htake⟩
 ·right
  have hx0:xs=[]:=List.eq_nil_of_length_eq_zero (by simpa using hown.1)
  subst hx0
  obtain⟨v2,w2,hr2,q1,_,_⟩:=run_append_own (P:=P) w w.heap.size t o.type e ii z 1 1 ht hii g3 g1 g2 hzs (by decide) (.slice none 0 0) 0 [] (World.ownsRow_nil w _ e _) ad m' c news hlen' hcells h1 (by simp only[maxLen];omega) (by omega) (Nat.le_refl _)
  rw[hr]at hr2
  injection hr2 with e1 e2
  subst e1;subst e2
  exact fun b hb=>(World.ownsRow.lt q1 b hb).1
 ·by_cases hroom:m+m'<=cap
  ·left
   have hr2:=run_append_room (P:=P) w t o.type e ii ht hii g m cap cur hg ad m' c news (by rw[g1];exact hlen') hcells h1 hroom (by rw[g1];omega)
   rw[hr]at hr2
   injection hr2 with e1 e2
   rw[e1];rfl
  ·right
   have hr2:=run_append_grow (P:=P) w t o.type e ii z ht hii g3 ⟨g,0,none⟩ m cap xs (by rw[g1];exact hown.1) (hown.cells (g:=g) rfl) ad m' c news (by rw[g1];exact hlen') hcells (by omega) (by omega) (growslice_fits (by omega) (by rw[g2];omega))
   rw[hr]at hr2
   injection hr2 with e1 e2
   intro b hb
   rw[e1]at hb
   simp[Value.ownBlock]at hb
   omega
theorem K4{w:World}{ops:Array Oper}{rest:List Oper}{o:Oper}{a:Act}{Q:Exit->Act->World->Prop}(hgd:o.guard=none)(s x:Operand)(t u:TypeId)
  (ho:o.op= .call {callee:= .builtin .append,args:= #[s,x],argTypes:= #[t,u]})
  (e:TypeId) (ii:TypeInfo) (ht:P.underlying t=some (.slice e)) (hu:P.underlying u=some .string) (hii:P.info? e=some ii) (g3:ii.zero=some (.int .u8 0))
  (g1:ii.size=1) (g2:ii.bytes=1)
  (v:Value) (m:Nat) (xs:List Value) (hs:a.eval s=v) (hown:w.ownsRow 0 e 1 v m xs) (str:ByteArray) (hx:a.eval x= .string str)
  (hl:m+str.size<=140737488355328)
  (h:∀v' w',w'.ownsRow 0 e 1 v' (m+str.size) (xs++strCells str)->w.grownBy w' v.ownBlock->Wh w v v'->wpList P ops Q rest (a.put o.dst v') w'):wpList P ops Q (o::rest) a w:=by
 refine wpList_plain hgd fun K hK=>?_
 obtain⟨v',w',hr,k1,k2,k3⟩:=Lib.run_append_own_string (P:=P) w 0 t u o.type e ii ht hu hii g3 g1 g2 v m xs hown str (by simp only[maxLen];omega) hl (Nat.zero_le _)
 unfold Oper.wp
 simp[execOp,ho,resolve,invoke,builtin,hs,hx,hr,Result.andThen]
 refine hK _ _ (h v' w' k1 k2 ?_)
 rcases hown.2 with⟨rfl,rfl⟩|⟨g,cap,cur,rfl,_,hg,hnc,hcm,hcs,htake⟩
 ·right
  have hx0:xs=[]:=List.eq_nil_of_length_eq_zero (by simpa using hown.1)
  subst hx0
  obtain⟨v2,w2,hr2,q1,_,_⟩:=Lib.run_append_own_string (P:=P) w w.heap.size t u o.type e ii ht hu hii g3 g1 g2 (.slice none 0 0) 0 [] (World.ownsRow_nil w _ e _) str (by simp only[maxLen];omega) (by omega) (Nat.le_refl _)
  rw[hr]at hr2
  injection hr2 with e1 e2
  subst e1;subst e2
  exact fun b hb=>(World.ownsRow.lt q1 b hb).1
 ·by_cases hroom:m+str.size<=cap
  ·left
   have hr2:=Lib.run_append_room_string (P:=P) w t u o.type e ii ht hu hii g1 g m cap cur hg str hroom (by simp at hcs;omega)
   rw[hr]at hr2
   injection hr2 with e1 e2
   rw[e1];rfl
  ·right
   have hr2:=Lib.run_append_grow_string (P:=P) w t u o.type e ii (.int .u8 0) ht hu hii g3 ⟨g,0,none⟩ m cap xs (by rw[hown.1,g1]) (hown.cells (g:=g) rfl) str (by omega) (by omega) (by rw[g2];exact growslice_fits (by omega) (by omega))
   rw[hr]at hr2
   injection hr2 with e1 e2
   intro b hb
   rw[e1]at hb
   simp[Value.ownBlock]at hb
   omega
def Lj(P:Program)(ρ:Ren)(f:FuncId)(c:Value)(n:Nat)(sv:Value)(xs:List Value)(w:World)(l:List UInt8):Prop:=Calls P f #[sv,c, .int .i64 10] w fun e w'=> ∃v',e= .returned v'/\w'.ownsRow 0 (ρ.t 5) 1 v' (n+l.length) (xs++Lib.byteCells l)/\w.grownBy w' sv.ownBlock/\Wh w sv v'
theorem PW(L:LaysM.n288 P ρ)(n u:Nat)(hu:u<100)(sv:Value)(xs:List Value)(w:World)(hown:w.ownsRow 0 (ρ.t 5) 1 sv n xs)(hlim:n+20<=140737488355328):Lj P ρ (ρ.f 288) (.int .u64 u) n sv xs w (Lib.decDigits u):=by
 have mixed:=L.mixed
 have t5:=L.t5;have a5:=L.a5;have z5:=L.z5;have v5:=L.v5
 have t37:=L.t37;have u37:=run_underlying L.t37;have a37:=L.a37;have z37:=L.z37;have v37:=L.v37
 have t53:=L.t53;have a53:=L.a53;have z53:=L.z53;have v53:=L.v53
 have t3:=L.t3;have a3:=L.a3;have z3:=L.z3;have v3:=L.v3
 have t4:=L.t4;have a4:=L.a4;have z4:=L.z4;have v4:=L.v4
 have t9:=L.t9;have a9:=L.a9;have z9:=L.z9;have v9:=L.v9
 have t171:=L.t171;have a171:=L.a171;have z171:=L.z171;have v171:=L.v171
 have t0:=L.t0;have a0:=L.a0;have z0:=L.z0;have v0:=L.v0
 have t173:=L.t173;have a173:=L.a173;have z173:=L.z173;have v173:=L.v173
 have e283:∀args w,(callFunc (ρ.f 283) args).run P w= .ok (.enter (ρ.f 283) args) w:=enters_of L.f283 (by kernel_rfl) rfl
 obtain⟨i0,hi,hz0,hz1,hz2⟩:=info_parts L.i5
 have hlen:(Lib.decDigits u).length<=20:=by
  rw[Lib.decDigits_length]
  by_cases h10:u<10
  ·rw[Lib.nDigits_small h10];omega
  ·rw[Lib.nDigits_big h10,Lib.nDigits_small (show u/10<10 by omega)];omega
 have hsz:(⟨(Lib.decDigits u).toArray⟩:ByteArray).size=(Lib.decDigits u).length:=by simp[ByteArray.size]
 unfold Lj
 go_enter L.f288,Body.n288_ntmps ρ
 go_wp2_with (first
  |(go_at_fn (ρ.f 283);refine(Any.internal_strconv_small {L with} u hu _).mono ?_;rintro e w' ⟨rfl,rfl⟩)
  |(at_builtin;refine K4 rfl _ _ (ρ.t 37) (ρ.t 9) rfl (ρ.t 5) i0 L.t37 L.t9 hi hz0 hz1 hz2 _ _ _ rfl hown ⟨(Lib.decDigits u).toArray⟩ rfl (by rw[hsz];omega) ?_))
 intro v' w1 hown' hgrow hnew
 go_wp2
 go_ret
 refine⟨v',rf,?_,hgrow,hnew⟩
 first|exact hown'|(rw[hsz]at hown';exact hown')
theorem V9(L:LaysM.n288 P ρ)(n u:Nat)(hu:100<=u)(hu64:u<18446744073709551616)(sv:Value)(xs:List Value)(w:World)(hown:w.ownsRow 0 (ρ.t 5) 1 sv n xs)(hlim:n+20<=140737488355328)
  (htab:Lib.TabIs P w "internal/strconv.uint64pow10" .u64 Lib.pow10Tab):Lj P ρ (ρ.f 288) (.int .u64 u) n sv xs w (Lib.decDigits u):=by
 have mixed:=L.mixed
 have t5:=L.t5;have a5:=L.a5;have z5:=L.z5;have v5:=L.v5
 have t37:=L.t37;have u37:=run_underlying L.t37;have a37:=L.a37;have z37:=L.z37;have v37:=L.v37
 have t53:=L.t53;have a53:=L.a53;have z53:=L.z53;have v53:=L.v53
 have t3:=L.t3;have a3:=L.a3;have z3:=L.z3;have v3:=L.v3
 have t4:=L.t4;have a4:=L.a4;have z4:=L.z4;have v4:=L.v4
 have t9:=L.t9;have a9:=L.a9;have z9:=L.z9;have v9:=L.v9
 have t171:=L.t171;have a171:=L.a171;have z171:=L.z171;have v171:=L.v171
 have t0:=L.t0;have a0:=L.a0;have z0:=L.z0;have v0:=L.v0
 have t173:=L.t173;have a173:=L.a173;have z173:=L.z173;have v173:=L.v173
 have e284:∀args w,(callFunc (ρ.f 284) args).run P w= .ok (.enter (ρ.f 284) args) w:=enters_of L.f284 (by kernel_rfl) rfl
 have e285:∀args w,(callFunc (ρ.f 285) args).run P w= .ok (.enter (ρ.f 285) args) w:=enters_of L.f285 (by kernel_rfl) rfl
 obtain⟨i0,hi,hz0,hz1,hz2⟩:=info_parts L.i5
 have hu1:1<=u:=by omega
 have hnd20:Lib.nDigits u<=20:=by have:=Lib.numDigits_eq u hu1 hu64;split at this<;>omega
 have hal:P.arrayLen (ρ.t 171)=24:=by simp[Program.arrayLen,L.t171]
 have hsl:∀W,(Instr.sliceAt (ρ.t 171) (.pointer (some ⟨w.heap.size,0,none⟩)) none (some (.int .i64 (Lib.nDigits u:Int))) none).run P W= .ok (.slice (some ⟨w.heap.size,0,none⟩) (Lib.nDigits u) 24) W:=fun W=>by
  rw[run_sliceAt_array_h W (ρ.t 171) ⟨w.heap.size,0,none⟩ (by simp[Program.arrayLen,Program.elem,L.t171]) .i64 (Lib.nDigits u:Int) (by omega) (by rw[hal];omega)]
  go_simp
 have hH0:=Lib.holds_zero0 w (ρ.t 171) (Lib.nDigits u) (by omega)
 have hfmt:=Any.internal_strconv_formatBase10 {L with} w.heap.size 0 24 u (Array.replicate (Lib.nDigits u) 0) (w.alloc (.cells Lib.zeros24 (ρ.t 171))) hH0 (by rw[Array.size_replicate];exact Lib.lt_pow_nDigits u) hu64 (by rw[Array.size_replicate];omega)
 rw[Array.size_replicate]at hfmt
 have HH0:=Lib.hid hH0
 have iu:(100:Int)<=(u:Int):=by omega
 clear hH0 hal
 unfold Lj
 go_enter L.f288,Body.n288_ntmps ρ
 go_wp2_with (first
  |(go_at_fn (ρ.f 284);refine(Any.internal_strconv_numDigits {L with} u hu1 hu64 _ (Lib.tabIs_alloc htab _)).mono ?_;rintro e w' ⟨rfl,rfl⟩))
 go_at_fn (ρ.f 285)
 refine hfmt.mono ?_
 rintro e w' ⟨rfl,k,v',dk,rfl,hF⟩
 have hcells:∀j u',(Lib.byteCells (Lib.decDigits u))[j]?=some u'->((putRow (fun(b:UInt8)=>Value.int .u8 (b.toNat:Int)) (w.alloc (.cells Lib.zeros24 (ρ.t 171))) w.heap.size 0 dk).drewN k).cell? ((⟨w.heap.size,0,none⟩:Addr).add j)=some u':=by
  intro j u' hj
  have hjl:j<(Lib.decDigits u).length:=by
   have h5:=(List.getElem?_eq_some_iff.1 hj).1
   rwa [Lib.byteCells_length]at h5
  have e5:(Lib.byteCells (Lib.decDigits u))[j]?=some (Value.int .u8 ((Lib.decDigits u)[j].toNat:Int)):=by simp[Lib.byteCells,hjl]
  rw[e5]at hj
  cases hj
  rw[Lib.row_is_numeral hF j hjl,Lib.add_plain,World.cell?_drewN]
  exact cell?_putRow (fun(b:UInt8)=>Value.int .u8 (b.toNat:Int)) _ w.heap.size 0 _ dk HH0.out (by rw[hF.size,Array.size_replicate]) j (by rw[hF.size];rw[Lib.decDigits_length]at hjl;exact hjl)
 obtain⟨os,eo⟩:=Lib.fin_at w (.cells Lib.zeros24 (ρ.t 171)) dk k 0
 have hown2:((putRow (fun(b:UInt8)=>Value.int .u8 (b.toNat:Int)) (w.alloc (.cells Lib.zeros24 (ρ.t 171))) w.heap.size 0 dk).drewN k).ownsRow 0 (ρ.t 5) 1 sv n xs:=by rw[eo];exact Lib.ownsRow_grow hown k os
 have hgr2:w.grownBy ((putRow (fun(b:UInt8)=>Value.int .u8 (b.toNat:Int)) (w.alloc (.cells Lib.zeros24 (ρ.t 171))) w.heap.size 0 dk).drewN k) none:=by rw[eo];exact Go.GK.LJ w k os
 have hsz2:w.heap.size<=((putRow (fun(b:UInt8)=>Value.int .u8 (b.toNat:Int)) (w.alloc (.cells Lib.zeros24 (ρ.t 171))) w.heap.size 0 dk).drewN k).heap.size:=by rw[eo];exact Lib.size_grow w k os
 generalize(putRow (fun(b:UInt8)=>Value.int .u8 (b.toNat:Int)) (w.alloc (.cells Lib.zeros24 (ρ.t 171))) w.heap.size 0 dk).drewN k=W2 at hcells hown2 hgr2 hsz2⊢
 clear eo HH0 hfmt
 go_wp2_with (at_builtin;refine G7 rfl _ _ (ρ.t 37) rfl (ρ.t 5) i0 (.int .u8 0) L.t37 hi hz0 hz1 hz2 rfl _ _ _ rfl hown2 ⟨w.heap.size,0,none⟩ (Lib.nDigits u) 24 (Lib.byteCells (Lib.decDigits u)) rfl ?c0 hcells ?c2 ?c3 ?_)
 case c0=>rw[Lib.byteCells_length,Lib.decDigits_length]
 case c2=>intro u' hu';simp only[Lib.byteCells,List.mem_map]at hu';obtain⟨b,_,rfl⟩:=hu';rfl
 case c3=>omega
 intro v2 w3 hown' hgrow hnew
 go_wp2
 go_ret
 refine⟨v2,rf,?_,Ko hgr2 hgrow,hnew.imp id fun h b hb=>Nat.le_trans hsz2 (h b hb)⟩
 rw[Lib.decDigits_length]
 exact hown'
theorem oZ(L:LaysM.n288 P ρ)(n u:Nat)(hu64:u<18446744073709551616)(sv:Value)(xs:List Value)(w:World)(hown:w.ownsRow 0 (ρ.t 5) 1 sv n xs)(hlim:n+20<=140737488355328)
  (htab:Lib.TabIs P w "internal/strconv.uint64pow10" .u64 Lib.pow10Tab):Lj P ρ (ρ.f 288) (.int .u64 u) n sv xs w (Lib.decDigits u):=by
 by_cases h:u<100
 ·exact PW L n u h sv xs w hown hlim
 ·exact V9 L n u (by omega) hu64 sv xs w hown hlim htab
theorem grownBy_alloc(w:World)(o:Obj):w.grownBy (w.alloc o) none:=
 ⟨rfl,rfl,rfl,by show w.heap.size<=(w.heap.push o).size;rw[Array.size_push];omega,fun b hb _=>by show(w.heap.push o)[b]?=w.heap[b]?;rw[Array.getElem?_push_lt hb,Array.getElem?_eq_getElem hb]⟩
theorem ve(L:LaysM.n249 P ρ)(n:Nat)(i:Int)(h0: -9223372036854775808<=i)(h1:i<=9223372036854775807)(sv:Value)(xs:List Value)(w:World)(hown:w.ownsRow 0 (ρ.t 5) 1 sv n xs)(hlim:n+21<=140737488355328)
  (htab:∀w',w.grownBy w' sv.ownBlock->Lib.TabIs P w' "internal/strconv.uint64pow10" .u64 Lib.pow10Tab):Lj P ρ (ρ.f 249) (.int .i64 i) n sv xs w (Lib.itoa i):=by
 have mixed:=L.mixed
 have t5:=L.t5;have a5:=L.a5;have z5:=L.z5;have v5:=L.v5
 have t37:=L.t37;have u37:=run_underlying L.t37;have a37:=L.a37;have z37:=L.z37;have v37:=L.v37
 have t2:=L.t2;have a2:=L.a2;have z2:=L.z2;have v2:=L.v2
 have t3:=L.t3;have a3:=L.a3;have z3:=L.z3;have v3:=L.v3
 have t53:=L.t53;have a53:=L.a53;have z53:=L.z53;have v53:=L.v53
 have t4:=L.t4;have a4:=L.a4;have z4:=L.z4;have v4:=L.v4
 have e288:∀args w,(callFunc (ρ.f 288) args).run P w= .ok (.enter (ρ.f 288) args) w:=enters_of L.f288 (by kernel_rfl) rfl
 obtain⟨i0,hi,hz0,hz1,hz2⟩:=info_parts L.i5
 by_cases hneg:i<0
 ·obtain⟨u,rfl⟩:∃u:Nat,i= -(u:Int):=⟨i.natAbs,by omega⟩
  have hu1:1<=u:=by omega
  have hu64:u<18446744073709551616:=by omega
  have hwr:IntKind.u64.wrap (-IntKind.u64.wrap (-(u:Int)))=(u:Int):=by rw[IntKind.wrap_u64,IntKind.wrap_u64];omega
  rw[Lib.itoa_neg u hu1]
  unfold Lj
  go_enter L.f249,Body.n249_ntmps ρ
  go_wp2_with (at_builtin;refine G7 rfl _ _ (ρ.t 37) rfl (ρ.t 5) i0 (.int .u8 0) L.t37 hi hz0 hz1 hz2 rfl _ _ _ rfl (hown.alloc _) ⟨w.heap.size,0,none⟩ 1 1 [Value.int .u8 45] rfl rfl (by intro j u' hj;match j,hj with|0,hj=>simp at hj;subst hj;simp[Addr.add]) (by intro u' hu';simp at hu';subst hu';rfl) (by omega) ?_)
  intro v1 w1 hown1 hgrow hnew
  have hg1:=Ko (grownBy_alloc w _) hgrow
  have htab1:Lib.TabIs P w1 "internal/strconv.uint64pow10" .u64 Lib.pow10Tab:=htab w1 hg1
  have hw1:w.heap.size<=w1.heap.size:=by obtain⟨_,_,_,q,_⟩:=hg1;exact q
  go_wp2_with (go_at_fn (ρ.f 288);refine(oZ {L with} (n+1) u hu64 v1 _ w1 hown1 (by omega) htab1).mono ?_;rintro e w2 ⟨v2,rfl,hown2,hgrow2,hnew2⟩)
  go_wp2
  go_ret
  have hn1:Wh w sv v1:=hnew.imp id fun h b hb=>by
   refine Nat.le_trans ?_ (h b hb)
   obtain⟨_,_,_,q,_⟩:=grownBy_alloc w _
   exact q
  refine⟨v2,rf,?_,?_,?_⟩
  ·have e1:n+((Lib.decDigits u).length+1)=n+1+(Lib.decDigits u).length:=by omega
   have e2:xs++Lib.byteCells (45::Lib.decDigits u)=xs++[Value.int .u8 45]++Lib.byteCells (Lib.decDigits u):=by simp[Lib.byteCells]
   rw[e1,e2]
   exact hown2
  ·obtain⟨a1,a2,a3,a4,a5⟩:=hg1
   obtain⟨b1,b2,b3,b4,b5⟩:=hgrow2
   refine⟨b1.trans a1,b2.trans a2,b3.trans a3,Nat.le_trans a4 b4,fun b hb hr=>(b5 b (Nat.lt_of_lt_of_le hb a4) fun e=>?_).trans (a5 b hb hr)⟩
   rcases hn1 with h|h
   ·exact hr (e.trans h)
   ·exact absurd (h b e.symm) (by omega)
  ·rcases hnew2 with h|h
   ·rcases hn1 with k|k
    ·exact .inl (h.trans k)
    ·exact .inr fun b hb=>k b (by rw[<-h];exact hb)
   ·exact .inr fun b hb=>Nat.le_trans hw1 (h b hb)
 ·obtain⟨u,rfl⟩:∃u:Nat,i=u:=⟨i.toNat,by omega⟩
  have hu64:u<18446744073709551616:=by omega
  rw[Lib.itoa_nonneg]
  unfold Lj
  go_enter L.f249,Body.n249_ntmps ρ
  go_wp2_with (go_at_fn (ρ.f 288);refine(oZ {L with} n u hu64 sv xs w hown (by omega) (htab w (World.grownBy.refl _ _))).mono ?_;rintro e w2 ⟨v2,rfl,hown2,hgrow2,hnew2⟩)
  go_wp2
  first|go_ret|go_ret2
  exact⟨v2,rf,hown2,hgrow2,hnew2⟩
theorem vd(L:LaysM.n176 P ρ)(n:Nat)(i:Int)(h0: -9223372036854775808<=i)(h1:i<=9223372036854775807)(sv:Value)(xs:List Value)(w:World)(hown:w.ownsRow 0 (ρ.t 5) 1 sv n xs)(hlim:n+21<=140737488355328)
  (htab:∀w',w.grownBy w' sv.ownBlock->Lib.TabIs P w' "internal/strconv.uint64pow10" .u64 Lib.pow10Tab):Lj P ρ (ρ.f 176) (.int .i64 i) n sv xs w (Lib.itoa i):=by
 have mixed:=L.mixed
 have t5:=L.t5;have a5:=L.a5;have z5:=L.z5;have v5:=L.v5
 have t37:=L.t37;have u37:=run_underlying L.t37;have a37:=L.a37;have z37:=L.z37;have v37:=L.v37
 have t2:=L.t2;have a2:=L.a2;have z2:=L.z2;have v2:=L.v2
 have t3:=L.t3;have a3:=L.a3;have z3:=L.z3;have v3:=L.v3
 have e249:∀args w,(callFunc (ρ.f 249) args).run P w= .ok (.enter (ρ.f 249) args) w:=enters_of L.f249 (by kernel_rfl) rfl
 unfold Lj
 go_enter L.f176,Body.n176_ntmps ρ
 go_wp2_with (go_at_fn (ρ.f 249);refine(ve {L with} n i h0 h1 sv xs w hown hlim htab).mono ?_;rintro e w2 ⟨v2,rfl,hown2,hgrow2,hnew2⟩)
 go_wp2
 go_ret
 exact⟨v2,rf,hown2,hgrow2,hnew2⟩
end Go.Proofs
namespace Go.GV
open Go Go.GK Go.Proofs
section
variable {N : Cw} {P : Program}
def o0(g:TypeId):AY:=⟨[.Ae (.int .i64), .Ae (.int .i64), .Ae (.sl (.int .u8))],[(0, .Az 0),(1, .v 0 (.int .i64)),(2, .v 1 (.int .i64))],[(0, .row g 2)],1⟩
def vg(g:TypeId):AY:=⟨[.Ae (.sl (.int .u8))],[(0, .Az 1)],[(1, .row g 0)],2⟩
def S'(x:Int×Int×List Int):Option (List Int):=Ah (x.2.1=10/\x.2.2.length+21<=140737488355328) (Ab .i64 x.1 (some (x.2.2++(Lib.itoa x.1).map fun b=>((b.toNat:Nat):Int))))
def HG(N:Cw)(g:TypeId):PQ N:=⟨o0 g,vg g,1,[0],fun x=>S' x⟩
theorem U4{H:Hp} :∀(l:List UInt8),AM (N.c (.int .u8)) H (l.map fun b=>((b.toNat:Nat):Int)) (Lib.byteCells l)
 | []=>rfl
 |b::l=>⟨[.int .u8 (b.toNat:Int)],Lib.byteCells l,rfl,Db.2 ⟨rfl,by have:=b.toNat_lt;show 0<=((b.toNat:Nat):Int)/\((b.toNat:Nat):Int)<=255;omega⟩,U4 l⟩
theorem TZ{f:Nat}{g:TypeId}(hi:∀H,N.inv H->FO P H)(Oj:Nb P f)
  (hc:∀(n:Nat) (i:Int), -9223372036854775808<=i->i<=9223372036854775807->∀(sv:Value) (xs:List Value) (w:World),w.ownsRow 0 g 1 sv n xs->n+21<=140737488355328->(∀w',w.grownBy w' sv.ownBlock->Lib.TabIs P w' "internal/strconv.uint64pow10" .u64 Lib.pow10Tab)->
   Calls P f #[sv, .int .i64 i, .int .i64 10] w fun e w'=> ∃v',e= .returned v'/\w'.ownsRow 0 g 1 v' (n+(Lib.itoa i).length) (xs++Lib.byteCells (Lib.itoa i))/\w.grownBy w' sv.ownBlock/\Wh w sv v'):
  C3 P f (HG N g):=⟨Oj,fun x y hy η H Of Y vs hnd hin=>by
 obtain⟨(i:Int),(b:Int),(l:List Int)⟩:=x
 have hy':S' (i,b,l)=some y:=hy
 clear hy
 unfold S' Ah at hy'
 dsimp only at hy'
 split at hy'
 ·rename_i hp
  obtain⟨hb,hl⟩:=hp
  subst hb
  obtain⟨hr,_,hy'⟩:=Bs hy'
  cases hy'
  obtain⟨i1,i2,i3,i4,i5⟩:=hin
  have i1:vs.length=3:=i1
  obtain⟨v0,v1,v2,rfl⟩:∃a b c,vs=[a,b,c]:=by
   match vs,i1 with
   | [a,b,c],_=>exact⟨a,b,c,rfl⟩
  obtain⟨u0,e0,h0⟩:=i2 (0, .Az 0) (by simp[HG,o0])
  obtain⟨u1,e1,h1⟩:=i2 (1, .v 0 (.int .i64)) (by simp[HG,o0])
  obtain⟨u2,e2,h2⟩:=i2 (2, .v 1 (.int .i64)) (by simp[HG,o0])
  cases e0;cases e1;cases e2
  have h0:v0=η 0/\v0.oneCell'=true:=h0
  obtain⟨c1,g1,g2⟩:=h1
  obtain⟨g1,_⟩:=Db.1 g1
  subst g1
  have g2:[Value.int .i64 i]=[v1]:=g2
  cases g2
  obtain⟨c2,k1,k2⟩:=h2
  obtain⟨k1,_⟩:=Db.1 k1
  subst k1
  have k2:[Value.int .i64 10]=[v2]:=k2
  cases k2
  have i3:keys Y=[0]:=i3
  obtain⟨p0,rfl⟩:∃p,Y=[p]:=List.length_eq_one_iff.1 (by simpa [keys]using congrArg List.length i3)
  obtain⟨k0,X0⟩:=p0
  ·have i3:[k0]=[0]:=i3
   cases i3
   obtain⟨X,e,hX⟩:=i4 (0, .row g 2) (by simp[HG,o0])
   cases e
   obtain⟨xs,rfl,hlay⟩:=hX
   obtain⟨rfl,h0'⟩:=h0
   have hsz:(Ty.int .u8).sz N=1:=rfl
   intro w hs
   have hown:w.ownsRow 0 g 1 (η 0) l.length xs:=hs.ok 0 _ rfl
   have htab:∀w',w.grownBy w' (η 0).ownBlock->Lib.TabIs P w' "internal/strconv.uint64pow10" .u64 Lib.pow10Tab:=fun w' hg=>
    hi H i5 w' _ (hs.set (i:=0) (r':= .emp) rfl hg trivial fun b hb=>hb.elim)
   refine(hc l.length i hr.1 hr.2 (η 0) xs w hown hl htab).mono ?_
   rintro e w' ⟨v',rfl,hown',hgr,hnew⟩
   have hlen:(l++(Lib.itoa i).map fun b=>((b.toNat:Nat):Int)).length=l.length+(Lib.itoa i).length:=by simp
   have hs':SH w' H (.row v' g 1 (l++(Lib.itoa i).map fun b=>((b.toNat:Nat):Int)).length (xs++Lib.byteCells (Lib.itoa i))::Of):=
    hs.set (i:=0) (r':= .row v' g 1 (l++(Lib.itoa i).map fun b=>((b.toNat:Nat):Int)).length (xs++Lib.byteCells (Lib.itoa i))) rfl hgr (by rw[hlen];exact hown') fun b hb=>by
     rcases hnew with h|h
     ·left
      have hb:v'.ownBlock=some b:=hb
      show(η 0).ownBlock=some b
      rw[<-h];exact hb
     ·exact .inr (h b hb)
   have hone:v'.oneCell'=true:=hs'.T' (i:=0) rfl
   refine⟨v',H,_,rf,Hp.le.refl H,hs',fun k=>if k=1 then v' else η k,[(1, .row v' g 1 (l++(Lib.itoa i).map fun b=>((b.toNat:Nat):Int)).length (xs++Lib.byteCells (Lib.itoa i)))],rf,fun k hk=>?_,by simp[keys],fun k hk=>?_,fun p hp=>?_,fun k hk h4 h5=>?_,?_⟩
   ·have hk:k<1:=hk
    have:k≠1:=by omega
    simp[this]
   ·have:k=1:=by simpa [keys]using hk
    subst this;right;simp[HG,vg]
   ·have hp:p=(1, .row g 0):=by simpa [HG,vg]using hp
    subst hp
    exact⟨_,rf,xs++Lib.byteCells (Lib.itoa i),rf,hlay.app (U4 _)⟩
   ·have:k=0:=by simpa [keys]using hk
    subst this;exact absurd (by simp[HG]) h5
   ·exact⟨rf,hone⟩
 ·cases hy'⟩
end
end Go.GV
namespace Go.GV
open Go Go.GK Go.Proofs
noncomputable abbrev NL:Cw:= {nV [(32,0),(33,0),(104,1),(105,1)] 5 with prog:=some Tryz.prog,inv:=FO Tryz.prog,BW:=fun hl h=>h.mono hl}
theorem XY:Bn NL Tryz.prog:=⟨fun h=>by cases h;rfl,by kernel_rfl⟩
theorem nj{P:Program}{f:FuncId}{vs:List Value}{H:Hp}{O:List Ao}{v:Value}{R:Value->Hp->List Ao->Prop}(h:Zh P f vs H O v)(k:R v H O):L4 P f vs H O R:=fun w hs=>(h w hs).mono fun e w' ⟨h1,h2⟩=>⟨v,H,O,h1,Hp.le.refl H,h2,k⟩
noncomputable def Wk:FQ NL:=⟨[.int .i64],[.str],fun x=>Ab .i64 (show Int from x) (some (show Ax from Lib.itoa x))⟩
theorem Yi:C0 Tryz.prog 296 Wk:=⟨⟨Tryz.f296,Tryz.func296,by kernel_rfl,rfl⟩,fun a y hy H O vs hv0 hv=>by
 obtain⟨v1,rfl,cs,h1,h2⟩:=hv
 obtain⟨h1,_⟩:=Db.1 h1
 subst h1
 have h2:[Value.int .i64 a]=[v1]:=h2
 cases h2
 have hy:Ab .i64 a (some (Lib.itoa a))=some y:=hy
 obtain⟨hc,_,hy⟩:=Bs hy
 cases hy
 exact nj (Zh.itoa (fun n h0 h1 w ht=>Go.Proofs.Tryz.strconv_Itoa n h0 h1 w ht) hv0 hc) ⟨rf,[_],rf,rf⟩⟩
def sE:AY:=⟨[.Ae (.sl (.int .u8))],[(0, .loc 0 0)],[(0, .Af 330 [(1, .px [0] .sf),(1, .Az 1)]),(1, .row 5 0)],2⟩
def zi:AY:=⟨[.Ae (.sl (.int .u8))],[],[(0, .Af 330 [(1, .px [0] .sf),(1, .Az 1)]),(1, .row 5 0)],2⟩
noncomputable def KQ:PQ NL:=⟨sE,zi,0,[],fun x=>some x⟩
theorem Yj:C3 Tryz.prog 302 KQ:=⟨Go.Proofs.YtkjngekgpgejnaaGreatDoor.iB,fun x y hy η H Of Y vs hnd hin=>by
 cases hy
 obtain⟨i1,i2,i3,i4,hiv⟩:=hin
 obtain⟨v,rfl⟩:∃v,vs=[v]:=List.length_eq_one_iff.1 i1
 obtain⟨v',e,hv⟩:=i2 (0, .loc 0 0) (by simp[KQ,sE])
 cases e
 obtain⟨B,b1,rfl⟩:=hv
 have i3:keys Y=[0,1]:=i3
 match Y,i3 with
 | [(
   k0,X0),(k1,X1)],i3=>
  have i3:[k0,k1]=[0,1]:=i3
  cases i3
  obtain⟨X,e,hX⟩:=i4 (0, .Af 330 [(1, .px [0] .sf),(1, .Az 1)]) (by simp[KQ,sE])
  cases e
  obtain⟨B',cs,c1,rfl,hl⟩:=hX
  have:B=B':=by rw[b1]at c1;simpa [ptr]using c1
  subst this
  obtain⟨d1,d2,u,e1,e2,e3,e4,e5,hl2⟩:=hl
  obtain⟨d3,d4,u2,f1,f2,f3,f4,f5,hl3⟩:=hl2
  have hl3:Value.agg d4.toArray= .agg #[]:=hl3
  have ha:u= .pointer none\/u=ptr B 0:=by
   rcases e3 with e|⟨B2,q1,q2⟩
   ·exact .inl e
   ·right
    rw[q2]
    have:η 0=ptr B2 0:=by simpa using q1
    rw[<-this];exact b1
  have u1:d1=[u]:=by rw[<-e4];rcases ha with e|e<;>subst e<;>rfl
  obtain⟨g1,g2⟩:=f3
  have u3:d3=[u2]:=by rw[<-f4];exact AU g2
  have hd4:d4=[]:=by simpa using hl3
  have hd2:d2=d3++d4:=by simpa using f1
  subst hd4;subst hd2;subst u1;subst u3
  have hcs:cs= #[u,u2]:=by
   have:cs=([u]++([u2]++[])).toArray:=by simpa using e1
   simpa using this
  subst hcs
  refine fun w hs=>((Go.Proofs.YtkjngekgpgejnaaGreatDoor.u_ (B:=B) (a:=u) (v:=u2) (O:=X1::Of) ha) w hs).mono ?_
  rintro e w' ⟨r,H',O',rfl,h2,h3,rfl,rfl⟩
  refine⟨_,H',_,rf,h2,h3,η,[(0, .Af B (.cells #[ptr B 0,u2] 330 (0,0))),(1,X1)],rf,fun _ _=>rfl,by simp[keys],fun k hk=> .inr hk,fun p hp=>?_,fun k hk h4=>?_,rf⟩
  ·have hp:p=(0, .Af 330 [(1, .px [0] .sf),(1, .Az 1)])\/p=(1, .row 5 0):=by simpa [KQ,zi]using hp
   rcases hp with rfl|rfl
   ·refine⟨_,rfl,B,_,b1,rfl,[ptr B 0],[u2],ptr B 0,rfl,rfl, .inr ⟨B,by simp[b1],rfl⟩,rfl,(fun x hx=>by simp at hx;subst hx;rfl),[u2],[],u2,rfl,rfl,⟨g1,g2⟩,AU g2,(fun x hx=>by simp at hx;subst hx;exact g2),rfl⟩
   ·obtain⟨X,e,hX⟩:=i4 (1, .row 5 0) (by simp[KQ,sE])
    cases e
    exact⟨_,rf,SR.is.mono h2 hX⟩
  ·exact absurd hk h4⟩
theorem gW:C3 Tryz.prog 241 (HG NL 5):=TZ (fun _ h=>h) ⟨Tryz.f241,Tryz.func241,by kernel_rfl,rfl⟩ (fun n i h0 h1 sv xs w ho hl ht=>vd Go.Proofs.Tryz.U2 n i h0 h1 sv xs w ho hl ht)
end Go.GV

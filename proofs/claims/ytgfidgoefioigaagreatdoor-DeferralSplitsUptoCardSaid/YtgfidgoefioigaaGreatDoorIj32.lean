/- Proof. Conditions: none. -/
import Derived.Test.YtgfidgoefioigaaGreatDoorIj31
open List renaming mem_cons->zh,not_mem_nil->zf,length_append->zu,append_assoc->z1d,length_cons->z12,length_nil->z1e,take_of_length_le->z10,mem_singleton->z1q
open Nat renaming add_assoc->zd
open Go.Proofs.Tryz
open List renaming mem_of_getElem?->zla,length_cons->zlc,length_append->zld,length_nil->zle,cons_append->zlh,nil_append->zli,length_map->zlv
open Nat renaming le_refl->zna
namespace Go.Proofs.YtgfidgoefioigaaGreatDoor
open Go.Eng
set_option linter.all false
set_option maxRecDepth 20000
set_option maxHeartbeats 1000000
theorem OW (doc:List Aw) (v:Ag) (hv:v.Fit) (h:∀x∈v.items,VlK doc x):LsK doc v:=by
 intro tn tw picks path DG Ht QT hp c kp gp P n hR hP
 rw [Qn] at hP ⊢
 have Bn:=hv.i
 have FM:path.length<=1000000000000:=by omega
 have Fn:(v.items.map (A7 doc)).length=v.items.length:=by simp
 rw [Fn] at hP ⊢
 obtain ⟨fs,Ku⟩:=A5 (v.items.map (A7 doc))
 rw [Ku] at hP Fn ⊢
 dsimp only at hP ⊢
 have o8 : ∀ j, j <= v.items.length -> (H9 fs tn tw picks path j).length <= (H9 fs tn tw picks path v.items.length).length := fun j hj => by
  have:=RK (fs:=fs) (tn:=tn) (tw:=tw) (picks:=picks) (path:=path) (k:=v.items.length - j) (j:=j) (by omega)
  rwa [Fn] at this
 obtain ⟨RP,hRP⟩:=A5 (H9 fs tn tw picks path v.items.length)
 obtain ⟨RV,LY⟩:=A5 ((if Yr fs tn tw picks path v.items.length=true then A6 else IM (R8 fs tn tw picks path v.items.length)))
 rw [hRP] at hP o8 ⊢
 rw [LY]
 have Dg : (∀ k, n <= k -> gc hp k = .no) -> wsLt n (Ix doc c kp gp P RP) := fun hf => hR.wsLt hf
 have n2:=hR.n2
 have m2 : ¬ kp = c := fun e => n2 e.symm
 have hc:=hR.hc
 have hk:=hR.hk
 refine BR func143 (tA cc143) (tB cc143) (tC cc143) rfl Dg fun hf=>?_;unfold ck143
 obtain ⟨l1,l3⟩:=hR.lt hf
 simp (disch:=omega) only [go_sem]
 refine loop (fun p : Nat × Nat => ⟨[(0, .bx c 0), (3, .ds (Ab AJ picks)), (4, .ds (Ab Ar path)), (6, .bx n 0), (7, .bx (n + 1) 0), (10, .bx (n + 2) 0), (11, .bx (n + 3) 0), (12, .b (Yr fs tn tw picks path p.1)), (13, .i .i64 p.1)],
  (n+3,.bx [.i .i64 5,.i .i64 0,.s ⟨#[]⟩,.rw (n+4) p.1 p.1,.e0])::(n+4,.rw p.1 5 (Ab Ar (R8 fs tn tw picks path p.1)))::(n+2,.bx [.i .i64 0,.i .i64 0,.s ⟨#[]⟩,.e0,.e0])::(n+1,.bx [.i .i64 v.k,.i .i64 v.n,.s v.s,.ds (Ab Ar v.items),.ds (Bd v.keys)])::(n,.bx [.s tn,.ds (Ab D0 tw)]) ::
  (kp,.rw (gp+(H9 fs tn tw picks path p.1).length) 2 (Ab BD (P++H9 fs tn tw picks path p.1)))::(c,.bx [.ds (Ab B8 doc),.rw kp (gp+(H9 fs tn tw picks path p.1).length) (P.length+(H9 fs tn tw picks path p.1).length)])::hp,p.2⟩)
  (fun p=>p.1<=v.items.length∧n+5<=p.2) (fun p=>v.items.length - p.1) (0,n+5) ?_ ?_ (fun ⟨j,k⟩ hj=>?_)
 .exact ⟨by simp,by simp⟩
 .refine (Co (c:=n+3) (i:=3) (m:=5) (cs:=[.i .i64 5,.i .i64 0,.s ⟨#[]⟩,.e0,.e0]) ?_ rfl).trans (AP ?_ (At.sub (At.cons ?_ (At.cons ?_ (At.cons ?_ (At.cons ?_ (At.cons ?_ (At.cons ?_ (At.cons ?_ (At.base hf fun i hi hx=>?_))))))))) (Nat.le_refl _))
  all_goals first
   | (simp only [zh,zf,or_false,not_or] at hx
      simp only [A8]
      repeat rw [iN (by omega)]
      done)
   | ((simp (disch:=omega) only [H9,R8,Yr,YY,Gz,List.take_zero,List.flatMap_nil,List.map_nil,List.append_nil,hc,hk,go_sem])
      first | done | rfl | (simp;done))
 dsimp only at hj
 obtain ⟨Cg,Bc⟩:=hj
 have oL:(R8 fs tn tw picks path j).length=j:=SN (by omega)
 simp (disch:=omega) only [oL,go_sem]
 refine Ae (fun q=>?_) (fun q=>?_)
 .have q:j<v.items.length:=by simpa using q
  obtain ⟨x,ex⟩:∃x,v.items[j]?=some x:=⟨v.items[j],by simp [q]⟩
  have hx:=h x (zla ex)
  have ef:fs[j]?=some (A7 doc x):=by rw [<-Ku,List.getElem?_map,ex];rfl
  have e1:=LP (tn:=tn) (tw:=tw) (picks:=picks) (path:=path) ef
  have e2:=Qr (tn:=tn) (tw:=tw) (picks:=picks) (path:=path) ef
  have e3:=QA (tn:=tn) (tw:=tw) (picks:=picks) (path:=path) ef
  have hle:=o8 (j+1) (by omega)
  have hwx:AG x<AG v:=by have:=B1 (List.mem_of_getElem? ex);rw [AE v];omega
  have hD:=hx tn tw picks (path++[Fo (j:Nat)]) DG Ht (by simp;omega)
  rw [e1,zld] at hle
  obtain ⟨X,hX⟩:=A5 (A7 doc x tn tw picks (path++[Fo (j:Nat)]))
  rw [hX] at hD e1 e2 e3 hle
  simp (disch:=omega) only [q,Ad (Aa Ar ex),go_sem]
  refine Aq.f (fun _ Al e=>(TA path FM (Fo j) _ _).cv rfl) ?_
  simp (disch:=omega) only [go_sem]
  refine Aq.w (ws:=Ix doc c kp (gp+(H9 fs tn tw picks path j).length) (P++H9 fs tn tw picks path j) X.2) (GL ⟨?_,?_⟩ (by omega) (by omega)) rfl
   (fun Al e=>hD Al c kp _ (P++H9 fs tn tw picks path j) _ ⟨(e c (.inl (by omega))).trans ?_,(e kp (.inl (by omega))).trans ?_⟩ (by rw [zu];omega)) ?_
  case refine_5=>
   simp only [Ix,zlh,zli]
   simp (disch:=omega) only [oL,go_sem]
   refine ⟨⟨⟨by omega,by omega⟩,by omega,by omega⟩,by omega,by omega,(j+1,_),⟨by dsimp only;omega,by dsimp only;omega⟩,by dsimp only;omega,
    AP ?_ (At.sub (At.cons ?_ (At.cons ?_ (At.cons ?_ (At.cons ?_ (At.cons ?_ (At.cons ?_ (At.cons ?_ (At.base hf fun i hi hx=>?_))))))))) (zna _)⟩
   all_goals first
    | (simp only [zh,zf,or_false,not_or] at hx
       simp only [A8]
       repeat rw [iN (by omega)]
       done)
    | ((simp (disch:=omega) only [e1,e2,e3,Ap j (by omega),zu,z1d,zd,z12,z1e,go_sem])
       first | done | rfl | (simp;done))
  all_goals (simp (disch:=omega) only [zld,go_sem])
 .have q:j=v.items.length:=by simp at q;omega
  subst q
  simp (disch:=omega) only [hRP,go_sem]
  refine Ae (fun c1=>?_) (fun c1=>?_)
  .rw [iP c1] at LY
   subst LY
   simp (disch:=omega) only [go_sem]
   refine Dt hR ?_ ?_ fun j hj j1 j3=>?_
   all_goals (simp (disch:=omega) only [go_sem])
  .rw [iN (by simp [c1])] at LY
   subst LY
   simp (disch:=omega) only [oL,go_sem]
   refine ⟨Dt hR ?_ ?_ fun j hj j1 j3=>?_,rfl,rfl,rfl,by rw [z10 (by omega)];rfl,rfl⟩
   all_goals (simp (disch:=omega) only [go_sem])
theorem Ru (doc:List Aw) (v:Ag) (hv:v.Fit) (h:∀x∈v.items,VlK doc x) (hz:VlK doc A6):ObK doc v:=by
 intro on picks path h6 VG Ht QT hp c kp gp P n hR hP
 rw [S8] at hP ⊢
 have Bn:=Ht.len
 have FM:path.length<=1000000000000:=by omega
 obtain ⟨fs,Ku⟩:=A5 (v.items.map (A7 doc))
 rw [Ku] at hP ⊢
 dsimp only at hP ⊢
 have o8 : ∀ j, j <= picks.length -> (Fa v.keys fs on picks path j).length <= (Fa v.keys fs on picks path picks.length).length := fun j hj => Ra (k := picks.length - j) (by omega)
 obtain ⟨RP,hRP⟩:=A5 (Fa v.keys fs on picks path picks.length)
 obtain ⟨RV,LY⟩:=A5 ((if Mz v.keys fs on picks path picks.length=true then A6 else EV (Ma v.keys fs on picks path picks.length) (LZ v.keys fs on picks path picks.length)))
 rw [hRP] at hP o8 ⊢
 rw [LY]
 have Dg : (∀ k, n <= k -> gc hp k = .no) -> wsLt n (Ix doc c kp gp P RP) := fun hf => hR.wsLt hf
 have n2:=hR.n2
 have m2 : ¬ kp = c := fun e => n2 e.symm
 have hc:=hR.hc
 have hk:=hR.hk
 refine BR func147 (tA cc147) (tB cc147) (tC cc147) rfl Dg fun hf=>?_;unfold ck147
 obtain ⟨l1,l3⟩:=hR.lt hf
 simp (disch:=omega) only [go_sem]
 refine loop (fun p : Nat × Nat => ⟨[(0, .bx c 0), (1, .s on), (3, .ds (Ab AJ picks)), (4, .ds (Ab Ar path)), (7, .bx n 0), (10, .bx (n + 1) 0), (11, .bx (n + 2) 0), (12, .b (Mz v.keys fs on picks path p.1)), (13, .i .i64 p.1)],
  (n+2,.bx [.i .i64 6,.i .i64 0,.s ⟨#[]⟩,.rw (n+3) (HS v.keys fs on picks path p.1).length (HS v.keys fs on picks path p.1).length,.rw (n+4) (HS v.keys fs on picks path p.1).length (HS v.keys fs on picks path p.1).length])::(n+3,.rw (HS v.keys fs on picks path p.1).length 5 (Ab Ar (LZ v.keys fs on picks path p.1)))::(n+4,.rw (HS v.keys fs on picks path p.1).length 1 (Bd (Ma v.keys fs on picks path p.1))) ::
  (n+1,.bx [.i .i64 0,.i .i64 0,.s ⟨#[]⟩,.e0,.e0])::(n,.bx [.i .i64 v.k,.i .i64 v.n,.s v.s,.ds (Ab Ar v.items),.ds (Bd v.keys)]) ::
  (kp,.rw (gp+(Fa v.keys fs on picks path p.1).length) 2 (Ab BD (P++Fa v.keys fs on picks path p.1)))::(c,.bx [.ds (Ab B8 doc),.rw kp (gp+(Fa v.keys fs on picks path p.1).length) (P.length+(Fa v.keys fs on picks path p.1).length)])::hp,p.2⟩)
  (fun p=>p.1<=picks.length∧n+5<=p.2) (fun p=>picks.length - p.1) (0,n+5) ?_ ?_ (fun ⟨j,k⟩ hj=>?_)
 .exact ⟨by simp,by simp⟩
 .refine ((Co (c:=n+2) (i:=3) (m:=5) (cs:=[.i .i64 6,.i .i64 0,.s ⟨#[]⟩,.e0,.e0]) ?_ rfl).trans (Co (c:=n+2) (i:=4) (m:=1) (cs:=[.i .i64 6,.i .i64 0,.s ⟨#[]⟩,.rw (n+3) 0 0,.e0]) ?_ rfl)).trans
   (AP ?_ (At.sub (At.cons ?_ (At.cons ?_ (At.cons ?_ (At.cons ?_ (At.cons ?_ (At.cons ?_ (At.cons ?_ (At.base hf fun i hi hx=>?_))))))))) (zna _))
  all_goals first
   | (simp only [zh,zf,or_false,not_or] at hx
      simp only [A8]
      repeat rw [iN (by omega)]
      done)
   | ((simp (disch:=omega) only [Fa,LZ,Ma,Mz,HS,Gx,List.take_zero,List.filter_nil,List.flatMap_nil,List.map_nil,List.append_nil,hc,hk,go_sem])
      first | done | rfl | (simp;done))
 dsimp only at hj
 obtain ⟨Cg,Bc⟩:=hj
 have oL:=Tw (ks:=v.keys) (fs:=fs) (on:=on) (picks:=picks) (path:=path) j
 have kL:=SF (ks:=v.keys) (fs:=fs) (on:=on) (picks:=picks) (path:=path) j
 have dL:=T5 (ks:=v.keys) (fs:=fs) (on:=on) (picks:=picks) (path:=path) j
 simp (disch:=omega) only [oL,kL,go_sem]
 refine Ae (fun q=>?_) (fun q=>?_)
 .have q:j<picks.length:=by simpa using q
  obtain ⟨p,ex⟩:∃p,picks[j]?=some p:=⟨picks[j],by simp [q]⟩
  have hpm:=zla ex
  have e0:=KE (ks:=v.keys) (fs:=fs) (on:=on) (path:=path) ex
  simp (disch:=omega) only [q,Ad (Aa AJ ex),go_sem]
  refine Ae (fun c1=>?_) (fun c1=>?_)
  .have c1:¬p.on=on:=by simpa using c1
   rw [iN c1] at e0
   have e1:Fa v.keys fs on picks path (j+1)=Fa v.keys fs on picks path j:=by unfold Fa;rw [e0]
   have e2:LZ v.keys fs on picks path (j+1)=LZ v.keys fs on picks path j:=by unfold LZ;rw [e0]
   have e3:Ma v.keys fs on picks path (j+1)=Ma v.keys fs on picks path j:=by unfold Ma;rw [e0]
   have e4:Mz v.keys fs on picks path (j+1)=Mz v.keys fs on picks path j:=by unfold Mz;rw [e0]
   have e5:=e0
   simp (disch:=omega) only [go_sem]
   refine ⟨(j+1,_),⟨by dsimp only;omega,by dsimp only;omega⟩,by dsimp only;omega,
    AP ?_ (At.sub (At.cons ?_ (At.cons ?_ (At.cons ?_ (At.cons ?_ (At.cons ?_ (At.cons ?_ (At.cons ?_ (At.base hf fun i hi hx=>?_))))))))) (zna _)⟩
   all_goals first
    | (simp only [zh,zf,or_false,not_or] at hx
       simp only [A8]
       repeat rw [iN (by omega)]
       done)
    | ((simp (disch:=omega) only [e1,e2,e3,e4,e5,Ap j (by omega),zu,z1d,zd,z12,z1e,go_sem])
       first | done | rfl | (simp;done))
  .have c1:p.on=on:=by simpa using c1
   rw [iP c1,<-Ku,Ho doc v h6] at e0
   obtain ⟨y,hy⟩:=A5 ((AA v p.key).getD A6)
   have Gj:=DA v hv p.key
   rw [Ik,hy] at Gj
   rw [hy,Ku] at e0
   have hyk:VlK doc y∧AG y<AG v:=by
    rw [<-hy]
    cases eg:AA v p.key with
    |none=>
     refine ⟨hz,?_⟩
     have:AG (Option.getD (none:Option Ag) A6)=1:=by rw [AE];rfl
     omega
    |some x=>
     have hm:=CB eg
     refine ⟨h x hm,?_⟩
     have:=B1 hm
     show AG x<AG v
     rw [AE v]
     omega
   obtain ⟨hyk,hyw⟩:=hyk
   have hD:=hyk p.tn p.tw p.picks (path++[CW p.key]) (Ht.t hpm) (Ht.x hpm) (by simp;omega)
   obtain ⟨X,hX⟩:=A5 (A7 doc y p.tn p.tw p.picks (path++[CW p.key]))
   rw [hX] at hD e0
   have e1:Fa v.keys fs on picks path (j+1)=Fa v.keys fs on picks path j++X.2:=by unfold Fa;rw [e0,List.flatMap_append];simp
   have e2:LZ v.keys fs on picks path (j+1)=LZ v.keys fs on picks path j++[X.1]:=by unfold LZ;rw [e0,List.map_append];rfl
   have e3:Ma v.keys fs on picks path (j+1)=Ma v.keys fs on picks path j++[p.key]:=by unfold Ma;rw [e0,List.map_append];rfl
   have e4:Mz v.keys fs on picks path (j+1)=(Mz v.keys fs on picks path j||Fu p.tw X.1):=by unfold Mz;rw [e0,List.any_append];simp
   have e5:(HS v.keys fs on picks path (j+1)).length=(HS v.keys fs on picks path j).length+1:=by rw [e0];simp
   have hle:=o8 (j+1) (by omega)
   rw [e1,zld] at hle
   simp (disch:=omega) only [q,Ad (Aa AJ ex),go_sem]
   refine Aq.f (fun _ Al e=>Gj _ _) ?_
   simp (disch:=omega) only [q,Ad (Aa AJ ex),go_sem]
   refine ⟨by omega,Aq.f (fun _ Al e=>(TA path FM (CW p.key) _ _).cv rfl) ?_⟩
   simp (disch:=omega) only [go_sem]
   refine Aq.w (ws:=Ix doc c kp (gp+(Fa v.keys fs on picks path j).length) (P++Fa v.keys fs on picks path j) X.2) (GL ⟨?_,?_⟩ (by omega) (by omega)) rfl
    (fun Al e=>hD Al c kp _ (P++Fa v.keys fs on picks path j) _ ⟨(e c (.inl (by omega))).trans ?_,(e kp (.inl (by omega))).trans ?_⟩ (by rw [zu];omega)) ?_
   case refine_5=>
    simp only [Ix,zlh,zli]
    simp (disch:=omega) only [oL,kL,q,Ad (Aa AJ ex),go_sem]
    refine ⟨⟨by omega,by omega⟩,⟨by omega,by omega⟩,by omega,by omega,(j+1,_),⟨by dsimp only;omega,by dsimp only;omega⟩,by dsimp only;omega,
     AP ?_ (At.sub (At.cons ?_ (At.cons ?_ (At.cons ?_ (At.cons ?_ (At.cons ?_ (At.cons ?_ (At.cons ?_ (At.base hf fun i hi hx=>?_))))))))) (zna _)⟩
    all_goals first
     | (simp only [zh,zf,or_false,not_or] at hx
        simp only [A8]
        repeat rw [iN (by omega)]
        done)
     | ((simp (disch:=omega) only [e1,e2,e3,e4,e5,Ap j (by omega),zu,z1d,zd,z12,z1e,go_sem])
        first | done | rfl | (simp;done))
   all_goals (simp (disch:=omega) only [zld,go_sem])
 .have q:j=picks.length:=by simp at q;omega
  subst q
  simp (disch:=omega) only [hRP,go_sem]
  refine Ae (fun c1=>?_) (fun c1=>?_)
  .rw [iP c1] at LY
   subst LY
   simp (disch:=omega) only [go_sem]
   refine Dt hR ?_ ?_ fun j hj j1 j3=>?_
   all_goals (simp (disch:=omega) only [go_sem])
  .rw [iN (by simp [c1])] at LY
   subst LY
   simp (disch:=omega) only [oL,kL,go_sem]
   refine ⟨Dt hR ?_ ?_ fun j hj j1 j3=>?_,rfl,rfl,rfl,by rw [z10 (by omega)];rfl,by rw [z10 (by omega)];rfl⟩
   all_goals (simp (disch:=omega) only [go_sem])
theorem Aei (doc:List Aw) (hd:DocOk doc) (v:Ag):v.Fit->v.Rng->VlK doc v:=by
 have hzf:A6.Fit:=DC
 have Sw:A6.Rng:=.mk _ (by decide) (by decide) (by simp [A6,Ag.items_mk])
 have hz:VlK doc A6:=by
  refine Qs doc A6 (Iz doc hd A6 hzf Sw.l Sw.u (OW doc A6 hzf fun x hx=>?_) ?_)
  .simp [A6,Ag.items_mk] at hx
  .intro on picks path h6
   simp [A6,Ag.k_mk] at h6
 exact Ag.ind (Q:=fun v=>v.Fit->v.Rng->VlK doc v) (fun v ih hv hr=>Qs doc v (Iz doc hd v hv hr.l hr.u (OW doc v hv fun x hx=>ih x hx (hv.x hx) (hr.x hx)) (Ru doc v hv (fun x hx=>ih x hx (hv.x hx) (hr.x hx)) hz))) v
end Go.Proofs.YtgfidgoefioigaaGreatDoor
namespace Go.Eng
set_option linter.unusedVariables false
theorem AO.e0d {P:Program} {f:FuncId} {hp:CH} {n:Nat} {args args':List AV} {i:Nat} {R:CH->Nat->AV->Prop} (hi:args[i]?=some .e0) (ha:args'=args.set i (.ds [])) (c:AO P f hp n args' R):AO P f hp n args R:=by
 subst ha
 refine ⟨c.1,fun h J w vs hs ra=>c.2 h J w vs hs ⟨by rw [List.length_set];exact ra.1,fun j U v h1 h2=>?_⟩⟩
 by_cases e:i=j
 .subst e
  rw [List.getElem?_set_self (List.getElem?_eq_some_iff.1 hi).1] at h1
  cases h1
  exact .pu _ _ (Ig hs (ra.2 i _ v hi h2) rfl)
 .rw [List.getElem?_set_ne e] at h1
  exact ra.2 j U v h1 h2
end Go.Eng
namespace Go.Proofs.YtgfidgoefioigaaGreatDoor
open Go.Eng
set_option linter.all false
set_option maxRecDepth 20000
set_option maxHeartbeats 1000000
theorem S5 (doc:List Aw) (hd:DocOk doc) (root:qB) (picks:List Pk) (Ht:B6 picks) (v:Ag) (hv:v.Fit) (hr:v.Rng) (hw:AG v<=10000000000) (Da:AG v*(1+AF picks)<=1000000000000) (hp:CH) (m:Nat) :
 Af prog 30 hp m [B0 doc,.s root,.ds (Ab AJ picks),vx v] (.tp [vx (A7 doc v root [] picks []).1,.ds (Ab BD (A7 doc v root [] picks []).2)]):=by
 have hC:=Aei doc hd v hv hr root [] picks [] (by simp) Ht (by simp;omega)
 have hct:=E6 doc v root [] picks []
 obtain ⟨R,A9⟩:=A5 (A7 doc v root [] picks [])
 rw [A9] at hC hct ⊢
 have hNm:=UC root
 have hRl:R.2.length<=1000000000000:=by omega
 refine Aj func30 (tA cc912) (tB cc912) (tC cc912) rfl fun hf=>?_;unfold ck912
 simp (disch:=omega) only [go_sem]
 refine LF (Co (c:=m+3) (i:=1) (m:=2) (cs:=[.ds (Ab B8 doc),.e0]) ?_ rfl) ?_
 .simp (disch:=omega) only [go_sem]
 simp only [List.set_cons_succ,List.set_cons_zero]
 simp (disch:=omega) only [go_sem]
 refine Aq.f (fun _ Al e=>hNm _ _) ?_
 simp (disch:=omega) only [go_sem]
 refine Aq.w (ws:=Ix doc (m+3) (m+4) 0 [] R.2) (GL (P:=[]) ⟨?_,?_⟩ (by omega) (by omega)) rfl
  (fun Al e=>AO.e0d (i:=4) (args':=[.bx (m+3) 0,D1 root [],vx v,.ds (Ab AJ picks),.ds []]) rfl rfl (hC Al (m+3) (m+4) 0 [] _ ⟨(e _ (.inl (by omega))).trans ?_,(e _ (.inl (by omega))).trans ?_⟩ (by simp;omega))) ?_
 case refine_5=>
  simp only [Ix,zlh,zli]
  simp (disch:=omega) only [zle,Nat.zero_add,go_sem]
 all_goals first
  | ((simp (disch:=omega) only [go_sem]);done)
  | skip
def VM (n:Nat) (R:Gt):Prop:=R.1.Fit∧∀p∈R.2,p.p.length<=n∧∀x∈p.p,x.Fit
theorem VM.mono {n m:Nat} {R:Gt} (h:VM n R) (hm:n<=m):VM m R:=⟨h.1,fun p hp=>⟨Nat.le_trans (h.2 p hp).1 hm,(h.2 p hp).2⟩⟩
theorem FI {path:List Ag} (h:∀x∈path,x.Fit) {y:Ag} (hy:y.Fit):∀x∈path++[y],x.Fit:=fun x hx=>by
 rcases List.mem_append.1 hx with h1 | h1
 .exact h x h1
 .rw [z1q.1 h1];exact hy
theorem Jv {v:Ag} (h1:v.items=[]) (h2:v.keys=[]):v.Fit:=.mk v (by simp [h1]) (by simp [h2]) (by simp [h1])
theorem Ol (n:Int):(Fo n).Fit:=Jv rfl rfl
theorem Ow (s:qB):(CW s).Fit:=Jv rfl rfl
theorem Im (doc:List Aw) (v:Ag):v.Fit->∀tn tw picks path,B6 picks->(∀x∈path,x.Fit)->VM (path.length+AG v) (A7 doc v tn tw picks path):=by
 refine Ag.ind (Q:=fun v=>v.Fit->∀tn tw picks path,B6 picks->(∀x∈path,x.Fit)->VM (path.length+AG v) (A7 doc v tn tw picks path)) (fun v ih hv tn tw picks path Ht hpa=>?_) v
 have hz:∀tn tw picks path,(∀x∈path,x.Fit)->VM path.length (A7 doc A6 tn tw picks path):=fun tn tw picks path hpa=>by
  rw [NV,zFn,Ja]
  split
  .exact ⟨DC,fun p hp=>by rw [z1q.1 (show p∈[Dc.mk path GN] from hp)];exact ⟨zna _,hpa⟩⟩
  .exact ⟨DC,fun p hp=>by cases hp⟩
 have hfail:∀s,VM (path.length+AG v) (Ey path s):=fun s=>⟨DC,fun p hp=>by rw [z1q.1 (show p∈[Dc.mk path s] from hp)];exact ⟨Nat.le_add_right _ _,hpa⟩⟩
 refine K0 (Q:=fun R=>VM (path.length+AG v) R) (fun s _=>hfail s) (fun h0=>?_) (fun _ _=>?_) (fun _ _ _ x hx=>?_) (fun h6 _ _ on _ _ _=>?_)
 .rw [Ja]
  split
  .exact hfail _
  .exact ⟨DC,fun p hp=>by cases hp⟩
 .have hr:∀r∈Gz (v.items.map (A7 doc)) 0 tn (DM (Cp tw)) picks path,VM (path.length+AG v) r:=fun r hr=>by
   obtain ⟨i,f,e1,e2,_⟩:=TD _ _ _ _ _ _ _ hr
   rw [List.getElem?_map] at e1
   cases ex:v.items[i]? with
   |none=>rw [ex] at e1;cases e1
   |some x=>
    rw [ex] at e1
    cases e1
    have hm:=zla ex
    have hw:=B1 hm
    subst e2
    refine (ih x hm (hv.x hm) _ _ _ _ Ht (FI hpa (Ol _))).mono ?_
    rw [zld,AE v]
    simp only [zlc,zle]
    omega
  refine ⟨?_,fun p hp=>?_⟩
  .dsimp only [Gl]
   split
   .exact DC
   .refine .mk _ ?_ (by show (0:Nat)*16<=_;omega) fun x hx=>?_
    .show ((Gz _ 0 tn _ picks path).map (·.1)).length*80<=_
     rw [zlv,Kk,zlv]
     exact hv.i
    .obtain ⟨r,hm,rfl⟩:=List.mem_map.1 (show x∈(Gz _ 0 tn _ picks path).map (·.1) from hx)
     exact (hr r hm).1
  .obtain ⟨r,hm,hq⟩:=List.mem_flatMap.1 (show p∈(Gz _ 0 tn _ picks path).flatMap (·.2) from hp)
   exact (hr r hm).2 p hq
 .obtain ⟨_,_,h3,h4⟩:=N7 hx
  exact ⟨Jv h3 h4,fun p hp=>by cases hp⟩
 .have hr:∀r∈Gx v.keys (v.items.map (A7 doc)) on path picks,VM (path.length+AG v) r.2:=fun r hr=>by
   obtain ⟨hm,_,e⟩:=T0 h6 hr
   rw [e]
   cases hg:AA v r.1.key with
   |none=>
    refine (hz _ _ _ _ (FI hpa (Ow _))).mono ?_
    have:=CT v
    rw [zld]
    simp only [zlc,zle]
    omega
   |some x=>
    have hx:=CB hg
    have hw:=B1 hx
    refine (ih x hx (hv.x hx) _ _ _ _ (Ht.x hm) (FI hpa (Ow _))).mono ?_
    rw [zld,AE v]
    simp only [zlc,zle]
    omega
  have Bn:(Gx v.keys (v.items.map (A7 doc)) on path picks).length<=1000000000:=by
   unfold Gx
   rw [zlv]
   have:=List.length_filter_le (fun p:Pk=>decide (p.on=on)) picks
   have:=Ht.len
   omega
  refine ⟨?_,fun p hp=>?_⟩
  .dsimp only [H0]
   split
   .exact DC
   .refine .mk _ ?_ ?_ fun x hx=>?_
    .show ((Gx v.keys (v.items.map (A7 doc)) on path picks).map (·.2.1)).length*80<=_
     rw [zlv];omega
    .show ((Gx v.keys (v.items.map (A7 doc)) on path picks).map (·.1.key)).length*16<=_
     rw [zlv];omega
    .obtain ⟨r,hm,rfl⟩:=List.mem_map.1 (show x∈(Gx v.keys (v.items.map (A7 doc)) on path picks).map (·.2.1) from hx)
     exact (hr r hm).1
  .obtain ⟨r,hm,hq⟩:=List.mem_flatMap.1 (show p∈(Gx v.keys (v.items.map (A7 doc)) on path picks).flatMap (·.2.2) from hp)
   exact (hr r hm).2 p hq
open Go.Eng Go.KL
set_option maxRecDepth 100000
def ck3:CC:=cK (a:=cF [] [] [] f3) (by delta f3;simp only [go_sem];rfl)
theorem cc3:A3 f3=(false,some ck3.erase,some [(.t 6)]):=by kernel_rfl
def ck6:CC:=cK (a:=cF [] [] [] f6) (by delta f6;simp (config := { maxSteps := 9999999 }) only [go_sem];rfl)
theorem cc6:A3 f6=(false,some ck6.erase,some [(.t 6)]):=by kernel_rfl
def ck10:CC:=cK (a:=cF [] [] [] f10) (by delta f10;simp only [go_sem];rfl)
theorem cc10:A3 f10=(false,some ck10.erase,some [(.c 8 5 true),(.t 9),(.t 10)]):=by kernel_rfl
def ck12:CC:=cK (a:=cF [] [] [] f12) (by delta f12;simp (config := { maxSteps := 9999999 }) only [go_sem];rfl)
theorem cc12:A3 f12=(false,some ck12.erase,some [(.t 4)]):=by kernel_rfl
def ck13:CC:=cK (a:=cF [] [] [(55,[24,17,23]),(69,[24,17,23,38])] f13) (by delta f13;simp (config := { maxSteps := 9999999 }) only [go_sem];rfl)
theorem cc13:A3 f13=(false,some ck13.erase,some [(.t 4)]):=by kernel_rfl
def ck22:CC:=cK (a:=cF [] [] [] f22) (by delta f22;simp only [go_sem];rfl)
theorem cc22:A3 f22=(false,some ck22.erase,some [(.t 2)]):=by kernel_rfl
def ck23:CC:=cK (a:=cF [] [] [] f23) (by delta f23;simp only [go_sem];rfl)
theorem cc23:A3 f23=(false,some ck23.erase,some [(.t 2)]):=by kernel_rfl
def ck24:CC:=cK (a:=cF [] [] [] f24) (by delta f24;simp only [go_sem];rfl)
theorem cc24:A3 f24=(false,some ck24.erase,some [(.t 4)]):=by kernel_rfl
def ck27:CC:=cK (a:=cF [] [] [] f27) (by delta f27;simp only [go_sem];rfl)
theorem cc27:A3 f27=(false,some ck27.erase,some [(.t 2)]):=by kernel_rfl
def ck28:CC:=cK (a:=cF [] [] [] f28) (by delta f28;simp only [go_sem];rfl)
theorem cc28:A3 f28=(false,some ck28.erase,some [(.c 4 5 true)]):=by kernel_rfl
def ck31:CC:=cK (a:=cF [] [] [] f31) (by delta f31;simp only [go_sem];rfl)
theorem cc31:A3 f31=(false,some ck31.erase,some [(.t 2)]):=by kernel_rfl
def ck32:CC:=cK (a:=cF [] [] [] f32) (by delta f32;simp (config := { maxSteps := 9999999 }) only [go_sem];rfl)
theorem cc32:A3 f32=(false,some ck32.erase,some [(.c 4 5 true)]):=by kernel_rfl
def ck33:CC:=cK (a:=cF [] [] [] f33) (by delta f33;simp (config := { maxSteps := 9999999 }) only [go_sem];rfl)
theorem cc33:A3 f33=(false,some ck33.erase,some [(.t 10)]):=by kernel_rfl
def ck42:CC:=cK (a:=cF [] [] [] f42) (by delta f42;simp (config := { maxSteps := 9999999 }) only [go_sem];rfl)
theorem cc42:A3 f42=(false,some ck42.erase,some [(.t 2)]):=by kernel_rfl
def ck43:CC:=cK (a:=cF [] [] [] f43) (by delta f43;simp (config := { maxSteps := 9999999 }) only [go_sem];rfl)
theorem cc43:A3 f43=(false,some ck43.erase,some [(.t 4)]):=by kernel_rfl
def ck44:CC:=cK (a:=cF [] [] [] f44) (by delta f44;simp only [go_sem];rfl)
theorem cc44:A3 f44=(false,some ck44.erase,some [(.t 2)]):=by kernel_rfl
def ck45:CC:=cK (a:=cF [] [] [] f45) (by delta f45;simp (config := { maxSteps := 9999999 }) only [go_sem];rfl)
theorem cc45:A3 f45=(false,some ck45.erase,some [(.t 2)]):=by kernel_rfl
def ck47:CC:=cK (a:=cF [] [] [] f47) (by delta f47;simp only [go_sem];rfl)
theorem cc47:A3 f47=(false,some ck47.erase,some [(.t 2)]):=by kernel_rfl
def ck48:CC:=cK (a:=cF [] [] [] f48) (by delta f48;simp (config := { maxSteps := 9999999 }) only [go_sem];rfl)
theorem cc48:A3 f48=(false,some ck48.erase,some [(.t 8)]):=by kernel_rfl
def ck50:CC:=cK (a:=cF [] [] [] f50) (by delta f50;simp (config := { maxSteps := 9999999 }) only [go_sem];rfl)
theorem cc50:A3 f50=(false,some ck50.erase,some [(.c 4 5 true)]):=by kernel_rfl
def ck51:CC:=cK (a:=cF [] [] [] f51) (by delta f51;simp only [go_sem];rfl)
theorem cc51:A3 f51=(false,some ck51.erase,some [(.t 2)]):=by kernel_rfl
def ck53:CC:=cK (a:=cF [] [] [(15,[4,2])] f53) (by delta f53;simp only [go_sem];rfl)
theorem cc53:A3 f53=(false,some ck53.erase,some [(.c 6 5 true),(.t 7)]):=by kernel_rfl
def ck54:CC:=cK (a:=cF [] [] [] f54) (by delta f54;simp only [go_sem];rfl)
theorem cc54:A3 f54=(false,some ck54.erase,some [(.t 4)]):=by kernel_rfl
def ck55:CC:=cK (a:=cF [] [] [] f55) (by delta f55;simp only [go_sem];rfl)
theorem cc55:A3 f55=(false,some ck55.erase,some [(.t 6)]):=by kernel_rfl
def ck59:CC:=cK (a:=cF [] [] [] f59) (by delta f59;simp only [go_sem];rfl)
theorem cc59:A3 f59=(false,some ck59.erase,some [(.t 2)]):=by kernel_rfl
def ck60:CC:=cK (a:=cF [] [] [] f60) (by delta f60;simp only [go_sem];rfl)
theorem cc60:A3 f60=(false,some ck60.erase,some [(.c 4 5 true)]):=by kernel_rfl
def ck61:CC:=cK (a:=cF [] [] [] f61) (by delta f61;simp only [go_sem];rfl)
theorem cc61:A3 f61=(false,some ck61.erase,some [(.t 4)]):=by kernel_rfl
def ck62:CC:=cK (a:=cF [] [] [] f62) (by delta f62;simp only [go_sem];rfl)
theorem cc62:A3 f62=(false,some ck62.erase,some [(.t 6)]):=by kernel_rfl
def ck63:CC:=cK (a:=cF [] [] [] f63) (by delta f63;simp only [go_sem];rfl)
theorem cc63:A3 f63=(false,some ck63.erase,some [(.t 4)]):=by kernel_rfl
def ck64:CC:=cK (a:=cF [] [] [] f64) (by delta f64;simp only [go_sem];rfl)
theorem cc64:A3 f64=(false,some ck64.erase,some [(.t 6)]):=by kernel_rfl
def ck66:CC:=cK (a:=cF [] [] [(59,[16,15])] f66) (by delta f66;simp (config := { maxSteps := 9999999 }) only [go_sem];rfl)
theorem cc66:A3 f66=(false,some ck66.erase,some [(.t 10)]):=by kernel_rfl
def ck79:CC:=cK (a:=cF [] [] [] f79) (by delta f79;simp (config := { maxSteps := 9999999 }) only [go_sem];rfl)
theorem cc79:A3 f79=(false,some ck79.erase,some [(.t 2)]):=by kernel_rfl
def ck80:CC:=cK (a:=cF [] [] [] f80) (by delta f80;simp only [go_sem];rfl)
theorem cc80:A3 f80=(false,some ck80.erase,some [(.t 2)]):=by kernel_rfl
def ck81:CC:=cK (a:=cF [] [] [] f81) (by delta f81;simp only [go_sem];rfl)
theorem cc81:A3 f81=(false,some ck81.erase,some [(.t 4)]):=by kernel_rfl
def ck82:CC:=cK (a:=cF [] [] [] f82) (by delta f82;simp only [go_sem];rfl)
theorem cc82:A3 f82=(false,some ck82.erase,some [(.t 2)]):=by kernel_rfl
def ck83:CC:=cK (a:=cF [] [] [] f83) (by delta f83;simp (config := { maxSteps := 9999999 }) only [go_sem];rfl)
theorem cc83:A3 f83=(false,some ck83.erase,some [(.t 4)]):=by kernel_rfl
def ck84:CC:=cK (a:=cF [] [] [] f84) (by delta f84;simp (config := { maxSteps := 9999999 }) only [go_sem];rfl)
theorem cc84:A3 f84=(false,some ck84.erase,some [(.t 4)]):=by kernel_rfl
def ck85:CC:=cK (a:=cF [] [] [] f85) (by delta f85;simp only [go_sem];rfl)
theorem cc85:A3 f85=(false,some ck85.erase,some [(.t 2)]):=by kernel_rfl
def ck86:CC:=cK (a:=cF [] [] [] f86) (by delta f86;simp (config := { maxSteps := 9999999 }) only [go_sem];rfl)
theorem cc86:A3 f86=(false,some ck86.erase,some [(.t 8)]):=by kernel_rfl
def ck87:CC:=cK (a:=cF [] [] [] f87) (by delta f87;simp (config := { maxSteps := 9999999 }) only [go_sem];rfl)
theorem cc87:A3 f87=(false,some ck87.erase,some [(.t 4)]):=by kernel_rfl
def ck88:CC:=cK (a:=cF [] [] [] f88) (by delta f88;simp only [go_sem];rfl)
theorem cc88:A3 f88=(false,some ck88.erase,some [(.t 4)]):=by kernel_rfl
def ck89:CC:=cK (a:=cF [] [] [] f89) (by delta f89;simp (config := { maxSteps := 9999999 }) only [go_sem];rfl)
theorem cc89:A3 f89=(false,some ck89.erase,some [(.t 10)]):=by kernel_rfl
def ck91:CC:=cK (a:=cF [] [] [] f91) (by delta f91;simp only [go_sem];rfl)
theorem cc91:A3 f91=(false,some ck91.erase,some [(.t 4)]):=by kernel_rfl
def ck92:CC:=cK (a:=cF [] [] [] f92) (by delta f92;simp (config := { maxSteps := 9999999 }) only [go_sem];rfl)
theorem cc92:A3 f92=(false,some ck92.erase,some [(.t 4)]):=by kernel_rfl
def ck95:CC:=cK (a:=cF [] [] [] f95) (by delta f95;simp only [go_sem];rfl)
theorem cc95:A3 f95=(false,some ck95.erase,some [(.t 4)]):=by kernel_rfl
def ck98:CC:=cK (a:=cF [] [] [(50,[15,14]),(51,[16,15,14])] f98) (by delta f98;simp (config := { maxSteps := 9999999 }) only [go_sem];rfl)
theorem cc98:A3 f98=(false,some ck98.erase,some []):=by kernel_rfl
def ck120:CC:=cK (a:=cF [] [] [] f120) (by delta f120;simp only [go_sem];rfl)
theorem cc120:A3 f120=(false,some ck120.erase,some [(.t 2)]):=by kernel_rfl
def ck121:CC:=cK (a:=cF [] [] [] f121) (by delta f121;simp only [go_sem];rfl)
theorem cc121:A3 f121=(false,some ck121.erase,some [(.t 2)]):=by kernel_rfl
def ck122:CC:=cK (a:=cF [] [] [] f122) (by delta f122;simp only [go_sem];rfl)
theorem cc122:A3 f122=(false,some ck122.erase,some [(.t 2)]):=by kernel_rfl
def ck124:CC:=cK (a:=cF [] [] [] f124) (by delta f124;simp only [go_sem];rfl)
theorem cc124:A3 f124=(false,some ck124.erase,some [(.t 8)]):=by kernel_rfl
def ck125:CC:=cK (a:=cF [] [] [] f125) (by delta f125;simp only [go_sem];rfl)
theorem cc125:A3 f125=(false,some ck125.erase,some [(.t 2)]):=by kernel_rfl
def ck126:CC:=cK (a:=cF [] [] [] f126) (by delta f126;simp only [go_sem];rfl)
theorem cc126:A3 f126=(false,some ck126.erase,some [(.t 4)]):=by kernel_rfl
def ck127:CC:=cK (a:=cF [] [] [] f127) (by delta f127;simp only [go_sem];rfl)
theorem cc127:A3 f127=(false,some ck127.erase,some [(.c 4 5 true),(.t 5)]):=by kernel_rfl
def ck128:CC:=cK (a:=cF [] [] [] f128) (by delta f128;simp only [go_sem];rfl)
theorem cc128:A3 f128=(false,some ck128.erase,some [(.t 4)]):=by kernel_rfl
def ck129:CC:=cK (a:=cF [] [] [] f129) (by delta f129;simp only [go_sem];rfl)
theorem cc129:A3 f129=(false,some ck129.erase,some [(.c 4 10 true),(.t 5)]):=by kernel_rfl
def ck130:CC:=cK (a:=cF [] [] [] f130) (by delta f130;simp only [go_sem];rfl)
theorem cc130:A3 f130=(false,some ck130.erase,some [(.t 4)]):=by kernel_rfl
def ck131:CC:=cK (a:=cF [] [] [] f131) (by delta f131;simp only [go_sem];rfl)
theorem cc131:A3 f131=(false,some ck131.erase,some [(.t 6)]):=by kernel_rfl
def ck133:CC:=cK (a:=cF [] [34] [] f133) (by delta f133;simp (config := { maxSteps := 9999999 }) only [go_sem];rfl)
theorem cc133:A3 f133=(false,some ck133.erase,some [(.t 6)]):=by kernel_rfl
def ck135:CC:=cK (a:=cF [] [] [] f135) (by delta f135;simp only [go_sem];rfl)
theorem cc135:A3 f135=(false,some ck135.erase,some [(.c 8 5 true),(.t 9)]):=by kernel_rfl
def ck138:CC:=cK (a:=cF [] [] [] f138) (by delta f138;simp only [go_sem];rfl)
theorem cc138:A3 f138=(false,some ck138.erase,some [(.t 2)]):=by kernel_rfl
def ck140:CC:=cK (a:=cF [] [1] [] f140) (by delta f140;simp only [go_sem];rfl)
theorem cc140:A3 f140=(false,some ck140.erase,some [(.c 0 2 true)]):=by kernel_rfl
def ck141:CC:=cK (a:=cF [] [] [] f141) (by delta f141;simp (config := { maxSteps := 9999999 }) only [go_sem];rfl)
theorem cc141:A3 f141=(false,some ck141.erase,some [(.t 6)]):=by kernel_rfl
def ck160:CC:=cK (a:=cF [] [] [] f160) (by delta f160;simp only [go_sem];rfl)
theorem cc160:A3 f160=(false,some ck160.erase,some [(.t 2)]):=by kernel_rfl
def ck161:CC:=cK (a:=cF [] [] [] f161) (by delta f161;simp only [go_sem];rfl)
theorem cc161:A3 f161=(false,some ck161.erase,some [(.t 8)]):=by kernel_rfl
def ck162:CC:=cK (a:=cF [] [] [] f162) (by delta f162;simp only [go_sem];rfl)
theorem cc162:A3 f162=(false,some ck162.erase,some [(.t 4)]):=by kernel_rfl
def ck163:CC:=cK (a:=cF [] [] [] f163) (by delta f163;simp (config := { maxSteps := 9999999 }) only [go_sem];rfl)
theorem cc163:A3 f163=(false,some ck163.erase,some [(.t 6)]):=by kernel_rfl
def ck164:CC:=cK (a:=cF [] [] [] f164) (by delta f164;simp only [go_sem];rfl)
theorem cc164:A3 f164=(false,some ck164.erase,some [(.t 4)]):=by kernel_rfl
def ck165:CC:=cK (a:=cF [] [] [] f165) (by delta f165;simp only [go_sem];rfl)
theorem cc165:A3 f165=(false,some ck165.erase,some [(.c 6 5 true),(.t 7)]):=by kernel_rfl
def ck167:CC:=cK (a:=cF [] [] [] f167) (by delta f167;simp only [go_sem];rfl)
theorem cc167:A3 f167=(false,some ck167.erase,some [(.c 6 5 true),(.t 7)]):=by kernel_rfl
def ck175:CC:=cK (a:=cF [] [] [] f175) (by delta f175;simp only [go_sem];rfl)
theorem cc175:A3 f175=(false,some ck175.erase,some [(.t 2)]):=by kernel_rfl
def ck176:CC:=cK (a:=cF [] [] [] f176) (by delta f176;simp (config := { maxSteps := 9999999 }) only [go_sem];rfl)
theorem cc176:A3 f176=(false,some ck176.erase,some [(.c 8 5 true)]):=by kernel_rfl
def ck180:CC:=cK (a:=cF [] [] [] f180) (by delta f180;simp only [go_sem];rfl)
theorem cc180:A3 f180=(false,some ck180.erase,some []):=by kernel_rfl
def ck182:CC:=cK (a:=cF [] [] [] f182) (by delta f182;simp only [go_sem];rfl)
theorem cc182:A3 f182=(false,some ck182.erase,some []):=by kernel_rfl
def ck183:CC:=cK (a:=cF [] [14] [] f183) (by delta f183;simp only [go_sem];rfl)
theorem cc183:A3 f183=(false,some ck183.erase,some [(.c 8 5 true)]):=by kernel_rfl
def ck184:CC:=cK (a:=cF [] [] [] f184) (by delta f184;simp (config := { maxSteps := 9999999 }) only [go_sem];rfl)
theorem cc184:A3 f184=(false,some ck184.erase,some [(.c 6 5 true)]):=by kernel_rfl
def ck185:CC:=cK (a:=cF [] [] [] f185) (by delta f185;simp only [go_sem];rfl)
theorem cc185:A3 f185=(false,some ck185.erase,some [(.c 6 5 true)]):=by kernel_rfl
def ck186:CC:=cK (a:=cF [] [] [] f186) (by delta f186;simp (config := { maxSteps := 9999999 }) only [go_sem];rfl)
theorem cc186:A3 f186=(false,some ck186.erase,some [(.c 8 5 true)]):=by kernel_rfl
def ck188:CC:=cK (a:=cF [] [] [] f188) (by delta f188;simp only [go_sem];rfl)
theorem cc188:A3 f188=(false,some ck188.erase,some [(.t 4)]):=by kernel_rfl
def ck189:CC:=cK (a:=cF [] [] [] f189) (by delta f189;simp only [go_sem];rfl)
theorem cc189:A3 f189=(false,some ck189.erase,some [(.c 8 5 true)]):=by kernel_rfl

/- The world: a new one. -/
import Derived.Test.YticdbambknflgaaGreatMWoBa
section
namespace Go.Proofs.YticdbambknflgaaGreat.Sim
open Go
set_option maxRecDepth 100000
set_option maxHeartbeats 4000000
set_option linter.unusedVariables false
set_option linter.unusedSimpArgs false
attribute [local irreducible] Go Mean
theorem srv_set {w:PWorld} {n:Nat} (hw:WOK w n) {k:Nat} {v:PSrv} (hk:k<w.srv.length) (hv:SrvOK w.s (k+1:Nat) v):∀ i,i<(w.srv.set k v).length→SrvOK w.s (i+1:Nat) ((w.srv.set k v).getD i noSrv):=fun i hi=>by
 rw[List.length_set] at hi
 rw[List.getD_eq_getElem?_getD,List.getElem?_set]
 by_cases e:k=i
 ·subst e
  rw[if_pos rfl,if_pos hk]
  exact hv
 ·rw[if_neg e,← List.getD_eq_getElem?_getD]
  exact hw.srv i hi
theorem WOK.set {w:PWorld} {n:Nat} (hw:WOK w n) {k:Nat} {v:PSrv} (hk:k<w.srv.length) (hv:SrvOK w.s (k+1:Nat) v):WOK { w with srv:=w.srv.set k v } n:={ hw with
 ns:=by simp only[List.length_set];exact hw.ns
 srv:=srv_set hw hk hv
 li:=by simp only[List.length_set];exact hw.li }
theorem WOK.setR {w:PWorld} {n:Nat} (hw:WOK w n) {k:Nat} {r:PRd} (hr:RdOK r):WOK { w with rd:=w.rd.set k r } n:={ hw with
 nr:=by simp only[List.length_set];exact hw.nr
 rd:=fun x hx=>by
  rcases List.mem_or_eq_of_mem_set hx with hx|rfl
  ·exact hw.rd x hx
  ·exact hr }
theorem set_eSrv (l:List PSrv) (k:Nat) (v:PSrv):(l.map eSrv).set k [iD v.id,iD v.s.kind,iD v.s.sv,iD v.s.deg,iD v.s.grp,bD v.up,dHelds v.vers,dJobs v.jobs]=(l.set k v).map eSrv:=by rw[List.map_set];rfl
theorem set_eRd (l:List PRd) (k:Nat) (r:PRd):(l.map eRd).set k [iD r.read,iD r.s.kind,iD r.s.sv,iD r.s.deg,iD r.s.grp,iD r.h.num,iD r.h.p,iD r.h.count,iD r.h.width,iD r.h.root,dInts r.rows,dQs r.queries,dAnss r.answers,dRows r.marks,bD r.ended]=(l.set k r).map eRd:=by rw[List.map_set];rfl
theorem drop_eSrv (v:PSrv):List.drop 8 (eSrv v)=[]:=rfl
theorem drop_eRd (v:PRd):List.drop 15 (eRd v)=[]:=rfl
theorem give40 (w:PWorld) (n:Nat) (x:PNote) (hw:WOK w n) (hn:n≤10) (hq:x.query.length≤1025) (hv:x.values.length≤64):DoesE Tryz.prog 98 [w3 w,vNote x] (bxW w 0 0 0) (QW (n+1)):=by
 have hq':=hw.mono (Nat.le_succ n)
 have hns:=hw.nsrv
 have hnr:=hw.nr
 refine wE Tryz.func98 fun cx hm0=>?_
 by_cases hkd:x.kind=1
 ·have hkd':(x.kind == 1)=true:=by simpa using hkd
  repeat' (first|refine gA hkd' ?_|refine sp ?_ ?_ <;> intro h|(with_reducible apply And.intro)|exact aG|fail)
  (refine gE (server40 w x.server (by omega)) ?_;rintro _ _ ⟨i,rfl,rfl,hi1,hi2,hi3⟩ <;> refine gG ?_)
  by_cases hi0:0≤i
  case neg =>
   repeat' (first|refine gS ?_|refine sp ?_ ?_ <;> intro h|(with_reducible apply And.intro)|exact aG|fail)
   all_goals try (exfalso;omega)
   refine dE ?_
   exact QW.mk hq'
  obtain⟨k,rfl⟩:∃ k:Nat,i=k:=⟨i.toNat,by omega⟩
  have hk:k<w.srv.length:=by omega
  have hs:=getD_map eSrv [] noSrv w.srv k hk
  have hv':=hw.srv k hk
  have hset:=fun v (hv:SrvOK w.s (k+1:Nat) v)=>(hw.set hk hv).mono (Nat.le_succ n)
  generalize w.srv.getD k noSrv=v at *
  repeat' (first|refine gC hs hk eSrv.eq_1 ?_|refine sp ?_ ?_ <;> intro h|(with_reducible apply And.intro)|exact aG|fail)
  all_goals try (exfalso;omega)
  (refine gW (ask30 v x hv' (by omega)) ?_;rintro _ ⟨v',e,rfl,hv2⟩ <;> refine⟨rfl,?_⟩)
  repeat' (first|refine gQ hs hk @drop_eSrv @set_eSrv ?_|refine sp ?_ ?_ <;> intro h|(with_reducible apply And.intro)|exact aG|fail)
  refine dE ?_
  exact QW.mk (hset v' hv2)
 have hkd':(x.kind == 1)=false:=by simpa using hkd
 by_cases hr:0≤x.read∧x.read<w.rd.length
 case neg =>
  repeat' (first|refine gA hkd' ?_|refine sp ?_ ?_ <;> intro h|(with_reducible apply And.intro)|exact aG|fail)
  all_goals try (exfalso;omega)
  all_goals (refine dE ?_;exact QW.mk hq')
 obtain⟨kd,rd,pb,sv,vn,q,vals,mk⟩:=x
 simp only at hq hv hr hkd'
 obtain⟨k,rfl⟩:∃ k:Nat,rd=k:=⟨rd.toNat,by omega⟩
 have hk:k<w.rd.length:=by omega
 have hs:=getD_map eRd [] noRd w.rd k hk
 have hv':=hw.rd _ (mem_getD noRd w.rd k hk)
 have hset:=fun r (hr:RdOK r)=>(hw.setR (k:=k) hr).mono (Nat.le_succ n)
 generalize w.rd.getD k noRd=r at *
 repeat' (first|refine gQ hkd' hs hk eRd.eq_1 ?_|refine sp ?_ ?_ <;> intro h|(with_reducible apply And.intro)|exact aG|fail)
 all_goals try (exfalso;omega)
 (refine gW (take32' r w.people kd k pb sv vn q vals mk hv' hw.pp (by omega) hv) ?_;rintro _ ⟨r',e,rfl,hv2⟩ <;> refine⟨rfl,?_⟩)
 repeat' (first|refine gQ hs hk @drop_eRd @set_eRd ?_|refine sp ?_ ?_ <;> intro h|(with_reducible apply And.intro)|exact aG|fail)
 all_goals try (exfalso;omega)
 refine dE ?_
 exact QW.mk (hset r' hv2)
theorem deliver40 (w:PWorld) (n:Nat) (num:Int) (g:Bool) (hw:WOK w n) (hn:n≤10):DoesE Tryz.prog 61 [w3 w,I num,B g] (bxW w 0 0 0) (QW (n+1)):=by
 have hq':=hw.mono (Nat.le_succ n)
 have hfl:=hw.fl
 refine wE Tryz.func61 fun cx hm0=>?_
 cases g
 ·repeat' (first|refine gS ?_|refine sp ?_ ?_ <;> intro h|(exfalso;omega)|(refine gW (take31 w.flight num (by omega)) ?_;rintro _ ⟨c,x,e,rfl,hc1,hc2,hc3⟩ <;> refine⟨rfl,?_⟩)|(with_reducible apply And.intro)|exact aG|fail)
  all_goals try (refine dE ?_;exact QW.mk hq')
  have hx:=hw.nt x (hc3 (by simp_all))
  have e1:=give40 w n x hw hn hx.1 hx.2
  simp only[w3,vWd,bxW] at e1
  repeat' (first|refine gS ?_|refine sp ?_ ?_ <;> intro h|(exfalso;omega)|(refine gE e1 ?_;rintro _ _ ⟨w',a,b,c',e',rfl,rfl,hw'⟩ <;> refine gG ?_)|(with_reducible apply And.intro)|exact aG|fail)
  refine dE ?_
  exact QW.mk hw'
 ·repeat' (first|refine gS ?_|refine sp ?_ ?_ <;> intro h|(exfalso;omega)|(refine gW (take31 w.flight num (by omega)) ?_;rintro _ ⟨c,x,e,rfl,hc1,hc2,hc3⟩ <;> refine⟨rfl,?_⟩)|(with_reducible apply And.intro)|exact aG|fail)
  all_goals try (refine dE ?_;exact QW.mk hq')
  have hx:=hw.nt x (hc3 (by simp_all))
  have hwc:WOK { w with flight:=c } n:={ hw with fl:=by simp only;omega,nt:=fun y hy=>hw.nt y (hc2 y hy) }
  have e1:=give40 { w with flight:=c } n x hwc hn hx.1 hx.2
  simp only[w3,vWd,bxW] at e1
  repeat' (first|refine gS ?_|refine sp ?_ ?_ <;> intro h|(exfalso;omega)|(refine gE e1 ?_;rintro _ _ ⟨w',a,b,c',e',rfl,rfl,hw'⟩ <;> refine gG ?_)|(with_reducible apply And.intro)|exact aG|fail)
  refine dE ?_
  exact QW.mk hw'
end Go.Proofs.YticdbambknflgaaGreat.Sim
end
section
namespace Go.Proofs.YticdbambknflgaaGreat.Sim
open Go
set_option maxRecDepth 100000
set_option maxHeartbeats 4000000
set_option linter.unusedVariables false
set_option linter.unusedSimpArgs false
attribute [local irreducible] Go Mean
theorem word40 (w:PWorld) (n:Nat) (id:Int) (hw:WOK w n) (hn:n≤10):DoesE Tryz.prog 63 [w3 w,I id] (bxW w 0 0 0) (QW (n+1)):=by
 have hq':=hw.mono (Nat.le_succ n)
 have hns:=hw.nsrv
 have hfl:=hw.fl
 refine wE Tryz.func63 fun cx hm0=>?_
 repeat' (first|refine gS ?_|refine sp ?_ ?_ <;> intro h|(with_reducible apply And.intro)|exact aG|fail)
 (refine gE (server40 w id (by omega)) ?_;rintro _ _ ⟨i,rfl,rfl,hi1,hi2,hi3⟩ <;> refine gG ?_)
 by_cases hi0:0≤i
 case neg =>
  repeat' (first|refine gS ?_|refine sp ?_ ?_ <;> intro h|(with_reducible apply And.intro)|exact aG|fail)
  all_goals try (exfalso;omega)
  refine dE ?_
  exact QW.mk hq'
 obtain⟨k,rfl⟩:∃ k:Nat,i=k:=⟨i.toNat,by omega⟩
 have hk:k<w.srv.length:=by omega
 have hs:=getD_map eSrv [] noSrv w.srv k hk
 have hv':=hw.srv k hk
 have hset:=fun v (hv:SrvOK w.s (k+1:Nat) v)=>hw.set hk hv
 have hkl:k<w.liars.length:=by rw[hw.li];exact hk
 have hsl:=getD_map eI [] 0 w.liars k hkl
 generalize w.srv.getD k noSrv=v at *
 generalize w.liars.getD k 0=lie at *
 repeat' (first|simp (maxSteps:=9999999) only[↓GE,PQ,seval,hs,hk,hkl,hsl,eSrv,eI]|refine gS ?_|refine sp ?_ ?_ <;> intro h|(exfalso;omega)|(refine gW (find22 w.people id hw.pp) ?_;rintro _ ⟨a,b,ok,rfl,hf⟩ <;> refine⟨rfl,?_⟩)|(with_reducible apply And.intro)|exact aG|fail)
 all_goals try (exfalso;omega)
 (refine gW (word30 v a b lie hv') ?_;rintro _ ⟨v',x,rdy,e,rfl,hv2,hx1,hx2⟩ <;> refine⟨rfl,?_⟩)
 cases rdy
 ·repeat' (first|refine gQ hs hk @drop_eSrv @set_eSrv ?_|refine sp ?_ ?_ <;> intro h|(with_reducible apply And.intro)|exact aG|fail)
  all_goals try (exfalso;omega)
  all_goals try (refine dE ?_;exact QW.mk hq')
  refine dE ?_
  exact QW.mk ((hset v' hv2).mono (Nat.le_succ n))
 ·repeat' (first|refine gQ hs hk @drop_eSrv @set_eSrv ?_|refine sp ?_ ?_ <;> intro h|(with_reducible apply And.intro)|exact aG|fail)
  all_goals try (exfalso;omega)
  all_goals try (refine dE ?_;exact QW.mk hq')
  have e2:=send31 w.flight [x] (by omega) (by simp)
  simp only[dNotes,List.map_cons,List.map_nil,eNote] at e2
  (refine gW e2 ?_;rintro _ ⟨c,e',rfl,hc⟩ <;> refine⟨rfl,?_⟩)
  repeat' (first|refine gQ hs hk @drop_eSrv @set_eSrv ?_|refine sp ?_ ?_ <;> intro h|(with_reducible apply And.intro)|exact aG|fail)
  all_goals try (exfalso;omega)
  all_goals try (refine dE ?_;exact QW.mk hq')
  have hok:WOK { w with srv:=w.srv.set k v',flight:=c } (n+1):={ (hset v' hv2).mono (Nat.le_succ n) with
   fl:=by rcases hc with rfl|⟨_,hc⟩ <;> (simp only;omega)
   nt:=fun y hy=>by
    rcases hc with rfl|⟨rfl,_⟩
    ·exact hw.nt y hy
    ·rcases List.mem_append.1 hy with hy|hy
     ·exact hw.nt y hy
     ·simp only[List.mem_singleton] at hy;subst hy;exact⟨hx1,hx2⟩ }
  refine dE ?_
  exact QW.mk hok
theorem start40 (w:PWorld) (n:Nat) (id:Int) (hw:WOK w n) (hn:n≤10):DoesE Tryz.prog 66 [w3 w,I id] (bxW w 0 0 0) (QW (n+1)):=by
 have hq':=hw.mono (Nat.le_succ n)
 have hns:=hw.nsrv
 have hok:=hw.pub.ok (by omega)
 have htl:=hok.1
 refine wE Tryz.func66 fun cx hm0=>?_
 repeat' (first|refine gS ?_|refine sp ?_ ?_ <;> intro h|(with_reducible apply And.intro)|exact aG|fail)
 (refine gE (server40 w id (by omega)) ?_;rintro _ _ ⟨i,rfl,rfl,hi1,hi2,hi3⟩ <;> refine gG ?_)
 by_cases hi0:0≤i
 case neg =>
  repeat' (first|refine gS ?_|refine sp ?_ ?_ <;> intro h|(with_reducible apply And.intro)|exact aG|fail)
  all_goals try (exfalso;omega)
  refine dE ?_
  exact QW.mk hq'
 obtain⟨k,rfl⟩:∃ k:Nat,i=k:=⟨i.toNat,by omega⟩
 have hk:k<w.srv.length:=by omega
 have hs:=getD_map eSrv [] noSrv w.srv k hk
 have hv':=hw.srv k hk
 have hset:=fun v (hv:SrvOK w.s (k+1:Nat) v)=>hw.set hk hv
 generalize w.srv.getD k noSrv=v at *
 repeat' (first|refine gC hs hk eSrv.eq_1 ?_|refine sp ?_ ?_ <;> intro h|(exfalso;omega)|(refine gW (start30 v) ?_;rintro _ ⟨u,e,rfl⟩ <;> refine⟨rfl,?_⟩)|(with_reducible apply And.intro)|exact aG|fail)
 all_goals try (exfalso;omega)
 all_goals try (refine dE ?_;exact QW.mk hq')
 have hv2:SrvOK w.s (k+1:Nat) { v with up:=u }:=⟨hv'.id,hv'.s,hv'.nv,hv'.nj,hv'.vers,hv'.jobs⟩
 refine gl (κ:=Nat × PSrv) hm0 (fun q_=>q_.1≤w.tabs.length∧SrvOK w.s (k+1:Nat) q_.2) (fun q_=>[(2,.bp 2 0 0),(4,.bp 4 0 0),(6,I k),(7,.bp 7 0 0),(9,I q_.1)]) (fun q_=>[(2,.box 0 [I w.s.kind,I w.s.sv,I w.s.deg,I w.s.grp,.d (dTwos w.people),.d (dTabs w.tabs),.og 17000 0,.d (dNotes w.flight),.og 17001 0,I w.disk.seed,I w.disk.drawn,.d (dStarts w.disk.begun),.d (dTwos w.pins.rows),.d (dInts w.pins.kept),.d (dInts w.liars),.og 17002 0]),(4,.box 0 [I 0,I 0,I 0,I 0,.nl 2,.nl 4,.nl 8,.nl 8,.nl 15,I 0,I 0,.nl 5,.nl 2,.nl 1,.nl 1,.nl 4]),(7,.box 0 [I q_.2.id,I q_.2.s.kind,I q_.2.s.sv,I q_.2.s.deg,I q_.2.s.grp,B q_.2.up,.d (dHelds q_.2.vers),.d (dJobs q_.2.jobs)]),(17000,.arr 0 8 true (w.srv.map eSrv)),(17001,.arr 0 15 true (w.rd.map eRd)),(17002,.arr 0 4 true w.results)]) (fun q_=>w.tabs.length-q_.1) [] [] (0,{ v with up:=u }) ?_
 rintro⟨j,y⟩ hI
 try simp only at hI ⊢
 try have hI2:=hI.2
 by_cases hj:j<w.tabs.length
 ·have hst:=getD_map eTab [] noTab w.tabs j hj
  have htb:=hw.pub.tabs _ (mem_getD noTab w.tabs j hj)
  have htl2:=htb.len
  have htw:=htb.w2
  generalize w.tabs.getD j noTab=t at *
  repeat' (first|refine gC hst hj eTab.eq_1 ?_|refine sp ?_ ?_ <;> intro h|(with_reducible apply And.intro)|exact aG|fail)
  all_goals try (exfalso;omega)
  (refine gW (load30 y t hI2 (by omega) (fun x hx=>by have:=(htb.rows x hx).1;omega)) ?_;rintro _ ⟨y',e',rfl,hy'⟩ <;> refine⟨rfl,?_⟩)
  repeat' (first|refine gC hst hj eTab.eq_1 ?_|refine sp ?_ ?_ <;> intro h|(with_reducible apply And.intro)|exact aG|fail)
  all_goals try (exfalso;omega)
  refine⟨[],[],⟨(j+1,y'),hj,hy'⟩,?_,aI⟩
  exact aX
 ·repeat' (first|refine gQ hk @drop_eSrv @set_eSrv hs ?_|refine sp ?_ ?_ <;> intro h|(with_reducible apply And.intro)|exact aG|fail)
  all_goals try (exfalso;omega)
  refine dE ?_
  exact QW.mk ((hset y hI2).mono (Nat.le_succ n))
theorem srvs_set {s:PSch} {sv:List PSrv} (h:∀ i,i<sv.length→SrvOK s (i+1:Nat) (sv.getD i noSrv)) {k:Nat} {v:PSrv} (hk:k<sv.length) (hv:SrvOK s (k+1:Nat) v):∀ i,i<(sv.set k v).length→SrvOK s (i+1:Nat) ((sv.set k v).getD i noSrv):=fun i hi=>by
 rw[List.length_set] at hi
 rw[List.getD_eq_getElem?_getD,List.getElem?_set]
 by_cases e:k=i
 ·subst e
  rw[if_pos rfl,if_pos hk]
  exact hv
 ·rw[if_neg e,← List.getD_eq_getElem?_getD]
  exact h i hi
theorem update40 (w:PWorld) (n:Nat) (c:PChg) (hw:WOK w n) (hn:n≤10) (hc1:c.sets.length≤1000000) (hc2:ShortS c.sets) (hc3:PubOK (pubF w.tabs c).1 (n+1)):DoesE Tryz.prog 67 [w3 w,vChg c] (bxW w 0 0 0) (QW (n+1)):=by
 have hq':=hw.mono (Nat.le_succ n)
 have hns:=hw.nsrv
 have e1:=r37publish w.tabs c (hw.pub.ok (by omega)) hc1 hc2
 have e2:=r37newest (pubF w.tabs c).1 (hc3.ok (by omega))
 rw[newest_ok hc3] at e2
 have htb:=hc3.last
 generalize (pubF w.tabs c).2=e0 at *
 generalize (pubF w.tabs c).1=ts at *
 generalize lastT ts=t at *
 have htl2:=htb.len
 have htw:=htb.w2
 refine wE Tryz.func67 fun cx hm0=>?_
 repeat' (first|refine gS ?_|refine sp ?_ ?_ <;> intro h|(exfalso;omega)|refine gP e1 ?_|refine gP e2 ?_|(refine gW (publish39 w.pins t.num hw.pin) ?_;rintro _ ⟨p,e,rfl,hp⟩ <;> refine⟨rfl,?_⟩)|(with_reducible apply And.intro)|exact aG|fail)
 all_goals try (refine dE ?_;exact QW.mk hq')
 have hsrv:=hw.srv
 have hw2:WOK { w with tabs:=ts,pins:=p } (n+1):={ hq' with pub:=hc3,pin:=hp }
 refine gl (κ:=Nat × (List PSrv)) hm0 (fun q_=>q_.1≤w.srv.length∧q_.2.length=w.srv.length∧∀ i,i<q_.2.length→SrvOK w.s (i+1:Nat) (q_.2.getD i noSrv)) (fun q_=>[(2,.bp 2 0 0),(4,.bp 4 0 0),(8,.bp 8 0 0),(11,I q_.1)]) (fun q_=>[(2,.box 0 [I w.s.kind,I w.s.sv,I w.s.deg,I w.s.grp,.d (dTwos w.people),.d (dTabs ts),.og 17000 0,.d (dNotes w.flight),.og 17001 0,I w.disk.seed,I w.disk.drawn,.d (dStarts w.disk.begun),.d (dTwos p.rows),.d (dInts p.kept),.d (dInts w.liars),.og 17002 0]),(4,.box 0 [I 0,I 0,I 0,I 0,.nl 2,.nl 4,.nl 8,.nl 8,.nl 15,I 0,I 0,.nl 5,.nl 2,.nl 1,.nl 1,.nl 4]),(8,.box 0 [I t.num,I t.p,I t.width,.d (dRows t.rows)]),(17000,.arr 0 8 true (q_.2.map eSrv)),(17001,.arr 0 15 true (w.rd.map eRd)),(17002,.arr 0 4 true w.results)]) (fun q_=>w.srv.length-q_.1) [] [] (0,w.srv) ?_
 rintro⟨j,sv⟩ hI
 try simp only at hI ⊢
 try have hI2:=hI.2
 by_cases hj:j<w.srv.length
 ·have hj2:j<sv.length:=by omega
  have hst:=getD_map eSrv [] noSrv sv j hj2
  have hy:=hI2.2 j hj2
  have hset:=fun v (hv:SrvOK w.s (j+1:Nat) v)=>srvs_set hI2.2 hj2 hv
  generalize sv.getD j noSrv=y at *
  repeat' (first|refine gC hst hj2 eSrv.eq_1 ?_|refine sp ?_ ?_ <;> intro h|(with_reducible apply And.intro)|exact aG|fail)
  all_goals try (exfalso;omega)
  (refine gW (load30 y t hy (by omega) (fun x hx=>by have:=(htb.rows x hx).1;omega)) ?_;rintro _ ⟨y',e',rfl,hy'⟩ <;> refine⟨rfl,?_⟩)
  repeat' (first|simp (maxSteps:=9999999) only[↓GE,PQ,seval,hst,hj2,drop_eSrv,set_eSrv,eSrv]|refine gS ?_|refine sp ?_ ?_ <;> intro h|(with_reducible apply And.intro)|exact aG|fail)
  all_goals try (exfalso;omega)
  refine⟨[],[],⟨(j+1,sv.set j y'),hj,by simp only[List.length_set];omega,hset y' hy'⟩,?_,aI⟩
  exact aX
 ·repeat' (first|refine gS ?_|refine sp ?_ ?_ <;> intro h|(with_reducible apply And.intro)|exact aG|fail)
  all_goals try (exfalso;omega)
  refine dE ?_
  have hok:WOK { w with tabs:=ts,pins:=p,srv:=sv } (n+1):={ hw2 with
   ns:=by simp only;rw[hI2.1];exact hw.ns
   srv:=hI2.2
   li:=by simp only;rw[hI2.1];exact hw.li }
  exact QW.mk hok
end Go.Proofs.YticdbambknflgaaGreat.Sim
end
section
namespace Go.Proofs.YticdbambknflgaaGreat.Sim
open Go
set_option maxRecDepth 100000
set_option maxHeartbeats 4000000
set_option linter.unusedVariables false
set_option linter.unusedSimpArgs false
attribute [local irreducible] Go Mean
def QW0 (n:Nat) (r:V) (bx:U):Prop:=∃ w a b c,r=vWd w (.og 17000 a) (.og 17001 b) (.og 17002 c)∧bx=bxW w a b c∧WOK w n
theorem QW0.mk {n:Nat} {w:PWorld} {a b c:Nat} (h:WOK w n):QW0 n (vWd w (.og 17000 a) (.og 17001 b) (.og 17002 c)) (bxW w a b c):=⟨w,a,b,c,rfl,rfl,h⟩
theorem keep_ok {ts:List PTab} {n:Nat} {vs:List Int} (h:PubOK ts n):PubOK (keepF ts vs) n:=by
 refine⟨(keepF_last h.valid).1,?_,fun t ht=>?_⟩
 ·have:=keepN_len (l:=ts) (vs:=vs) (n:=ts.length)
  have:=h.len
  unfold keepF;omega
 ·obtain⟨j,hj,rfl,_⟩:=keepN_mem ht
  exact h.tabs _ (mem_getD _ _ _ hj)
theorem collect40 (w:PWorld) (n:Nat) (hw:WOK w n) (hn:n≤10):DoesE Tryz.prog 69 [w3 w] (bxW w 0 0 0) (QW0 (n+1)):=by
 have hq':=hw.mono (Nat.le_succ n)
 have hns:=hw.nsrv
 refine wE Tryz.func69 fun cx hm0=>?_
 repeat' (first|refine gS ?_|refine sp ?_ ?_ <;> intro h|(with_reducible apply And.intro)|exact aG|fail)
 (refine gW (collect39 w.pins hw.pin) ?_;rintro _ ⟨p,g,rfl,hp⟩ <;> refine⟨rfl,?_⟩)
 have hkl:=hp.2
 have e1:=r37keep w.tabs p.kept (hw.pub.ok (by omega)) (by omega)
 have hk:=keep_ok (vs:=p.kept) hw.pub
 generalize keepF w.tabs p.kept=ts at *
 repeat' (first|refine gS ?_|refine sp ?_ ?_ <;> intro h|refine gP e1 ?_|(with_reducible apply And.intro)|exact aG|fail)
 have hsrv:=hw.srv
 refine gl (κ:=Nat × (List PSrv)) hm0 (fun q_=>q_.1≤w.srv.length∧q_.2.length=w.srv.length∧∀ i,i<q_.2.length→SrvOK w.s (i+1:Nat) (q_.2.getD i noSrv)) (fun q_=>[(1,.bp 1 0 0),(2,.bp 2 0 0),(3,I q_.1)]) (fun q_=>[(1,.box 0 [I w.s.kind,I w.s.sv,I w.s.deg,I w.s.grp,.d (dTwos w.people),.d (dTabs ts),.og 17000 0,.d (dNotes w.flight),.og 17001 0,I w.disk.seed,I w.disk.drawn,.d (dStarts w.disk.begun),.d (dTwos p.rows),.d (dInts p.kept),.d (dInts w.liars),.og 17002 0]),(2,.box 0 [I 0,I 0,I 0,I 0,.nl 2,.nl 4,.nl 8,.nl 8,.nl 15,I 0,I 0,.nl 5,.nl 2,.nl 1,.nl 1,.nl 4]),(17000,.arr 0 8 true (q_.2.map eSrv)),(17001,.arr 0 15 true (w.rd.map eRd)),(17002,.arr 0 4 true w.results)]) (fun q_=>w.srv.length-q_.1) [] [] (0,w.srv) ?_
 rintro⟨j,sv⟩ hI
 try simp only at hI ⊢
 try have hI2:=hI.2
 by_cases hj:j<w.srv.length
 case neg =>
  repeat' (first|refine gS ?_|refine sp ?_ ?_ <;> intro h|(with_reducible apply And.intro)|exact aG|fail)
  all_goals try (exfalso;omega)
  refine dE ?_
  have hok:WOK { w with tabs:=ts,pins:=p,srv:=sv } (n+1):={ hq' with
   pub:=hk.mono (Nat.le_succ n)
   pin:=hp
   ns:=by simp only;rw[hI2.1];exact hw.ns
   srv:=hI2.2
   li:=by simp only;rw[hI2.1];exact hw.li }
  exact QW0.mk hok
 have hj2:j<sv.length:=by omega
 have hst:=getD_map eSrv [] noSrv sv j hj2
 have hy:=hI2.2 j hj2
 have hyv:=hy.nv
 repeat' (first|refine gC hst hj2 eSrv.eq_1 ?_|refine sp ?_ ?_ <;> intro h|(with_reducible apply And.intro)|exact aG|fail)
 all_goals try (exfalso;omega)
 generalize (sv.getD j noSrv).vers=l at *
 clear hst hy
 obtain⟨hI1,hIl,hIs⟩:=hI
 refine gl (κ:=Nat × (List PSrv)) hm0 (fun q_=>q_.1≤l.length∧q_.2.length=w.srv.length∧∀ i,i<q_.2.length→SrvOK w.s (i+1:Nat) (q_.2.getD i noSrv)) (fun q_=>[(1,.bp 1 0 0),(2,.bp 2 0 0),(3,I j),(4,.d (dHelds l)),(5,I q_.1)]) (fun q_=>[(1,.box 0 [I w.s.kind,I w.s.sv,I w.s.deg,I w.s.grp,.d (dTwos w.people),.d (dTabs ts),.og 17000 0,.d (dNotes w.flight),.og 17001 0,I w.disk.seed,I w.disk.drawn,.d (dStarts w.disk.begun),.d (dTwos p.rows),.d (dInts p.kept),.d (dInts w.liars),.og 17002 0]),(2,.box 0 [I 0,I 0,I 0,I 0,.nl 2,.nl 4,.nl 8,.nl 8,.nl 15,I 0,I 0,.nl 5,.nl 2,.nl 1,.nl 1,.nl 4]),(17000,.arr 0 8 true (q_.2.map eSrv)),(17001,.arr 0 15 true (w.rd.map eRd)),(17002,.arr 0 4 true w.results)]) (fun q_=>l.length-q_.1) [] [] (0,sv) ?_
 rintro⟨k,sv⟩ hI
 try simp only at hI ⊢
 try have hI2:=hI.2
 by_cases hkk:k<l.length
 case neg =>
  repeat' (first|refine gS ?_|refine sp ?_ ?_ <;> intro h|(with_reducible apply And.intro)|exact aG|fail)
  all_goals try (exfalso;omega)
  refine⟨[],[],⟨(j+1,sv),by omega,by simp only;exact hI2.1,by simp only;exact hI2.2⟩,?_,aI⟩
  exact aX
 have hsl:=getD_map eHeld [] noHeld l k hkk
 obtain⟨hJ1,hJl,hJs⟩:=hI
 generalize hx:l.getD k noHeld=x at *
 repeat' (first|refine gS ?_|refine sp ?_ ?_ <;> intro h|(with_reducible apply And.intro)|exact aG|fail)
 refine gl (κ:=Nat × Bool) hm0 (fun q_=>q_.1≤p.kept.length) (fun q_=>[(1,.bp 1 0 0),(2,.bp 2 0 0),(3,I j),(4,.d (dHelds l)),(5,I k),(6,B q_.2),(7,I q_.1)]) (fun q_=>[(1,.box 0 [I w.s.kind,I w.s.sv,I w.s.deg,I w.s.grp,.d (dTwos w.people),.d (dTabs ts),.og 17000 0,.d (dNotes w.flight),.og 17001 0,I w.disk.seed,I w.disk.drawn,.d (dStarts w.disk.begun),.d (dTwos p.rows),.d (dInts p.kept),.d (dInts w.liars),.og 17002 0]),(2,.box 0 [I 0,I 0,I 0,I 0,.nl 2,.nl 4,.nl 8,.nl 8,.nl 15,I 0,I 0,.nl 5,.nl 2,.nl 1,.nl 1,.nl 4]),(17000,.arr 0 8 true (sv.map eSrv)),(17001,.arr 0 15 true (w.rd.map eRd)),(17002,.arr 0 4 true w.results)]) (fun q_=>p.kept.length-q_.1) [] [] (0,false) ?_
 rintro⟨i,b⟩ hI
 try simp only at hI ⊢
 try have hI2:=hI.2
 by_cases hi:i<p.kept.length
 ·have hsk:=getD_map eI [] 0 p.kept i hi
  generalize p.kept.getD i 0=z at *
  cases b
  ·repeat' (first|simp (maxSteps:=9999999) only[↓GE,PQ,seval,hsk,hi,hsl,hkk,eHeld,eI]|refine gS ?_|refine sp ?_ ?_ <;> intro h|(with_reducible apply And.intro)|exact aG|fail)
   all_goals try (exfalso;omega)
   all_goals (refine⟨[],[],⟨(i+1,(z == x.hd.num)),by omega⟩,?_,aI⟩;exact aX)
  ·repeat' (first|simp (maxSteps:=9999999) only[↓GE,PQ,seval,hsk,hi,hsl,hkk,eHeld,eI]|refine gS ?_|refine sp ?_ ?_ <;> intro h|(with_reducible apply And.intro)|exact aG|fail)
   all_goals try (exfalso;omega)
   all_goals (refine⟨[],[],⟨(i+1,true),by omega⟩,?_,aI⟩;exact aX)
 cases b
 ·have hj3:j<sv.length:=by omega
  have hst:=getD_map eSrv [] noSrv sv j hj3
  have hy:=hJs j hj3
  have hset:=fun v (hv:SrvOK w.s (j+1:Nat) v)=>srvs_set hJs hj3 hv
  generalize sv.getD j noSrv=y at *
  repeat' (first|simp (maxSteps:=9999999) only[↓GE,PQ,seval,hst,hj3,hsl,hkk,eSrv,eHeld]|refine gS ?_|refine sp ?_ ?_ <;> intro h|(with_reducible apply And.intro)|exact aG|fail)
  all_goals try (exfalso;omega)
  (refine gW (drop30 y x.hd.num hy) ?_;rintro _ ⟨y',e',rfl,hy'⟩ <;> refine⟨rfl,?_⟩)
  repeat' (first|simp (maxSteps:=9999999) only[↓GE,PQ,seval,hst,hj3,drop_eSrv,set_eSrv,eSrv]|refine gS ?_|refine sp ?_ ?_ <;> intro h|(with_reducible apply And.intro)|exact aG|fail)
  all_goals try (exfalso;omega)
  refine⟨[],[],⟨(k+1,sv.set j y'),by omega,by simp only[List.length_set];omega,hset y' hy'⟩,?_,aI⟩
  exact aX
 ·repeat' (first|refine gS ?_|refine sp ?_ ?_ <;> intro h|(with_reducible apply And.intro)|exact aG|fail)
  all_goals try (exfalso;omega)
  refine⟨[],[],⟨(k+1,sv),by omega,hJl,hJs⟩,?_,aI⟩
  exact aX
end Go.Proofs.YticdbambknflgaaGreat.Sim
end
section
namespace Go.Proofs.YticdbambknflgaaGreat.Sim
open Go
set_option maxRecDepth 100000
set_option maxHeartbeats 4000000
set_option linter.unusedVariables false
set_option linter.unusedSimpArgs false
attribute [local irreducible] Go Mean
theorem findT_mem {n:Int}:∀ {l:List PTab} {t:PTab},findT n l=some t→t ∈ l
 |[],t,h=>by simp [findT] at h
 |x :: l,t,h=>by
  rw[findT] at h
  split at h
  ·cases h;simp
  ·exact List.mem_cons_of_mem _ (findT_mem h)
theorem findP_bd {ts:List PTab} {n:Nat} (h:PubOK ts n) (hn:n≤100) (x:Int):(findP ts x).1.rows.length≤1000000∧∀ r ∈ (findP ts x).1.rows,r.length≤1000000:=by
 unfold findP
 split
 ·simp [noTab]
 ·split
  ·rename_i t ht
   have:=h.tabs t (findT_mem ht)
   have h1:=this.len
   have h2:=this.w2
   exact⟨by simp only;omega,fun r hr=>by have:=(this.rows r hr).1;omega⟩
  ·simp [noTab]
theorem finish40 (w:PWorld) (n:Nat) (rd:Int) (hw:WOK w n) (hn:n≤10):DoesE Tryz.prog 68 [w3 w,I rd] (bxW w 0 0 0) (QW (n+1)):=by
 have hq':=hw.mono (Nat.le_succ n)
 have hnr:=hw.nr
 have hre:=hw.re
 have hfl:=hw.fl
 refine wE Tryz.func68 fun cx hm0=>?_
 by_cases hr:0≤rd∧rd<w.rd.length
 case neg =>
  repeat' (first|refine gS ?_|refine sp ?_ ?_ <;> intro h|(with_reducible apply And.intro)|exact aG|fail)
  all_goals try (exfalso;omega)
  all_goals (refine dE ?_;exact QW.mk hq')
 obtain⟨k,rfl⟩:∃ k:Nat,rd=k:=⟨rd.toNat,by omega⟩
 have hk:k<w.rd.length:=by omega
 have hs:=getD_map eRd [] noRd w.rd k hk
 have hv:=hw.rd _ (mem_getD noRd w.rd k hk)
 have hset:=fun r (hr:RdOK r)=>hq'.setR (k:=k) hr
 generalize w.rd.getD k noRd=r at *
 cases hen:r.ended with
 |true =>
  repeat' (first|refine gQ hs hk hen eRd.eq_1 ?_|refine sp ?_ ?_ <;> intro h|(with_reducible apply And.intro)|exact aG|fail)
  all_goals try (exfalso;omega)
  refine dE ?_
  exact QW.mk hq'
 |false =>
 have hv2:RdOK { r with ended:=true }:=⟨hv.sv,hv.nr,hv.nq,hv.na,hv.nm,hv.qs,hv.ans,hv.ms⟩
 have e0:=end32 r hv
 obtain⟨r0,r1,r2,r3,r4,r5,r6,r7⟩:=r
 simp only at hen
 subst hen
 have e1:=r37find w.tabs r2.num (hw.pub.ok (by omega))
 obtain⟨hf1,hf2⟩:=findP_bd hw.pub (by omega) r2.num
 generalize (findP w.tabs r2.num).2=fe at *
 generalize (findP w.tabs r2.num).1=t at *
 have hsr:=set_eRd w.rd k ⟨r0,r1,r2,r3,r4,r5,r6,true⟩
 simp only at hsr
 repeat' (first|simp (maxSteps:=9999999) only[↓GE,PQ,seval,hs,hk,eRd,drop_eRd,hsr]|refine gS ?_|refine sp ?_ ?_ <;> intro h|(exfalso;omega)|refine gP e1 ?_|(refine gW e0 ?_;rintro _ ⟨o,rfl,ho1,ho2⟩ <;> refine⟨rfl,?_⟩)|(with_reducible apply And.intro)|exact aG|fail)
 all_goals try (exfalso;omega)
 (refine gW (collect33 ⟨r0,r1,r2,r3,r4,r5,r6,true⟩ o hv2 ho1 (fun x hx=>(ho2 x hx).2)) ?_;rintro _ ⟨ev,rfl,he1,he2⟩ <;> refine⟨rfl,?_⟩)
 have hset2:=hset _ hv2
 generalize w.rd.set k (⟨r0,r1,r2,r3,r4,r5,r6,true⟩:PRd)=R at *
 repeat' (first|refine gS ?_|refine sp ?_ ?_ <;> intro h|(with_reducible apply And.intro)|exact aG|fail)
 refine gl (κ:=Nat × (List PNote) × Nat) hm0 (fun q_=>q_.1≤ev.length∧q_.2.1.length≤q_.1) (fun q_=>[(1,I k),(2,.bp 2 0 0),(4,.bp 4 0 0),(6,.bp 6 0 0),(7,.d (dOuts o)),(8,.bp 8 0 0),(10,.og 72 q_.2.2),(55,.d (dNotes ev)),(56,I ev.length),(57,I q_.1)]) (fun q_=>[(2,.box 0 [I w.s.kind,I w.s.sv,I w.s.deg,I w.s.grp,.d (dTwos w.people),.d (dTabs w.tabs),.og 17000 0,.d (dNotes w.flight),.og 17001 0,I w.disk.seed,I w.disk.drawn,.d (dStarts w.disk.begun),.d (dTwos w.pins.rows),.d (dInts w.pins.kept),.d (dInts w.liars),.og 17002 0]),(4,.box 0 [I 0,I 0,I 0,I 0,.nl 2,.nl 4,.nl 8,.nl 8,.nl 15,I 0,I 0,.nl 5,.nl 2,.nl 1,.nl 1,.nl 4]),(6,.box 0 [I r0,I r1.kind,I r1.sv,I r1.deg,I r1.grp,I r2.num,I r2.p,I r2.count,I r2.width,I r2.root,.d (dInts r3),.d (dQs r4),.d (dAnss r5),.d (dRows r6),B true]),(8,.box 0 [I t.num,I t.p,I t.width,.d (dRows t.rows)]),(72,.arr q_.2.2 8 true (q_.2.1.map eNote)),(17000,.arr 0 8 true (w.srv.map eSrv)),(17001,.arr 0 15 true (R.map eRd)),(17002,.arr 0 4 true w.results)]) (fun q_=>ev.length-q_.1) [] [72] (0,[],0) ?_
 rintro⟨j,pf,v⟩ hI
 try simp only at hI ⊢
 try have hI2:=hI.2
 by_cases hj:j<ev.length
 ·have hst:=getD_map eNote [] noNote ev j hj
  have hx:=he2 _ (mem_getD noNote ev j hj)
  generalize ev.getD j noNote=x at *
  repeat' (first|refine gC hst hj eNote.eq_1 ?_|refine sp ?_ ?_ <;> intro h|(with_reducible apply And.intro)|exact aG|fail)
  all_goals try (exfalso;omega)
  (refine gW (check33 w.people w.s t x hw.pp hf1 hf2 (by omega) (by omega)) ?_;rintro _ ⟨e,rfl⟩ <;> refine⟨rfl,?_⟩)
  repeat' (first|refine gS ?_|refine sp ?_ ?_ <;> intro h|(with_reducible apply And.intro)|exact aG|fail)
  all_goals try (exfalso;omega)
  ·refine⟨[],[],⟨(j+1,pf++[x],v+1),aI⟩,?_,aI⟩
   exact aY eNote.eq_1
  ·refine⟨[],[],⟨(j+1,pf,v),aI⟩,?_,aI⟩
   exact aX
 ·repeat' (first|refine gS ?_|refine sp ?_ ?_ <;> intro h|(exfalso;omega)|(refine gW (close39 w.pins k hw.pin) ?_;rintro _ ⟨p,e,rfl,hp⟩ <;> refine⟨rfl,?_⟩)|(with_reducible apply And.intro)|exact aG|fail)
  all_goals try (exfalso;omega)
  (refine gW (end36 w.disk k hw.dk) ?_;rintro _ ⟨d,e2,rfl,hd⟩ <;> refine⟨rfl,?_⟩)
  repeat' (first|refine gS ?_|refine sp ?_ ?_ <;> intro h|(with_reducible apply And.intro)|exact aG|fail)
  (refine gW (drop31 w.flight k (by omega)) ?_;rintro _ ⟨c,rfl,hc1,hc2⟩ <;> refine⟨rfl,?_⟩)
  repeat' (first|refine gS ?_|refine sp ?_ ?_ <;> intro h|(with_reducible apply And.intro)|exact aG|fail)
  have hok:WOK { w with rd:=R,results:=w.results++[[iD k,iD r2.num,dOuts o,dNotes pf]],pins:=p,disk:=d,flight:=c } (n+1):={ hset2 with
   fl:=by simp only;omega
   nt:=fun y hy=>hw.nt y (hc2 y hy)
   dk:=hd
   pin:=hp
   re:=by simp only[List.length_append,List.length_singleton];omega }
  refine dE ?_
  exact QW.mk hok
end Go.Proofs.YticdbambknflgaaGreat.Sim
end
section
namespace Go.Proofs.YticdbambknflgaaGreat.Sim
open Go
set_option maxRecDepth 100000
set_option maxHeartbeats 4000000
set_option linter.unusedVariables false
set_option linter.unusedSimpArgs false
attribute [local irreducible] Go Mean
theorem rds_set {R:List PRd} {k:Nat} {r:PRd} (h:∀ x ∈ R,RdOK x) (hr:RdOK r):∀ x ∈ R.set k r,RdOK x:=fun x hx=>by
 rcases List.mem_or_eq_of_mem_set hx with hx|rfl
 ·exact h x hx
 ·exact hr
theorem restart40 (w:PWorld) (n:Nat) (hw:WOK w n) (hn:n≤10):DoesE Tryz.prog 70 [w3 w] (bxW w 0 0 0) (QW (n+1)):=by
 have hq':=hw.mono (Nat.le_succ n)
 have hnr:=hw.nr
 have hrd:=hw.rd
 have hfl:=hw.fl
 have hs3:=hw.s3
 have hs6:=hw.s6
 refine wE Tryz.func70 fun cx hm0=>?_
 repeat' (first|refine gS ?_|refine sp ?_ ?_ <;> intro h|(with_reducible apply And.intro)|exact aG|fail)
 refine gl (κ:=Nat × (List PRd) × (List PNote) × Nat) hm0 (fun q_=>(q_.1≤w.rd.length∧q_.2.1.length=w.rd.length∧q_.2.2.1.length≤160*q_.1)∧(∀ r ∈ q_.2.1,RdOK r)∧∀ x ∈ q_.2.2.1,x.query.length≤1024∧x.values=[]) (fun q_=>[(1,.bp 1 0 0),(2,.bp 2 0 0),(4,.og 58 q_.2.2.2),(5,I q_.1)]) (fun q_=>[(1,.box 0 [I w.s.kind,I w.s.sv,I w.s.deg,I w.s.grp,.d (dTwos w.people),.d (dTabs w.tabs),.og 17000 0,.d (dNotes w.flight),.og 17001 0,I w.disk.seed,I w.disk.drawn,.d (dStarts w.disk.begun),.d (dTwos w.pins.rows),.d (dInts w.pins.kept),.d (dInts w.liars),.og 17002 0]),(2,.box 0 [I 0,I 0,I 0,I 0,.nl 2,.nl 4,.nl 8,.nl 8,.nl 15,I 0,I 0,.nl 5,.nl 2,.nl 1,.nl 1,.nl 4]),(58,.arr q_.2.2.2 8 true (q_.2.2.1.map eNote)),(17000,.arr 0 8 true (w.srv.map eSrv)),(17001,.arr 0 15 true (q_.2.1.map eRd)),(17002,.arr 0 4 true w.results)]) (fun q_=>w.rd.length-q_.1) [] [58] (0,w.rd,[],0) ?_
 rintro⟨j,R,o,v⟩ hI
 try simp only at hI ⊢
 try have hI2:=hI.2
 by_cases hj:j<w.rd.length
 case neg =>
  repeat' (first|refine gS ?_|refine sp ?_ ?_ <;> intro h|(exfalso;omega)|(refine gW (send31 w.flight o (by omega) (by omega)) ?_;rintro _ ⟨c,e,rfl,hc⟩ <;> refine⟨rfl,?_⟩)|(with_reducible apply And.intro)|exact aG|fail)
  all_goals try (exfalso;omega)
  ·have hok:WOK { w with rd:=R } (n+1):={ hq' with nr:=by simp only;omega,rd:=hI2.1 }
   refine dE ?_
   exact QW.mk hok
  ·have hok:WOK { w with rd:=R,flight:=c } (n+1):={ hq' with
    nr:=by simp only;omega
    rd:=hI2.1
    fl:=by rcases hc with rfl|⟨_,hc⟩ <;> (simp only;omega)
    nt:=fun y hy=>by
     rcases hc with rfl|⟨rfl,_⟩
     ·exact hw.nt y hy
     ·rcases List.mem_append.1 hy with hy|hy
      ·exact hw.nt y hy
      ·have:=hI2.2 y hy;rw[this.2];exact⟨by omega,by simp⟩ }
   refine dE ?_
   exact QW.mk hok
 have hj2:j<R.length:=by omega
 have hs:=getD_map eRd [] noRd R j hj2
 have hv:=hI2.1 _ (mem_getD noRd R j hj2)
 have hset:=fun r (hr:RdOK r)=>rds_set hI2.1 (k:=j) hr
 generalize R.getD j noRd=r at *
 have hrn:=hv.nr
 have hI3:=hI.1.2.2
 have hI4:=hI.1.2.1
 cases hen:r.ended with
 |true =>
  repeat' (first|refine gQ hs hj2 hen eRd.eq_1 ?_|refine sp ?_ ?_ <;> intro h|(with_reducible apply And.intro)|exact aG|fail)
  all_goals try (exfalso;omega)
  refine⟨[],[],⟨(j+1,R,o,v),by simp only;omega,hI2⟩,?_,aI⟩
  exact aX
 |false =>
 repeat' (first|refine gQ hs hj2 hen eRd.eq_1 ?_|refine sp ?_ ?_ <;> intro h|(exfalso;omega)|(refine gW (resume36 w.disk j hw.dk) ?_;rintro _ ⟨st,u,b,e,rfl,hu⟩ <;> refine⟨rfl,?_⟩)|(with_reducible apply And.intro)|exact aG|fail)
 all_goals try (exfalso;omega)
 (refine gW (begin32 j w.s r.h r.rows u b (by omega) hu hs3 hs6) ?_;rintro _ ⟨x,u2,b2,e2,rfl,hx,hu2⟩ <;> refine⟨rfl,?_⟩)
 have e3:=notes32 x hx
 obtain⟨ho1,ho2⟩:=notesF_ok hx
 generalize notesF x=y at *
 repeat' (first|simp (maxSteps:=9999999) only[↓GE,PQ,seval,hs,hj2,drop_eRd,set_eRd,eRd]|refine gS ?_|refine sp ?_ ?_ <;> intro h|refine gP e3 ?_|(with_reducible apply And.intro)|exact aG|fail)
 all_goals try (exfalso;omega)
 refine⟨[],[],⟨(j+1,R.set j x,o++y,v+1),⟨by simp only;omega,by simp only[List.length_set];omega,by simp only[List.length_append];omega⟩,hset x hx,fun z hz=>?_⟩,?_,aI⟩
 ·rcases List.mem_append.1 hz with hz|hz
  ·exact hI2.2 z hz
  ·exact ho2 z hz
 ·exact aX
end Go.Proofs.YticdbambknflgaaGreat.Sim
end
section
namespace Go.Proofs.YticdbambknflgaaGreat.Sim
open Go
set_option maxRecDepth 100000
set_option maxHeartbeats 4000000
set_option linter.unusedVariables false
set_option linter.unusedSimpArgs false
attribute [local irreducible] Go Mean
theorem begin40 (w:PWorld) (n:Nat) (rows:List Int) (hw:WOK w n) (hn:n≤10) (hr:rows.length≤1000000):DoesE Tryz.prog 59 [w3 w,.d (dInts rows)] (bxW w 0 0 0) (QW (n+1)):=by
 have hpub:=hw.pub
 have e1:=r37newest w.tabs (hpub.ok (by omega))
 rw[newest_ok hpub] at e1
 have hl:=hpub.last
 have e2:=r14head (lastT w.tabs) (by have:=hl.len;omega) hl.short
 rw[head_ok hl (by omega)] at e2
 have hq:=hw.mono (Nat.le_succ n)
 have hnr:=hw.nr
 have hre:=hw.re
 generalize (rootF ((lastT w.tabs).rows.map rowF)).1=rt at *
 generalize lastT w.tabs=t at *
 have hs3:=hw.s3
 have hs6:=hw.s6
 have htl:=hl.len
 refine wE Tryz.func59 fun cx hm0=>?_
 repeat' (first|refine gS ?_|refine sp ?_ ?_ <;> intro h|(exfalso;omega)|refine gP e1 ?_|refine gP e2 ?_|(refine gW (valid24 rows t.rows.length hr) ?_;rintro _ ⟨b,rfl,hb⟩ <;> refine⟨rfl,?_⟩)|(with_reducible apply And.intro)|exact aG|fail)
 all_goals try (refine dE ?_;exact QW.mk hq)
 repeat' (first|refine gS ?_|refine sp ?_ ?_ <;> intro h|(exfalso;omega)|(refine gW (open39 w.pins w.rd.length hw.pin) ?_;rintro _ ⟨pn,k,e,rfl,hp⟩ <;> refine⟨rfl,?_⟩)|(with_reducible apply And.intro)|exact aG|fail)
 all_goals try (refine dE ?_;exact QW.mk hq)
 repeat' (first|refine gS ?_|refine sp ?_ ?_ <;> intro h|(exfalso;omega)|(refine gW (limits24 w.s t.p t.rows.length rows.length) ?_;rintro _ ⟨l,e,rfl,hl⟩ <;> refine⟨rfl,?_⟩)|(with_reducible apply And.intro)|exact aG|fail)
 all_goals try (refine dE ?_;exact QW.mk hq)
 repeat' (first|refine gS ?_|refine sp ?_ ?_ <;> intro h|(exfalso;omega)|(refine gW (begin36 w.disk w.rd.length t.num t.p l.length hw.dk) ?_;rintro _ ⟨d,u,b,e,rfl,hd,hu⟩ <;> refine⟨rfl,?_⟩)|(with_reducible apply And.intro)|exact aG|fail)
 all_goals try (refine dE ?_;exact QW.mk hq)
 repeat' (first|refine gS ?_|refine sp ?_ ?_ <;> intro h|(exfalso;omega)|(refine gW (begin32 w.rd.length w.s ⟨t.num,t.p,t.rows.length,t.width,rt⟩ rows u b hr hu hs3 hs6) ?_;rintro _ ⟨x,u2,b2,e,rfl,hx,hu2⟩ <;> refine⟨rfl,?_⟩)|(with_reducible apply And.intro)|exact aG|fail)
 all_goals try (refine dE ?_;exact QW.mk hq)
 have e3:=notes32 x hx
 obtain⟨ho1,ho2⟩:=notesF_ok hx
 generalize notesF x=o at *
 repeat' (first|simp (maxSteps:=9999999) only[↓GE,PQ,seval,List.length_append]|refine gS ?_|refine sp ?_ ?_ <;> intro h|(exfalso;omega)|refine gP e3 ?_|(refine gW (send31 w.flight o (by have:=hw.fl;omega) (by omega)) ?_;rintro _ ⟨c,e,rfl,hc⟩ <;> refine⟨rfl,?_⟩)|(with_reducible apply And.intro)|exact aG|fail)
 all_goals try (refine dE ?_;exact QW.mk hq)
 refine dE ?_
 have hfl:=hw.fl
 have hok:WOK { w with pins:=pn,disk:=d,flight:=c,rd:=w.rd++[x] } (n+1):={ hq with
  fl:=by rcases hc with rfl|⟨_,hc⟩ <;> (simp only;omega)
  nt:=fun y hy=>by
   rcases hc with rfl|⟨rfl,_⟩
   ·exact hw.nt y hy
   ·rcases List.mem_append.1 hy with hy|hy
    ·exact hw.nt y hy
    ·have:=ho2 y hy;rw[this.2];exact⟨by omega,by simp⟩
  nr:=by simp only[List.length_append,List.length_cons,List.length_nil];omega
  rd:=allA hw.rd hx
  dk:=hd
  pin:=hp }
 exact⟨_,0,1,0,0,rfl,by simp [bxW,eRd],hok⟩
end Go.Proofs.YticdbambknflgaaGreat.Sim
end
section
namespace Go.Proofs.YticdbambknflgaaGreat.Sim
open Go
set_option maxRecDepth 100000
set_option maxHeartbeats 4000000
set_option linter.unusedVariables false
set_option linter.unusedSimpArgs false
attribute [local irreducible] Go Mean
structure PStep where
 kind:Int
 num:Int
 rows:List Int
 chg:PChg
abbrev vStep (x:PStep):V:=.ag [I x.kind,I x.num,.d (dInts x.rows),I x.chg.fr,I x.chg.tt,I x.chg.count,.d (dSets x.chg.sets)]
def ChgOK (w:PWorld) (n:Nat) (c:PChg):Prop:=c.sets.length≤1000000∧ShortS c.sets∧PubOK (pubF w.tabs c).1 (n+1)
theorem do40 (w:PWorld) (n:Nat) (x:PStep) (hw:WOK w n) (hn:n≤10) (hr:x.rows.length≤1000000) (hc:x.kind=8→ChgOK w n x.chg):DoesP Tryz.prog 44 [vWorld w,vStep x] (fun r=>∃ w' e,r=.tu [vWorld w',I e]∧WOK w' (n+1)):=by
 have hq':=hw.mono (Nat.le_succ n)
 have hns:=hw.nsrv
 have hnr:=hw.nr
 have hre:=hw.re
 have hfl:=hw.fl
 have e0:=copy40 w (by omega) (by omega) (by omega)
 obtain⟨kd,num,rows,c⟩:=x
 simp only at hr hc
 refine⟨⟨_,w,0,rfl,hq'⟩,wE Tryz.func44 fun cx hm0=>?_⟩
 by_cases hk1:kd=1
 ·subst hk1
  repeat' (first|refine gS ?_|refine sp ?_ ?_ <;> intro h|(exfalso;omega)|refine gN e0 ?_|(refine gE (begin40 w n rows hw hn hr) ?_;rintro _ _ ⟨w',a,b,c',e,rfl,rfl,hw'⟩ <;> refine gG ?_)|(with_reducible apply And.intro)|exact aG|fail)
  all_goals first|(refine dP ?_;exact⟨w,_,rfl,hq'⟩)|(refine dP ?_;exact⟨w',_,rfl,hw'⟩)
 by_cases hk2:kd=2
 ·subst hk2
  repeat' (first|refine gS ?_|refine sp ?_ ?_ <;> intro h|(exfalso;omega)|refine gN e0 ?_|(refine gW (look31 w.flight num (by omega)) ?_;rintro _ ⟨x,e,rfl,he⟩ <;> refine⟨rfl,?_⟩)|(with_reducible apply And.intro)|exact aG|fail)
  all_goals try (refine dP ?_;exact⟨w,_,rfl,hq'⟩)
  have e3:=deliver40 w n num true hw hn
  simp only[w3,vWd,bxW] at e3
  repeat' (first|refine gS ?_|refine sp ?_ ?_ <;> intro h|(exfalso;omega)|(refine gE e3 ?_;rintro _ _ ⟨w',a,b,c',e,rfl,rfl,hw'⟩ <;> refine gG ?_)|(with_reducible apply And.intro)|exact aG|fail)
  all_goals first|(refine dP ?_;exact⟨w,_,rfl,hq'⟩)|(refine dP ?_;exact⟨w',_,rfl,hw'⟩)
 by_cases hk3:kd=3
 ·subst hk3
  have e3:=deliver40 w n num false hw hn
  simp only[w3,vWd,bxW] at e3
  repeat' (first|refine gS ?_|refine sp ?_ ?_ <;> intro h|(exfalso;omega)|refine gN e0 ?_|(refine gE e3 ?_;rintro _ _ ⟨w',a,b,c',e,rfl,rfl,hw'⟩ <;> refine gG ?_)|(with_reducible apply And.intro)|exact aG|fail)
  all_goals first|(refine dP ?_;exact⟨w,_,rfl,hq'⟩)|(refine dP ?_;exact⟨w',_,rfl,hw'⟩)
 by_cases hk4:kd=4
 ·subst hk4
  repeat' (first|refine gS ?_|refine sp ?_ ?_ <;> intro h|(exfalso;omega)|refine gN e0 ?_|(refine gW (take31 w.flight num (by omega)) ?_;rintro _ ⟨c,x,e,rfl,hc1,hc2,hc3⟩ <;> refine⟨rfl,?_⟩)|(with_reducible apply And.intro)|exact aG|fail)
  all_goals try (refine dP ?_;exact⟨w,_,rfl,hq'⟩)
  have hwc:WOK { w with flight:=c } (n+1):={ hq' with fl:=by simp only;omega,nt:=fun y hy=>hw.nt y (hc2 y hy) }
  refine dP ?_
  exact⟨_,0,rfl,hwc⟩
 by_cases hk5:kd=5
 ·subst hk5
  repeat' (first|refine gS ?_|refine sp ?_ ?_ <;> intro h|(exfalso;omega)|refine gN e0 ?_|(refine gE (word40 w n num hw hn) ?_;rintro _ _ ⟨w',a,b,c',e,rfl,rfl,hw'⟩ <;> refine gG ?_)|(with_reducible apply And.intro)|exact aG|fail)
  all_goals first|(refine dP ?_;exact⟨w,_,rfl,hq'⟩)|(refine dP ?_;exact⟨w',_,rfl,hw'⟩)
 by_cases hk6:kd=6
 ·subst hk6
  repeat' (first|refine gS ?_|refine sp ?_ ?_ <;> intro h|refine gN e0 ?_|(with_reducible apply And.intro)|exact aG|fail)
  (refine gE (server40 w num (by omega)) ?_;rintro _ _ ⟨i,rfl,rfl,hi1,hi2,hi3⟩ <;> refine gG ?_)
  by_cases hi0:0≤i
  case neg =>
   repeat' (first|refine gS ?_|refine sp ?_ ?_ <;> intro h|(with_reducible apply And.intro)|exact aG|fail)
   all_goals try (exfalso;omega)
   refine dP ?_
   exact⟨w,_,rfl,hq'⟩
  obtain⟨k,rfl⟩:∃ k:Nat,i=k:=⟨i.toNat,by omega⟩
  have hk:k<w.srv.length:=by omega
  have hs:=getD_map eSrv [] noSrv w.srv k hk
  have hv:=hw.srv k hk
  have hset:=fun v (hv:SrvOK w.s (k+1:Nat) v)=>(hw.set hk hv).mono (Nat.le_succ n)
  generalize w.srv.getD k noSrv=v at *
  have e4:=crash30 v
  have hsc:=set_eSrv w.srv k { v with up:=false,jobs:=[] }
  simp only at hsc
  repeat' (first|simp (maxSteps:=9999999) only[↓GE,PQ,seval,hs,hk,eSrv,drop_eSrv,hsc]|refine gS ?_|refine sp ?_ ?_ <;> intro h|refine gP e4 ?_|(with_reducible apply And.intro)|exact aG|fail)
  all_goals try (exfalso;omega)
  all_goals try (refine dP ?_;exact⟨w,_,rfl,hq'⟩)
  refine dP ?_
  exact⟨_,0,rfl,hset { v with up:=false,jobs:=[] } ⟨hv.id,hv.s,hv.nv,by simp,hv.vers,by simp⟩⟩
 by_cases hk7:kd=7
 ·subst hk7
  repeat' (first|refine gS ?_|refine sp ?_ ?_ <;> intro h|(exfalso;omega)|refine gN e0 ?_|(refine gE (start40 w n num hw hn) ?_;rintro _ _ ⟨w',a,b,c',e,rfl,rfl,hw'⟩ <;> refine gG ?_)|(with_reducible apply And.intro)|exact aG|fail)
  all_goals first|(refine dP ?_;exact⟨w,_,rfl,hq'⟩)|(refine dP ?_;exact⟨w',_,rfl,hw'⟩)
 by_cases hk8:kd=8
 ·subst hk8
  obtain⟨hc1,hc2,hc3⟩:=hc rfl
  repeat' (first|refine gS ?_|refine sp ?_ ?_ <;> intro h|(exfalso;omega)|refine gN e0 ?_|(refine gE (update40 w n c hw hn hc1 hc2 hc3) ?_;rintro _ _ ⟨w',a,b,c',e,rfl,rfl,hw'⟩ <;> refine gG ?_)|(with_reducible apply And.intro)|exact aG|fail)
  all_goals first|(refine dP ?_;exact⟨w,_,rfl,hq'⟩)|(refine dP ?_;exact⟨w',_,rfl,hw'⟩)
 by_cases hk9:kd=9
 ·subst hk9
  repeat' (first|refine gS ?_|refine sp ?_ ?_ <;> intro h|(exfalso;omega)|refine gN e0 ?_|(refine gE (finish40 w n num hw hn) ?_;rintro _ _ ⟨w',a,b,c',e,rfl,rfl,hw'⟩ <;> refine gG ?_)|(with_reducible apply And.intro)|exact aG|fail)
  all_goals first|(refine dP ?_;exact⟨w,_,rfl,hq'⟩)|(refine dP ?_;exact⟨w',_,rfl,hw'⟩)
 by_cases hk10:kd=10
 ·subst hk10
  repeat' (first|refine gS ?_|refine sp ?_ ?_ <;> intro h|(exfalso;omega)|refine gN e0 ?_|(refine gE (collect40 w n hw hn) ?_;rintro _ _ ⟨w',a,b,c',rfl,rfl,hw'⟩ <;> refine gG ?_)|(with_reducible apply And.intro)|exact aG|fail)
  all_goals first|(refine dP ?_;exact⟨w,_,rfl,hq'⟩)|(refine dP ?_;exact⟨w',_,rfl,hw'⟩)
 by_cases hk11:kd=11
 ·subst hk11
  repeat' (first|refine gS ?_|refine sp ?_ ?_ <;> intro h|(exfalso;omega)|refine gN e0 ?_|(refine gE (restart40 w n hw hn) ?_;rintro _ _ ⟨w',a,b,c',e,rfl,rfl,hw'⟩ <;> refine gG ?_)|(with_reducible apply And.intro)|exact aG|fail)
  all_goals first|(refine dP ?_;exact⟨w,_,rfl,hq'⟩)|(refine dP ?_;exact⟨w',_,rfl,hw'⟩)
 have hb1:(kd == 1)=false:=by simpa using hk1
 have hb2:(kd == 2)=false:=by simpa using hk2
 have hb3:(kd == 3)=false:=by simpa using hk3
 have hb4:(kd == 4)=false:=by simpa using hk4
 have hb5:(kd == 5)=false:=by simpa using hk5
 have hb6:(kd == 6)=false:=by simpa using hk6
 have hb7:(kd == 7)=false:=by simpa using hk7
 have hb8:(kd == 8)=false:=by simpa using hk8
 have hb9:(kd == 9)=false:=by simpa using hk9
 have hb10:(kd == 10)=false:=by simpa using hk10
 have hb11:(kd == 11)=false:=by simpa using hk11
 repeat' (first|simp (maxSteps:=9999999) only[↓GE,PQ,seval,hb1,hb2,hb3,hb4,hb5,hb6,hb7,hb8,hb9,hb10,hb11]|refine gS ?_|refine sp ?_ ?_ <;> intro h|refine gN e0 ?_|(with_reducible apply And.intro)|exact aG|fail)
 refine dP ?_
 exact⟨w,_,rfl,hq'⟩
end Go.Proofs.YticdbambknflgaaGreat.Sim
end
section
namespace Go.Proofs.YticdbambknflgaaGreat.Sim
open Go
set_option maxRecDepth 100000
set_option maxHeartbeats 4000000
set_option linter.unusedVariables false
set_option linter.unusedSimpArgs false
attribute [local irreducible] Go Mean
def okS (s:PSch):Prop:=3≤s.sv∧s.sv≤6∧((s.kind=1∧s.deg=0∧s.grp=0)∨(s.kind=2∧1≤s.deg∧s.deg≤2∧s.grp=0)∨(s.kind=3∧1≤s.deg∧s.deg≤2∧s.grp=1)∨(s.kind=3∧s.deg=1∧s.grp=2∧4≤s.sv))
theorem dscheme (l:List UInt8) (hl:l.length≤140737488355328) (k:Nat):∃ s k',okS s∧Does Tryz.prog 45 [dcp] (dc l k) (vSch s) (dc l k') []:=by
 have e0:=pick l hl k 4 (by omega)
 have a0:=pickV_in l k 4 (by omega)
 generalize pickV l k 4=v0 at *
 generalize pickK l k=k1 at *
 have e1:=pick l hl k1 3 (by omega)
 have a1:=pickV_in l k1 3 (by omega)
 generalize pickV l k1 3=v1 at *
 generalize pickK l k1=k2 at *
 have e2:=pick l hl k2 2 (by omega)
 have a2:=pickV_in l k2 2 (by omega)
 generalize pickV l k2 2=v2 at *
 generalize pickK l k2=k3 at *
 have e3:=pick l hl k3 2 (by omega)
 have a3:=pickV_in l k3 2 (by omega)
 generalize pickV l k3 2=v3 at *
 generalize pickK l k3=k4 at *
 have w0:IntKind.i64.wrap (3+v0)=3+v0:=IntWalk.i64_in _ (by omega)
 have w2:IntKind.i64.wrap (1+v2)=1+v2:=IntWalk.i64_in _ (by omega)
 have w8:IntKind.i64.wrap (1+v3)=1+v3:=IntWalk.i64_in _ (by omega)
 have h1:v1=0∨v1=1∨v1=2:=by omega
 rcases h1 with rfl|rfl|rfl
 ·refine⟨⟨1,3+v0,0,0⟩,k2,⟨by simp only;omega,by simp only;omega,.inl ⟨rfl,rfl,rfl⟩⟩,?_⟩
  refine wB Tryz.func45 BxOK.one fun cx hm0=>?_
  repeat' (first|refine gA w0 ?_|refine sp ?_ ?_ <;> intro h|refine gL e0 ?_|refine gL e1 ?_|(with_reducible apply And.intro)|exact aG|fail)
  all_goals exact rt []
 ·refine⟨⟨2,3+v0,1+v2,0⟩,k3,⟨by simp only;omega,by simp only;omega,.inr (.inl ⟨rfl,by simp only;omega,by simp only;omega,rfl⟩)⟩,?_⟩
  refine wB Tryz.func45 BxOK.one fun cx hm0=>?_
  repeat' (first|refine gB w0 w2 ?_|refine sp ?_ ?_ <;> intro h|refine gL e0 ?_|refine gL e1 ?_|refine gL e2 ?_|(with_reducible apply And.intro)|exact aG|fail)
  all_goals exact rt []
 ·by_cases h2:v0=0
  ·refine⟨⟨3,3+v0,1+v2,1⟩,k3,⟨by simp only;omega,by simp only;omega,.inr (.inr (.inl ⟨rfl,by simp only;omega,by simp only;omega,rfl⟩))⟩,?_⟩
   refine wB Tryz.func45 BxOK.one fun cx hm0=>?_
   have q:decide (3+v0<4)=true:=decide_eq_true (by omega)
   repeat' (first|refine gC w0 w2 q ?_|refine sp ?_ ?_ <;> intro h|refine gL e0 ?_|refine gL e1 ?_|refine gL e2 ?_|(with_reducible apply And.intro)|exact aG|fail)
   all_goals exact rt []
  have q:decide (3+v0<4)=false:=decide_eq_false (by omega)
  by_cases h3:v2=0
  ·refine⟨⟨3,3+v0,1+v3,1⟩,k4,⟨by simp only;omega,by simp only;omega,.inr (.inr (.inl ⟨rfl,by simp only;omega,by simp only;omega,rfl⟩))⟩,?_⟩
   refine wB Tryz.func45 BxOK.one fun cx hm0=>?_
   have q2:(v2 == 0)=true:=by rw[beq_iff_eq];omega
   repeat' (first|refine gQ w0 w8 q q2 ?_|refine sp ?_ ?_ <;> intro h|refine gL e0 ?_|refine gL e1 ?_|refine gL e2 ?_|refine gL e3 ?_|(with_reducible apply And.intro)|exact aG|fail)
   all_goals exact rt []
  ·refine⟨⟨3,3+v0,1,2⟩,k3,⟨by simp only;omega,by simp only;omega,.inr (.inr (.inr ⟨rfl,rfl,rfl,by simp only;omega⟩))⟩,?_⟩
   refine wB Tryz.func45 BxOK.one fun cx hm0=>?_
   have q2:(v2 == 0)=false:=by rw[beq_eq_false_iff_ne];omega
   repeat' (first|refine gC w0 q q2 ?_|refine sp ?_ ?_ <;> intro h|refine gL e0 ?_|refine gL e1 ?_|refine gL e2 ?_|(with_reducible apply And.intro)|exact aG|fail)
   all_goals exact rt []
def wishG (l:List UInt8) (n:Int) (k:Nat):Nat→List Int × Nat
 |0=>([],k)
 |j+1=>((wishG l n k j).1++[pickV l (wishG l n k j).2 (n+1)-1],pickK l (wishG l n k j).2)
theorem wishG_len {l:List UInt8} {n:Int} {k:Nat}:∀ {j:Nat},(wishG l n k j).1.length=j
 |0=>rfl
 |j+1=>by rw[wishG];simp [wishG_len]
theorem wishG_in {l:List UInt8} {n:Int} {k:Nat} (hn:0≤n):∀ {j:Nat},∀ x ∈ (wishG l n k j).1,-1≤x∧x<n
 |0,x,h=>by simp [wishG] at h
 |j+1,x,h=>by
  rw[wishG] at h
  rcases List.mem_append.1 h with h|h
  ·exact wishG_in hn x h
  ·simp only[List.mem_singleton] at h
   have:=pickV_in l (wishG l n k j).2 (n+1) (by omega)
   omega
theorem dwish (l:List UInt8) (hl:l.length≤140737488355328) (k:Nat) (n:Int) (h1:0≤n) (h2:n≤1000000):∃ r k',1≤r.length∧r.length≤3∧(∀ x ∈ r,-1≤x∧x<n)∧Does Tryz.prog 56 [dcp,I n] (dc l k) (.d (dInts r)) (dc l k') []:=by
 have e0:=pick l hl k 3 (by omega)
 have a0:=pickV_in l k 3 (by omega)
 generalize pickK l k=k1 at *
 obtain⟨m,hm⟩:∃ m:Nat,pickV l k 3=(m:Int):=⟨(pickV l k 3).toNat,by omega⟩
 rw[hm] at e0 a0
 refine⟨(wishG l n k1 (m+1)).1,(wishG l n k1 (m+1)).2,by rw[wishG_len];omega,by rw[wishG_len];omega,wishG_in h1,?_⟩
 refine wB Tryz.func56 BxOK.one fun cx hm0=>?_
 have w0:IntKind.i64.wrap (1+(m:Int))=((m+1-0:Nat):Int):=by rw[show 1+(m:Int)=((m+1-0:Nat):Int) by omega];exact IntWalk.i64_in _ (by omega)
 repeat' (first|refine gA w0 ?_|refine sp ?_ ?_ <;> intro h|refine gL e0 ?_|(with_reducible apply And.intro)|exact aG|fail)
 refine go_loop 5000 hm0 (ι:={q:Nat × Nat // q.1≤m+1}) (fun i=>[(0,.bp 900000 0 0),(1,I n),(5,.og 21 i.1.2),(6,I ((m+1-i.1.1:Nat):Int))]) (fun i=>[(21,.arr i.1.2 1 true ((wishG l n k1 i.1.1).1.map eI)),(900000,.box 0 [.d (dBytes l),I (wishG l n k1 i.1.1).2])]) (fun i=>m+1-i.1.1) [21] ⟨(0,0),Nat.zero_le _⟩ ?_ ?_
 ·(simp only[GeS];refine⟨?_,?_,?_,?_⟩;all_goals (repeat' (first|(with_reducible exact True.intro)|(with_reducible rfl)|simp only[XC,↓reduceIte,seval]|(with_reducible apply And.intro)|(refine⟨_,rfl,?_⟩)|(simp [wishG];done)|exact aS|fail)))
 ·rintro⟨⟨j,v⟩,hj⟩
  simp only at hj
  have hlen:=wishG_len (l:=l) (n:=n) (k:=k1) (j:=j)
  by_cases hjn:j<m+1
  ·have e1:=pick l hl (wishG l n k1 j).2 (n+1) (by omega)
   have a1:=pickV_in l (wishG l n k1 j).2 (n+1) (by omega)
   have w1:IntKind.i64.wrap (n+1)=n+1:=IntWalk.i64_in _ (by omega)
   have w2:IntKind.i64.wrap (pickV l (wishG l n k1 j).2 (n+1)-1)=pickV l (wishG l n k1 j).2 (n+1)-1:=IntWalk.i64_in _ (by omega)
   have w8:IntKind.i64.wrap (((m+1-j:Nat):Int)-1)=((m+1-(j+1):Nat):Int):=by rw[show ((m+1-j:Nat):Int)-1=((m+1-(j+1):Nat):Int) by omega];exact IntWalk.i64_in _ (by omega)
   have q:decide (((m+1-j:Nat):Int) > 0)=true:=decide_eq_true (by omega)
   repeat' (first|simp (maxSteps:=9999999) only[↓GE,PQ,seval,w1,w2,w8,q,hlen]|refine gS ?_|refine sp ?_ ?_ <;> intro h|refine gL e1 ?_|(with_reducible apply And.intro)|exact aG|fail)
   refine⟨⟨(j+1,v+1),hjn⟩,?_,by simp only;omega⟩
   (simp only[GeS];refine⟨?_,?_,?_,?_⟩;all_goals (repeat' (first|(with_reducible exact True.intro)|(with_reducible rfl)|simp only[XC,↓reduceIte,seval]|(with_reducible apply And.intro)|(refine⟨_,rfl,?_⟩)|(simp [wishG,eI];done)|exact aS|fail)))
  ·obtain rfl:j=m+1:=by omega
   have q:decide (((m+1-(m+1):Nat):Int) > 0)=false:=decide_eq_false (by omega)
   repeat' (first|refine gA q ?_|refine sp ?_ ?_ <;> intro h|(with_reducible apply And.intro)|exact aG|fail)
   all_goals exact rt []
theorem ppl_len:ppl.length=10:=rfl
theorem people:Does Tryz.prog 49 [] [] (.d (dTwos ppl)) [] []:=by
 refine wD Tryz.func49 fun cx hm0=>?_
 repeat' (first|refine gS ?_|refine sp ?_ ?_ <;> intro h|(with_reducible apply And.intro)|exact aG|fail)
 refine gl (κ:=Nat × Nat) hm0 (fun q_=>q_.1≤10) (fun q_=>[(1,.og 13 q_.2),(2,I (q_.1+1))]) (fun q_=>[(13,.arr q_.2 2 true ((ppl.take q_.1).map eTwo))]) (fun q_=>10-q_.1) [] [13] (0,0) ?_ (h0:=(by simp only[GeZ];(simp only[GeS];refine⟨?_,?_,?_,?_⟩;all_goals (repeat' (first|(with_reducible exact True.intro)|(with_reducible rfl)|simp only[XC,↓reduceIte,seval]|(with_reducible apply And.intro)|(refine⟨_,rfl,?_⟩)|(simp [List.map_set,eI,List.take_zero];done)|exact aS|fail)))))
 rintro⟨k,v⟩ hI
 try simp only at hI ⊢
 try have hI2:=hI.2
 by_cases hk:k<10
 ·have hp:ppl.take (k+1)=ppl.take k++[((k:Int)+1,1000+((k:Int)+1))]:=by
   rw[take_succ_getD (0,0) ppl k (by rw[ppl_len];exact hk)]
   congr 2
   simp [ppl,List.getD_eq_getElem?_getD,hk]
   try omega
  have hl:(ppl.take k).length≤10:=by rw[List.length_take];omega
  have q:decide ((k:Int)+1≤10)=true:=decide_eq_true (by omega)
  repeat' (first|refine gA q ?_|refine sp ?_ ?_ <;> intro h|(with_reducible apply And.intro)|exact aG|fail)
  refine⟨[],[],⟨(k+1,v+1),by simp only;omega⟩,?_,aI⟩
  exact aY (And.intro hp eTwo.eq_1)
 ·obtain rfl:k=10:=by omega
  have ht:ppl.take 10=ppl:=List.take_of_length_le (by rw[ppl_len];omega)
  rw[ht]
  repeat' (first|refine gS ?_|refine sp ?_ ?_ <;> intro h|(with_reducible apply And.intro)|exact aG|fail)
  all_goals exact rt []
end Go.Proofs.YticdbambknflgaaGreat.Sim
end
section
namespace Go.Proofs.YticdbambknflgaaGreat.Sim
open Go
set_option maxRecDepth 100000
set_option maxHeartbeats 4000000
set_option linter.unusedVariables false
set_option linter.unusedSimpArgs false
attribute [local irreducible] Go Mean
theorem new36x (seed:Int) (h1:1≤seed) (h2:seed≤1000):Does Tryz.prog 76 [I seed] [] (.tu [vDisk ⟨seed,0,[]⟩,I 0]) [] []:=by
 refine doesD ⟨⟨_,rfl⟩,wE Tryz.func76 fun cx hm0=>?_⟩
 repeat' (first|refine gS ?_|refine sp ?_ ?_ <;> intro h|(with_reducible apply And.intro)|exact aG|fail)
 all_goals try (exfalso;omega)
 refine dP ?_
 rfl
theorem new30x (id:Int) (s:PSch) (hs:SchOK s) (h1:1≤id) (h2:id≤s.sv):Does Tryz.prog 79 [I id,vSch s] [] (.tu [vSrv ⟨id,s,true,[],[]⟩,I 0]) [] []:=by
 have e1:=shape23 s
 rw[decide_eq_true hs] at e1
 refine doesD ⟨⟨_,rfl⟩,wE Tryz.func79 fun cx hm0=>?_⟩
 repeat' (first|refine gS ?_|refine sp ?_ ?_ <;> intro h|refine gP e1 ?_|(with_reducible apply And.intro)|exact aG|fail)
 all_goals try (exfalso;omega)
 refine dP ?_
 rfl
theorem okS.ok {s:PSch} (h:okS s):SchOK s:=by
 obtain⟨h1,h2,h3⟩:=h
 refine⟨by omega,by omega,?_⟩
 rcases h3 with ⟨a,b,c⟩|⟨a,b,c,d⟩|⟨a,b,c,d⟩|⟨a,b,c,d⟩
 ·exact .inl ⟨a,b,c⟩
 ·exact .inr (.inl ⟨a,b,by omega,d⟩)
 ·exact .inr (.inr ⟨a,by omega,by omega,by omega,by omega,by omega⟩)
 ·exact .inr (.inr ⟨a,by omega,by omega,by omega,by omega,by omega⟩)
theorem new40 (s:PSch) (t:PTab) (seed:Int) (li:List Int) (hs:okS s) (ht:TabOK t 0) (h1:1≤seed) (h2:seed≤250) (hl:(li.length:Int)=s.sv) (hli:∀ x ∈ li,0≤x∧x<t.p):DoesP Tryz.prog 48 [vSch s,.d (dTwos ppl),vTab t,I seed,.d (dInts li)] (fun r=>∃ w e,r=.tu [vWorld w,I e]∧WOK w 0):=by
 have hs3:=hs.1
 have hs6:=hs.2.1
 have hsch:=hs.ok
 obtain⟨S,hS⟩:∃ S:Nat,s.sv=S:=⟨s.sv.toNat,by omega⟩
 have e1:=r14check t (by have:=ht.len;omega) ht.short
 rw[ht.check (by omega)] at e1
 have e2:=valid23 s t.p
 have hv:vldB s t.p=true:=vldB_iff.2 ⟨hs.ok,ht.fld,.inr (by have:=ht.p2;have:=hs.2.1;omega)⟩
 rw[hv] at e2
 have e3:=r37new t (okT_check (ht.check (by omega)))
 have hnp:newP t=([t],0):=by rw[newP,if_neg (by simp [ht.check])]
 rw[hnp] at e3
 have e4:=new36x seed h1 (by omega)
 have hr1:=ht.len1
 have hr2:=ht.len
 have hw2:=ht.w2
 have hww:∃ w:PWorld,WOK w 0:=by
  refine⟨⟨s,ppl,[t],(List.range S).map fun (k:Nat)=>⟨((k+1:Nat):Int),s,true,[],[]⟩,[],[],⟨1,0,[]⟩,⟨[],[]⟩,li,[]⟩,?_⟩
  refine⟨hs3,hs6,by simp [ppl_len],pub_one ht,by simp [hS],fun k hk=>?_,by simp,by simp,by simp,by simp,by simp,by simp [PinOK],by simp;omega,by simp⟩
  simp only[List.length_map,List.length_range] at hk
  have:((List.range S).map fun (k:Nat)=>(⟨((k+1:Nat):Int),s,true,[],[]⟩:PSrv)).getD k noSrv=⟨((k+1:Nat):Int),s,true,[],[]⟩:=by simp [List.getD_eq_getElem?_getD,hk]
  simp only[this]
  exact⟨rfl,rfl,by simp,by simp,by simp,by simp⟩
 obtain⟨w0,hww⟩:=hww
 refine⟨⟨_,w0,0,rfl,hww⟩,wE Tryz.func48 fun cx hm0=>?_⟩
 repeat' (first|refine gS ?_|refine sp ?_ ?_ <;> intro h|(with_reducible apply And.intro)|exact aG|fail)
 (refine gW (check22 ppl (by rw[ppl_len];omega)) ?_;rintro _ ⟨e,rfl,he⟩ <;> refine⟨rfl,?_⟩)
 obtain rfl:=he ppl_ok
 repeat' (first|refine gS ?_|refine sp ?_ ?_ <;> intro h|refine gP e1 ?_|refine gP e2 ?_|(with_reducible apply And.intro)|exact aG|fail)
 all_goals try (exfalso;omega)
 refine gl (κ:=Nat) hm0 (fun q_=>q_≤S) (fun q_=>[(1,.d (dTwos ppl)),(3,I seed),(4,.d (dInts li)),(5,.bp 5 0 0),(7,.bp 7 0 0),(10,.bp 10 0 0),(14,I (q_+1))]) (fun q_=>[(5,.box 0 [I s.kind,I s.sv,I s.deg,I s.grp]),(7,.box 0 [I t.num,I t.p,I t.width,.d (dRows t.rows)]),(10,.box 0 [I 0,I 0,I 0,I 0,.nl 2,.nl 4,.nl 8,.nl 8,.nl 15,I 0,I 0,.nl 5,.nl 2,.nl 1,.nl 1,.nl 4])]) (fun q_=>S-q_) [] [] (0) ?_
 rintro j hI
 try simp only at hI ⊢
 try have hI2:=hI.2
 by_cases hj:j<S
 ·repeat' (first|refine gS ?_|refine sp ?_ ?_ <;> intro h|(with_reducible apply And.intro)|exact aG|fail)
  all_goals try (exfalso;omega)
  (refine gW (find22 ppl (j+1) (by rw[ppl_len];omega)) ?_;rintro _ ⟨a,b,ok,rfl,hf⟩ <;> refine⟨rfl,?_⟩)
  obtain rfl:=hf ppl_ok ⟨ppl.getD j (0,0),mem_getD _ _ _ (by rw[ppl_len];omega),by simp [ppl,List.getD_eq_getElem?_getD,show j<10 by omega]⟩
  repeat' (first|refine gS ?_|refine sp ?_ ?_ <;> intro h|(with_reducible apply And.intro)|exact aG|fail)
  all_goals try (exfalso;omega)
  (exact⟨[],[],⟨(j+1),aI⟩,aX,aI⟩)
 obtain rfl:S=j:=by omega
 repeat' (first|refine gS ?_|refine sp ?_ ?_ <;> intro h|(with_reducible apply And.intro)|exact aG|fail)
 all_goals try (exfalso;omega)
 refine gl (κ:=Nat) hm0 (fun q_=>q_≤li.length) (fun q_=>[(1,.d (dTwos ppl)),(3,I seed),(4,.d (dInts li)),(5,.bp 5 0 0),(7,.bp 7 0 0),(10,.bp 10 0 0),(17,I q_)]) (fun q_=>[(5,.box 0 [I s.kind,I s.sv,I s.deg,I s.grp]),(7,.box 0 [I t.num,I t.p,I t.width,.d (dRows t.rows)]),(10,.box 0 [I 0,I 0,I 0,I 0,.nl 2,.nl 4,.nl 8,.nl 8,.nl 15,I 0,I 0,.nl 5,.nl 2,.nl 1,.nl 1,.nl 4])]) (fun q_=>li.length-q_) [] [] (0) ?_
 rintro i hI
 try simp only at hI ⊢
 try have hI2:=hI.2
 by_cases hi:i<li.length
 ·have hsl:=getD_map eI [] 0 li i hi
  have hx:=hli _ (mem_getD 0 li i hi)
  generalize li.getD i 0=x at *
  repeat' (first|refine gC hsl hi eI.eq_1 ?_|refine sp ?_ ?_ <;> intro h|(with_reducible apply And.intro)|exact aG|fail)
  all_goals try (exfalso;omega)
  (exact⟨[],[],⟨(i+1),aI⟩,aX,aI⟩)
 repeat' (first|refine gA @ppl_len ?_|refine sp ?_ ?_ <;> intro h|refine gP e4 ?_|refine gP e3 ?_|(with_reducible apply And.intro)|exact aG|fail)
 all_goals try (exfalso;omega)
 (refine gW (new39 t.num) ?_;rintro _ ⟨p,e,rfl,hp⟩ <;> refine⟨rfl,?_⟩)
 repeat' (first|refine gS ?_|refine sp ?_ ?_ <;> intro h|(with_reducible apply And.intro)|exact aG|fail)
 refine go_loopz 5000 hm0 (ι:=Option {q_:Nat × (List PSrv) × Nat // (1≤q_.1∧q_.1≤S∧q_.2.1.length=q_.1)∧∀ i,i<q_.2.1.length→SrvOK s (i+1:Nat) (q_.2.1.getD i noSrv)}) (fun o_=>match o_ with|none=>[(5,.bp 5 0 0),(7,.bp 7 0 0),(10,.bp 10 0 0),(20,.bp 20 0 0),(21,I 1)]|some q_=>[(5,.bp 5 0 0),(7,.bp 7 0 0),(10,.bp 10 0 0),(20,.bp 20 0 0),(21,I (q_.1.1+1))]) (fun o_=>match o_ with|none=>[(5,.box 0 [I s.kind,I s.sv,I s.deg,I s.grp]),(7,.box 0 [I t.num,I t.p,I t.width,.d (dRows t.rows)]),(10,.box 0 [I 0,I 0,I 0,I 0,.nl 2,.nl 4,.nl 8,.nl 8,.nl 15,I 0,I 0,.nl 5,.nl 2,.nl 1,.nl 1,.nl 4]),(20,.box 0 [I s.kind,I s.sv,I s.deg,I s.grp,.og 100 1,.d (dTabs [t]),.nl 8,.nl 8,.nl 15,I seed,I 0,.d (dStarts []),.d (dTwos p.rows),.d (dInts p.kept),.og 104 1,.nl 4]),(100,.arr 1 2 true (ppl.map eTwo)),(104,.arr 1 1 true (li.map eI))]|some q_=>[(5,.box 0 [I s.kind,I s.sv,I s.deg,I s.grp]),(7,.box 0 [I t.num,I t.p,I t.width,.d (dRows t.rows)]),(10,.box 0 [I 0,I 0,I 0,I 0,.nl 2,.nl 4,.nl 8,.nl 8,.nl 15,I 0,I 0,.nl 5,.nl 2,.nl 1,.nl 1,.nl 4]),(20,.box 0 [I s.kind,I s.sv,I s.deg,I s.grp,.og 100 1,.d (dTabs [t]),.og 143 q_.1.2.2,.nl 8,.nl 15,I seed,I 0,.d (dStarts []),.d (dTwos p.rows),.d (dInts p.kept),.og 104 1,.nl 4]),(100,.arr 1 2 true (ppl.map eTwo)),(104,.arr 1 1 true (li.map eI)),(143,.arr q_.1.2.2 8 true (q_.1.2.1.map eSrv))]) (fun o_=>match o_ with|none=>1000000000|some q_=>S-q_.1.1) [] [] none ?_ ?_
 ·simp only[GeZ];(simp only[GeS];refine⟨?_,?_,?_,?_⟩;all_goals (repeat' (first|(with_reducible exact True.intro)|(with_reducible rfl)|simp only[XC,↓reduceIte,seval]|(with_reducible apply And.intro)|(refine⟨_,rfl,?_⟩)|(simp [List.map_set,eI];done)|exact aS|fail)))
 rintro (_|⟨⟨j,sv,v⟩,hI⟩)
 all_goals (try simp only at hI)
 all_goals simp only
 all_goals try have hI2:=hI.2
 ·have e5:=new30x 1 s hsch (by omega) (by omega)
  repeat' (first|refine gS ?_|refine sp ?_ ?_ <;> intro h|refine gP e5 ?_|(with_reducible apply And.intro)|exact aG|fail)
  all_goals try (exfalso;omega)
  (refine gW (load30 ⟨1,s,true,[],[]⟩ t (s:=s) (id:=1) ⟨rfl,rfl,by simp,by simp,by simp,by simp⟩ (by omega) (fun x hx=>by have:=(ht.rows x hx).1;omega)) ?_;rintro _ ⟨v',e',rfl,hv'⟩ <;> refine⟨rfl,?_⟩)
  repeat' (first|refine gS ?_|refine sp ?_ ?_ <;> intro h|(with_reducible apply And.intro)|exact aG|fail)
  all_goals try (exfalso;omega)
  refine⟨[],[],some ⟨(1,[v'],0),⟨⟨by simp only;omega,by simp only;omega,rfl⟩,fun i hi=>?_⟩⟩,?_,by simp only;omega⟩
  ·simp only[List.length_singleton] at hi
   obtain rfl:i=0:=by omega
   exact hv'
  ·exact aY eSrv.eq_1
 ·by_cases hj:j<S
  ·have e5:=new30x (j+1) s hsch (by omega) (by omega)
   repeat' (first|refine gS ?_|refine sp ?_ ?_ <;> intro h|refine gP e5 ?_|(with_reducible apply And.intro)|exact aG|fail)
   all_goals try (exfalso;omega)
   (refine gW (load30 ⟨(j:Int)+1,s,true,[],[]⟩ t (s:=s) (id:=(j+1:Nat)) ⟨by simp only;omega,rfl,by simp,by simp,by simp,by simp⟩ (by omega) (fun x hx=>by have:=(ht.rows x hx).1;omega)) ?_;rintro _ ⟨v',e',rfl,hv'⟩ <;> refine⟨rfl,?_⟩)
   repeat' (first|refine gS ?_|refine sp ?_ ?_ <;> intro h|(with_reducible apply And.intro)|exact aG|fail)
   all_goals try (exfalso;omega)
   refine⟨[],[],some ⟨(j+1,sv++[v'],v+1),⟨⟨by simp only;omega,by simp only;omega,by simp only[List.length_append,List.length_singleton];omega⟩,fun i hi=>?_⟩⟩,?_,by simp only;omega⟩
   ·simp only[List.length_append,List.length_singleton] at hi
    rw[getD_snoc]
    by_cases hil:i<sv.length
    ·rw[if_pos hil];exact hI2 i hil
    ·obtain rfl:i=j:=by omega
     rw[if_neg (by omega),if_pos (by omega)];exact hv'
   ·exact aY eSrv.eq_1
  ·repeat' (first|refine gS ?_|refine sp ?_ ?_ <;> intro h|(with_reducible apply And.intro)|exact aG|fail)
   all_goals try (exfalso;omega)
   refine dP ?_
   refine⟨⟨s,ppl,[t],sv,[],[],⟨seed,0,[]⟩,p,li,[]⟩,0,rfl,hs3,hs6,by simp [ppl_len],pub_one ht,by simp only;omega,hI2,by simp,by simp,by simp,by simp,by simp,hp,by simp only;omega,by simp⟩
end Go.Proofs.YticdbambknflgaaGreat.Sim
end

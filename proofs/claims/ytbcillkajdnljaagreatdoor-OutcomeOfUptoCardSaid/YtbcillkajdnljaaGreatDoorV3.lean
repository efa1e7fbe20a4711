import Derived.Test.YtbcillkajdnljaaGreatDoorVA
import Derived.Maps.OwnIn
import Derived.Maps.Views
import Derived.Maps.OwnOps
import Derived.WalkKit
import Derived.Laws.Externs
import Derived.Test.YtbcillkajdnljaaGreatDoorChecked
set_option linter.all false
namespace Go.Proofs.YtbcillkajdnljaaGreatDoor
open Tryz
open Go Go.Proofs Go.RowKit Go.Maps
def tH:Keyed prog 9:=string_keyed underlying9
def DH (w:World):(zeroValue 3).run prog w= .ok (.int .i64 0) w:=by kernel_rfl
def Seen {H:Type} (D:DataW H) (l:List (List UInt8)):Prop:=IsMap D∧∀ s:List UInt8,D.atKey (.string s) (.lit (.int .i64 0))= .lit (.int .i64 (if s∈l then 1 else 0))
def vM {H:Type} {D:DataW H} {l:List (List UInt8)} {x:List UInt8} {c c2:Int} (hm:IsMap D) (hs:∀ s:List UInt8,D.atKey (.string s) (.lit (.int .i64 0))= .lit (.int .i64 (if s∈l then 1 else 0)))
  (hat:D.atKey (.string x) (.lit (.int .i64 0))= .lit (.int .i64 c)) {n:Int} (hat2:(D.put (.string x) (.lit (.int .i64 n))).atKey (.string x) (.lit (.int .i64 0))= .lit (.int .i64 c2)):c=(if x∈l then 1 else 0)∧c2=n:=by
 rw [hs x] at hat
 rw [atKey_put_same hm (by first|exact trivial|simp [WideAt.IsKeyLit])] at hat2
 simp only [DataW.lit.injEq,Lit.int.injEq,true_and] at hat hat2
 exact ⟨hat.symm,hat2.symm⟩
def J0 {H:Type} {D:DataW H} {l l2:List (List UInt8)} {x:List UInt8} {n:Int} (hm:IsMap D) (hs:∀ s:List UInt8,D.atKey (.string s) (.lit (.int .i64 0))= .lit (.int .i64 (if s∈l then 1 else 0))) (hn:n=1) (hl:l2=l++[x]):
  Seen (D.put (.string x) (.lit (.int .i64 n))) l2:=by
 subst hn hl
 refine ⟨?_,fun s=>?_⟩
 ·obtain ⟨es,rfl⟩:=hm
  exact ⟨_,rfl⟩
 ·by_cases h:s=x
  ·subst h
   rw [atKey_put_same hm (by first|exact trivial|simp [WideAt.IsKeyLit])]
   simp
  ·rw [atKey_put_other (by simpa using h),hs s]
   simp [h]
set_option maxHeartbeats 4000000 in
set_option maxRecDepth 100000 in
def LX (b off cap:Nat) (ks:List (List UInt8)) (w:World) (hreach:ks.length*16≤140737488351232) (hb:0<ks.length→b<w.heap.size) (hkl:∀ k∈ks,k.length≤1048576)
  (hc:∀ j,j<ks.length→w.cell? ⟨b,off+j,none⟩=some (.string ⟨(ks.getD j []).toArray⟩)):
  Calls prog 276 #[.slice (some ⟨b,off,none⟩) ks.length cap] w fun e w'=>e= .returned (.bool (decide ¬ ks.Nodup))∧Below w.heap.size w w':=by
 have hmm:=@run_makeMap prog
 go_enter func276,ntmps276
 go_wp2
 go_loopw [9] (fun i wr=>∃ k:Nat,∃ D:DataW Unit,k≤ks.length∧i= .int .i64 k∧wr.ownsMap prog 9 (plainElem prog 3) w.heap.size k D∧Below w.heap.size w wr∧Seen D (ks.take k)∧(ks.take k).Nodup)
  (fun i _=>ks.length - (intOf i).toNat)
 case atStart=>exact ⟨0,.map [],aaK _,rfl,World.ownsMap_made _ _ _ _,(Below.refl _ _).alloc (aat _) _,⟨⟨[],rfl⟩,fun s=>rfl⟩,by simp⟩
 case round=>
  obtain ⟨k,D,hk,rfl,hown,hnx,hseen,hnd⟩:=hrel
  have hcx:k<ks.length→wr.cell? ⟨b,off+k,none⟩=some (.string ⟨(ks.getD k []).toArray⟩):=fun h=>(hnx.cell (by exact hb (by omega))).trans (hc k (by omega))
  have hsz:(ks.getD k []).length≤1048576:=by
   rw [aam];cases h:ks[k]? with
   |none=>simp
   |some x=>exact hkl x (aaR h)
  have hxm:k<ks.length→ks.getD k []∈ks:=fun h=>by
   rw [aam,aaw (by omega)];exact aaX _
  have htk:k<ks.length→ks.take (k+1)=ks.take k++[ks.getD k []]:=fun h=>by
   rw [List.take_add_one,aam,aaw (by omega)];rfl
  have hdr:k<ks.length→¬ (ks.take k++[ks.getD k []]).Nodup→¬ ks.Nodup:=fun h hn hd=>hn (by rw [←htk h];exact hd.sublist (List.take_sublist _ _))
  obtain ⟨x,hx⟩:∃ x,ks.getD k []=x:=⟨_,rfl⟩
  rw [hx] at hcx hsz hxm htk hdr
  clear hx
  have hkey:keyOf prog 9 (.string ⟨x.toArray⟩)=some (.string x):=WideMaps.keyOf_string_mk underlying9 (by simp only [ByteArray.size,aaW,maxLen];omega)
  have HDR:Hid (k<ks.length→¬ (ks.take k++[x]).Nodup→¬ ks.Nodup):=hdr
  have HTK:Hid (k<ks.length→ks.take (k+1)=ks.take k++[x]):=htk
  have HND:Hid ((ks.take k).Nodup):=hnd
  clear hdr htk hxm hnd hkl hc
  go_wp2_with (first
   |(at_lookup;refine wpList_lookup_own_int _ rfl _ _ 92 rfl 9 3 .i64 tH underlying92 underlying3 (DH _) w.heap.size k _ rfl hown _ _ rfl hkey ?_;intro c hat hwc;change Hid _ at hat;change Hid _ at hwc)
   |(at_mapUpdate;refine wpList_mapUpdate_own _ rfl _ _ _ 92 rfl 9 3 tH underlying92 _ w.heap.size k _ rfl hown (by unfold maxLen;omega) _ _ _ rfl rfl hkey _ [] (plainElem_int underlying3 (wrap64_wf _)) ?_;intro w1 hown1 hgrow1)
   |(at_lookup;refine wpList_lookup_own_int _ rfl _ _ 92 rfl 9 3 .i64 tH underlying92 underlying3 (DH _) w.heap.size (k+1) _ rfl hown1 _ _ rfl hkey ?_;intro c2 hat2 hwc2;change Hid _ at hat2;change Hid _ at hwc2)
   |go_in)
  ·have hlt:k<ks.length:=by omega
   obtain ⟨h1,h2⟩:=vM hseen.1 hseen.2 hat.out hat2.out
   have hdr:=HDR.out
   have htk:=HTK.out
   have hnd:=HND.out
   have hxk:x∈ks.take k:=by
    refine Decidable.not_not.1 fun hn=>?_;rw [if_neg hn] at h1;subst h1;have:wrap64 (0+1)=1:=IntWalk.wrap64_in 1 ⟨by omega,by omega⟩;omega
   have hr:decide (¬ ks.Nodup)=true:=decide_eq_true (hdr hlt fun hd=>(List.nodup_append.1 hd).2.2 x hxk x (abg.2 rfl) rfl)
   rw [hr]
   go_ret
   exact ⟨rfl,hnx.grown hgrow1 hnx.size (fun j hj=>by cases hj;exact aat _)⟩
  ·have hlt:k<ks.length:=by omega
   obtain ⟨h1,h2⟩:=vM hseen.1 hseen.2 hat.out hat2.out
   have hdr:=HDR.out
   have htk:=HTK.out
   have hnd:=HND.out
   have hxk:x ∉ ks.take k:=by
    intro hn;rw [if_pos hn] at h1;subst h1;have:wrap64 (1+1)=2:=IntWalk.wrap64_in 2 ⟨by omega,by omega⟩;omega
   rw [if_neg hxk] at h1
   have H1:Hid (c=0):=h1
   clear h1 h2 hdr htk hnd
   go_roundw
   case rel=>
    have htk:=HTK.out
    have hnd:=HND.out
    have h1:=H1.out
    refine ⟨k+1,_,by omega,by go_num,hown1,hnx.grown hgrow1 hnx.size (fun j hj=>by cases hj;exact aat _),J0 hseen.1 hseen.2 ?_ (htk hlt),?_⟩
    ·rw [h1];exact IntWalk.wrap64_in 1 ⟨by omega,by omega⟩
    ·rw [htk hlt,List.nodup_append]
     exact ⟨hnd,by simp,fun a ha b hb=>by rintro rfl;exact hxk (by rw [abg.1 hb] at ha;exact ha)⟩
   case measure=>simp [intOf];omega
  ·have hke:k=ks.length:=by omega
   subst hke
   have hr:decide (¬ ks.Nodup)=false:=by
    have hnd:=HND.out;rw [aaO (by omega)] at hnd;exact decide_eq_false fun h=>h hnd
   rw [hr]
   go_ret
   exact ⟨rfl,hnx⟩
set_option maxHeartbeats 4000000 in
set_option maxRecDepth 100000 in
def LW (lp:Option Addr) (w:World):Calls prog 276 #[.slice lp 0 0] w fun e w'=>e= .returned (.bool false)∧Below w.heap.size w w':=by
 have hmm:=@run_makeMap prog;go_enter func276,ntmps276;go_wp2;refine wp_loop_rounds 1 ?_;rw [rounds_succ];go_wp2;go_ret;exact ⟨rfl,(Below.refl _ _).alloc (aat _) _⟩
